/- Several texts in one: XCyF, XCyG, XCyJ, XPosT, XPzP, XPzA, XPzB, XPzC, XPzD, XPosU, XPzE, XCyK, XCyH, XCyL, XCyM, XCyN, XCyO, XCyQ. -/
import Derived.Test.YtkdjnmcaifejjaaCb1
import Derived.Test.YtkdjnmcaifejjaaYLaw
/- Contract of package cycle: moves. -/
namespace Go.Proofs.Ytkdjnmcaifejjaa
open Go.RowKit Go.Sy
attribute [local irreducible] vcall vloop vcallD retP sortI
set_option maxRecDepth 100000
set_option linter.unusedVariables false
set_option linter.unusedSimpArgs false

/-- The first cycle at a date or later that is not closed; none: -1. -/
def mvF (hs cd : List Int) : Nat → Int → Int
  | 0, _ => -1
  | k + 1, x => if x < 0 then -1 else if x ∈ cd then mvF hs cd k (nxI hs (x + 1)) else x
@[irreducible] def mvD (hs cd : List Int) (x : Int) : Int := mvF hs cd 100001 x
theorem mvF_neg {hs cd : List Int} {x : Int} (h : x < 0) : ∀ k, mvF hs cd k x = -1
  | 0 => rfl
  | k + 1 => by simp only [mvF]; rw [if_pos h]
theorem mvF_ok {hs cd : List Int} : ∀ (k : Nat) (x : Int), mvF hs cd k x < 0 ∨ (0 ≤ x ∧ x ≤ mvF hs cd k x ∧ ¬ mvF hs cd k x ∈ cd ∧ (mvF hs cd k x = x ∨ (x ∈ cd ∧ busB hs (mvF hs cd k x) = true)))
  | 0, x => .inl (by simp [mvF])
  | k + 1, x => by
    simp only [mvF]
    split
    · exact .inl (by omega)
    · rename_i h0
      split
      · rename_i h1
        rcases mvF_ok (hs := hs) (cd := cd) k (nxI hs (x + 1)) with h | ⟨h2, h3, h4, h5⟩
        · exact .inl h
        · have := nxI_ok (hs := hs) (d := x + 1) (by omega)
          refine .inr ⟨by omega, by omega, h4, .inr ⟨h1, ?_⟩⟩
          rcases h5 with h5 | h5
          · rw [h5]; exact this.2.2
          · exact h5.2
      · rename_i h1
        exact .inr ⟨by omega, Int.le_refl _, h1, .inl rfl⟩
def ofP (x : Int) : Int := if x < 0 then 0 else x
def ofQ (x : Int) : Int := if x < 0 then 14 else 0
theorem ofV_eq (x : Int) : ofV x = .tup [.int .i64 (ofP x), .int .i64 (ofQ x)] := by unfold ofV ofP ofQ; split <;> rfl
theorem ofI_le {hs : List Int} {cut t : Int} : ofI hs cut t ≤ 99999 := by
  unfold ofI
  split
  · omega
  · rename_i h
    have := dayI_ok h
    split
    · omega
    · by_cases q : nxI hs (dayI t + 1) < 0
      · omega
      · exact (nxI_ok q).2.1
/-- The book of a date; what a move makes of the dates and the books. -/
def bkAt (ds : List Int) (B : List Bk) (pr : List ByteArray) (d : Int) : Bk := if d ∈ ds then B.getD (iidx ds d) bk0 else nwB pr
def mvDs (ds : List Int) (d : Int) : List Int := if d ∈ ds then ds else ds ++ [d]
def mvBs (ds : List Int) (B : List Bk) (d : Int) (b : Bk) : List Bk := if d ∈ ds then B.set (iidx ds d) b else B ++ [b]
def mvX (hs ds cd : List Int) (B : List Bk) (pr : List ByteArray) (D : Int) (f t c : ByteArray) (a : Int) : Int := if D < 0 then 14 else mvE (bkAt ds B pr D) f t c a
def mvO (np m : Nat) (hs ds cd : List Int) (B : List Bk) (pr : List ByteArray) (D : Int) (f t c : ByteArray) (a : Int) : SV → Heap → Nat → Prop :=
  if mvX hs ds cd B pr D f t c a = 0 then isOut (.tup [.int .i64 D, .int .i64 0]) (bksH 5 10 11 12 np (mvDs ds D).length (mvDs ds D) (mvBs ds B D ((bkAt ds B pr D).mv f t c a)) (sortS pr)) 13
  else isOut (.tup [.int .i64 0, .int .i64 (mvX hs ds cd B pr D f t c a)]) (bksH 5 7 8 9 np m ds B (sortS pr)) 10
abbrev mvH (np m hn nc : Nat) (cut : Int) (hs ds cd : List Int) (B : List Bk) (pr : List ByteArray) : Heap := (1, cyC true 2 4 5 6 np cut) :: (2, calC true 3) :: (3, tmM true hn hs) :: (4, cyP true np pr) :: (6, tmM true nc cd) :: bksH 5 7 8 9 np m ds B (sortS pr)
theorem f9_app_lt {B : List Bk} {q : Nat} (h : q < B.length) (b : Bk) : f9 (B ++ [b]) q = f9 B q := by
  unfold f9
  rw [List.getD, List.getD, List.getElem?_append_left h]
theorem f9_app_at {B : List Bk} {m : Nat} (h : B.length = m) (b : Bk) : f9 (B ++ [b]) m = bkMb b := by
  unfold f9
  rw [List.getD, List.getElem?_append_right (by omega), ← h, Nat.sub_self]; rfl
theorem mvO_none {np m : Nat} {hs ds cd : List Int} {B : List Bk} {pr : List ByteArray} {D : Int} {f t c : ByteArray} {a : Int} (h : D < 0) : mvO np m hs ds cd B pr D f t c a = isOut (.tup [.int .i64 0, .int .i64 14]) (bksH 5 7 8 9 np m ds B (sortS pr)) 10 := by
  unfold mvO mvX
  rw [if_pos h, if_neg (by decide)]
theorem mvO_err {np m : Nat} {hs ds cd : List Int} {B : List Bk} {pr : List ByteArray} {D : Int} {f t c : ByteArray} {a : Int} (h : ¬ D < 0) (he : ¬ mvE (bkAt ds B pr D) f t c a = 0) : mvO np m hs ds cd B pr D f t c a = isOut (.tup [.int .i64 0, .int .i64 (mvE (bkAt ds B pr D) f t c a)]) (bksH 5 7 8 9 np m ds B (sortS pr)) 10 := by
  unfold mvO mvX
  rw [if_neg h, if_neg he]
theorem mvO_old {np m : Nat} {hs ds cd : List Int} {B : List Bk} {pr : List ByteArray} {D : Int} {f t c : ByteArray} {a : Int} (h : ¬ D < 0) (he : mvE (bkAt ds B pr D) f t c a = 0) (hd : D ∈ ds) (hm : ds.length = m) : mvO np m hs ds cd B pr D f t c a = isOut (.tup [.int .i64 D, .int .i64 0]) (bksH 5 10 11 12 np m ds (B.set (iidx ds D) ((bkAt ds B pr D).mv f t c a)) (sortS pr)) 13 := by
  unfold mvO mvX mvDs mvBs
  rw [if_neg h, if_pos he, if_pos hd, if_pos hd, hm]
theorem mvO_new {np m : Nat} {hs ds cd : List Int} {B : List Bk} {pr : List ByteArray} {D : Int} {f t c : ByteArray} {a : Int} (h : ¬ D < 0) (he : mvE (bkAt ds B pr D) f t c a = 0) (hd : ¬ D ∈ ds) (hm : ds.length = m) : mvO np m hs ds cd B pr D f t c a = isOut (.tup [.int .i64 D, .int .i64 0]) (bksH 5 10 11 12 np (m + 1) (ds ++ [D]) (B ++ [(bkAt ds B pr D).mv f t c a]) (sortS pr)) 13 := by
  unfold mvO mvX mvDs mvBs
  rw [if_neg h, if_pos he, if_neg hd, if_neg hd, List.length_append, hm]; rfl
theorem ptrs_ren {n m h h' : Nat} {R : Nat → Nat → Option (Nat × Nat)} (hn : n ≤ h') (h1 : ∀ q, q < m → R h' q = some (h, q)) : ∀ i, i < m → SLe n R ((BCol.svs (ptrL h m)).at i) ((BCol.ptrs h' m).at i) := by
  intro i hi
  have e1 : (BCol.svs (ptrL h m)).at i = .ptr h i 0 0 := ptrL_at hi
  rw [e1]
  exact sle_ptr hn (h1 i hi)
theorem bkPut_old {ds : List Int} {m : Nat} (hm : ds.length = m) {D : Int} (hd : D ∈ ds) : (some (HB.one false (.obj (.map false false (if iidx ds D < m then m else m + 1) [.ints .i64 (putL (iidx ds D) D ds)] [.svs (putL (iidx ds D) (.ptr 7 (iidx ds D) 0 0) (ptrL 7 m))] (if iidx ds D < m then List.range m else List.range m ++ [m]) (if iidx ds D < m then m else m + 1)))) : Option HB) = some (.one false (.obj (.map false false m [.ints .i64 ds] [.svs (ptrL 7 m)] (List.range m) m))) := by
  have hi := iidx_lt.2 hd
  rw [iput_key, if_pos hi, if_pos (by omega), if_pos (by omega), ptrL_put (by omega)]
theorem bkPut_new {ds : List Int} {m h : Nat} (hm : ds.length = m) {D : Int} (hd : ¬ D ∈ ds) : (some (HB.one false (.obj (.map false false (if iidx ds D < m then m else m + 1) [.ints .i64 (putL (iidx ds D) D ds)] [.svs (putL (iidx ds D) (.ptr h 0 0 0) (ptrL 7 m))] (if iidx ds D < m then List.range m else List.range m ++ [m]) (if iidx ds D < m then m else m + 1)))) : Option HB) = some (.one false (.obj (.map false false (m + 1) [.ints .i64 (ds ++ [D])] [.svs (ptrL 7 m ++ [.ptr h 0 0 0])] (List.range (m + 1)) (m + 1)))) := by
  have hi : ¬ iidx ds D < ds.length := fun q => hd (iidx_lt.1 q)
  have e : iidx ds D = m := by have := iidx_le ds D; omega
  rw [iput_key, if_neg hi, if_neg (by omega), if_neg (by omega), e, ptrL_new, List.range_succ]
theorem bks_rw {h5 h7 h8 h9 np m : Nat} {ds : List Int} {B : List Bk} {sp : List ByteArray} : allRw (bksH h5 h7 h8 h9 np m ds B sp) := allRw_cons (allRw_fam (allRw_fam (allRw_fam allRw_nil)))
/-- The books get new names; a new one is gathered with them. -/
abbrev odD (n np : Nat) (B : List Bk) (sp : List ByteArray) : List RD := [⟨7, f7 (n + 1) (n + 2) np⟩, ⟨8, f8 np sp⟩, ⟨9, f9 B⟩]
theorem bks_old {H : Heap} {n m np : Nat} {ds : List Int} {B : List Bk} {sp : List ByteArray} (hn : 10 ≤ n) (h5 : hget H 5 = some (.one false (.obj (.map false false m [.ints .i64 ds] [.svs (ptrL 7 m)] (List.range m) m)))) (h7 : hget H 7 = fmB false m (f7 8 9 np)) (h8 : hget H 8 = fmB false m (f8 np sp)) (h9 : hget H 9 = fmB false m (f9 B)) :
    Relab H n (rdR n m (odD n np B sp)) (fun _ => 0) ((5, cyB false n m ds) :: rdN n m 0 (odD n np B sp)) [7, 8, 9] 3 := by
  have r0 : ∀ q, q < m → rdR n m (odD n np B sp) n q = some (7, q) := fun q hq => rdR_at (D := odD n np B sp) (i := 0) (d := ⟨7, f7 (n + 1) (n + 2) np⟩) rfl hq
  have r1 : ∀ q, q < m → rdR n m (odD n np B sp) (n + 1) q = some (8, q) := fun q hq => rdR_at (D := odD n np B sp) (i := 1) (d := ⟨8, f8 np sp⟩) rfl hq
  have r2 : ∀ q, q < m → rdR n m (odD n np B sp) (n + 2) q = some (9, q) := fun q hq => rdR_at (D := odD n np B sp) (i := 2) (d := ⟨9, f9 B⟩) rfl hq
  exact relab_ren (n := n) (th := 5) (odD n np B sp) (by omega) h5 (ble_map1 rfl (ptrs_ren (by omega) r0))
    ⟨⟨(show (7 : Nat) ≠ 5 by decide), _, _, h7, fun q hq => ⟨hq, ble_cells ⟨sle_sl (by omega) (r1 q hq), sle_map (by omega) (r2 q hq), trivial⟩⟩⟩, ⟨(show (8 : Nat) ≠ 5 by decide), _, _, h8, fun q hq => ⟨hq, .inl rfl⟩⟩, ⟨(show (9 : Nat) ≠ 5 by decide), _, _, h9, fun q hq => ⟨hq, .inl rfl⟩⟩, trivial⟩ rfl
abbrev nwD (n h np : Nat) (B : List Bk) (sp : List ByteArray) : List GD := [⟨7, h, f7 (n + 1) (n + 2) np⟩, ⟨8, h + 1, f8 np sp⟩, ⟨9, h + 2, f9 B⟩]
theorem bks_new {H : Heap} {n m np h : Nat} {ds : List Int} {B : List Bk} {b : Bk} {sp : List ByteArray} (hn : 10 ≤ n) (hh : 10 ≤ h) (hB : B.length = m) (h5 : hget H 5 = some (.one false (.obj (.map false false (m + 1) [.ints .i64 ds] [.svs (ptrL 7 m ++ [.ptr h 0 0 0])] (List.range (m + 1)) (m + 1))))) (h7 : hget H 7 = fmB false m (f7 8 9 np)) (h8 : hget H 8 = fmB false m (f8 np sp)) (h9 : hget H 9 = fmB false m (f9 B)) (k7 : hget H h = bkC false (h + 1) (h + 2) np) (k8 : hget H (h + 1) = cyP false np sp) (k9 : hget H (h + 2) = bkM false b) (hdist : gdDist (nwD n h np (B ++ [b]) sp) = true) :
    Relab H n (gdR n m (nwD n h np (B ++ [b]) sp)) (fun _ => 0) ((5, cyB false n (m + 1) ds) :: gdN n (m + 1) 0 (nwD n h np (B ++ [b]) sp)) [7, h, 8, h + 1, 9, h + 2] 3 := by
  have r0 : ∀ q, q < m → gdR n m (nwD n h np (B ++ [b]) sp) n q = some (7, q) := fun q hq => gdR_old (D := nwD n h np (B ++ [b]) sp) (i := 0) (d := ⟨7, h, f7 (n + 1) (n + 2) np⟩) rfl hq
  have r1 : ∀ q, q < m → gdR n m (nwD n h np (B ++ [b]) sp) (n + 1) q = some (8, q) := fun q hq => gdR_old (D := nwD n h np (B ++ [b]) sp) (i := 1) (d := ⟨8, h + 1, f8 np sp⟩) rfl hq
  have r2 : ∀ q, q < m → gdR n m (nwD n h np (B ++ [b]) sp) (n + 2) q = some (9, q) := fun q hq => gdR_old (D := nwD n h np (B ++ [b]) sp) (i := 2) (d := ⟨9, h + 2, f9 (B ++ [b])⟩) rfl hq
  have s0 : gdR n m (nwD n h np (B ++ [b]) sp) n m = some (h, 0) := gdR_new (D := nwD n h np (B ++ [b]) sp) (i := 0) (d := ⟨7, h, f7 (n + 1) (n + 2) np⟩) rfl
  have s1 : gdR n m (nwD n h np (B ++ [b]) sp) (n + 1) m = some (h + 1, 0) := gdR_new (D := nwD n h np (B ++ [b]) sp) (i := 1) (d := ⟨8, h + 1, f8 np sp⟩) rfl
  have s2 : gdR n m (nwD n h np (B ++ [b]) sp) (n + 2) m = some (h + 2, 0) := gdR_new (D := nwD n h np (B ++ [b]) sp) (i := 2) (d := ⟨9, h + 2, f9 (B ++ [b])⟩) rfl
  exact relab_fams (n := n) (th := 5) (nwD n h np (B ++ [b]) sp) (by omega) h5 (ble_map1 rfl (ptrs_put (by omega) r0 s0))
    ⟨⟨(show (7 : Nat) ≠ 5 by decide), (show h ≠ 5 by omega), ⟨_, _, h7, fun q hq => ⟨hq, ble_cells ⟨sle_sl (by omega) (r1 q hq), sle_map (by omega) (r2 q hq), trivial⟩⟩⟩, _, k7, ble_cells ⟨sle_sl (by omega) s1, sle_map (by omega) s2, trivial⟩⟩,
      ⟨(show (8 : Nat) ≠ 5 by decide), (show h + 1 ≠ 5 by omega), ⟨_, _, h8, fun q hq => ⟨hq, .inl rfl⟩⟩, _, k8, .inl rfl⟩,
      ⟨(show (9 : Nat) ≠ 5 by decide), (show h + 2 ≠ 5 by omega), ⟨_, _, h9, fun q hq => ⟨hq, .inl (f9_app_lt (by rw [hB]; exact hq) b)⟩⟩, _, k9, .inl (f9_app_at hB b)⟩, trivial⟩ hdist
set_option maxHeartbeats 1000000 in
theorem cy_Move {np m hn nc : Nat} {hs ds cd : List Int} {B : List Bk} {pr : List ByteArray} (hb : BksI ds B m np (sortS pr)) (hh : hs.length = hn) (hc : cd.length = nc) (hp : pr.length = np) (he : nwErr pr = 0) (cut t : Int) (f g c : ByteArray) (a : Int) : FC Try.prog 10 17 [.ptr 1 0 0 0, .int .i64 t, .str f, .str g, .agg [.int .i64 a, .str c]] (mvH np m hn nc cut hs ds cd B pr) (mvO np m hs ds cd B pr (mvD hs cd (ofI hs cut t)) f g c a) := by
  have c1 := cy_Of np hn cut hs hh t
  rw [ofV_eq] at c1
  have hX := ofI_le (hs := hs) (cut := cut) (t := t)
  have hg : ∀ d, (List.replicate nc true).getD (iidx cd d) false = decide (d ∈ cd) := tm_get hc
  generalize ofI hs cut t = X at *
  have hD : mvF hs cd 100001 X = mvD hs cd X := by unfold mvD; rfl
  generalize mvD hs cd X = D at *
  obtain ⟨K0, hK⟩ : ∃ K : Nat, K = 100001 := ⟨_, rfl⟩
  rw [← hK] at hD
  refine fc_of mixed T_ok Try.func17 rfl (by kernel_rfl) (by kernel_rfl) (by kernel_rfl) ?_
  repeat' ((conv => whnf); first | refine vcall_o (l := [0, 1, 2, 3, 4, 5, 6, 7, 8, 9]) (c1) ?_ | ((first | apply br_dec | apply br_ndec) <;> intro h <;> try (exfalso; (try dsimp only at h); omega)) | ((first | apply br_seq | apply br_nseq | apply br_not | apply br_intro) <;> intro h) | refine cond_a ?_)
  all_goals (conv => whnf)
  refine vloop_of (fun x : Nat × Int => ⟨[(0, .ptr 1 0 0 0), (2, .str f), (3, .str g), (9, .ptr 10 0 0 0), (12, .int .i64 (ofP x.2)), (13, .int .i64 (ofQ x.2))], (10, some (.one false (.cells [.int .i64 a, .str c]))) :: mvH np m hn nc cut hs ds cd B pr, 11⟩) (fun x => mvF hs cd x.1 x.2 = D ∧ x.2 ≤ 99999 ∧ (x.2 < 0 ∨ 100001 - x.2 ≤ (x.1 : Int))) (fun x => x.1) (K0, X) [0, 1, 2, 3, 4, 5, 6, 7, 8, 9, 10] [] ⟨rfl, ⟨rfl, rfl, rfl, rfl, rfl, rfl, trivial⟩, ⟨rfl, rfl, rfl, rfl, rfl, rfl, rfl, rfl, rfl, rfl, trivial⟩⟩ ⟨hD, hX, by dsimp only; omega⟩ ?_
  rintro ⟨k, x⟩ ⟨hF, hx, hk⟩
  dsimp only at hF hx hk
  clear hD hX hK c1
  by_cases h0 : x < 0
  · have e1 : ofP x = 0 := if_pos h0
    have e2 : ofQ x = 14 := if_pos h0
    dsimp only
    rw [e1, e2]
    rw [mvF_neg h0] at hF
    subst hF
    rw [mvO_none (by decide)]
    repeat' ((conv => whnf); first | ((first | apply br_dec | apply br_ndec) <;> intro h <;> try (exfalso; (try dsimp only at h); omega)) | ((first | apply br_seq | apply br_nseq | apply br_not | apply br_intro) <;> intro h) | refine cond_a ?_)
    all_goals (conv => whnf)
    all_goals first
      | exact ret_out (l := [0, 1, 2, 3, 4, 5, 6, 7, 8, 9]) rfl rfl ⟨rfl, rfl, rfl, rfl, trivial⟩ bks_rw
      | (exfalso; omega)
      | trace_state
  · have e1 : ofP x = x := if_neg h0
    have e2 : ofQ x = 0 := if_neg h0
    dsimp only
    rw [e1, e2]
    obtain ⟨k, rfl⟩ : ∃ j, k = j + 1 := ⟨k - 1, by omega⟩
    simp only [mvF] at hF
    rw [if_neg h0] at hF
    have hgx := hg x
    by_cases hxc : x ∈ cd
    · rw [if_pos hxc] at hF
      rw [decide_eq_true hxc] at hgx
      have c2 := cy_later np hn cut hs hh x (by omega) hx
      rw [ofV_eq] at c2
      have hN : nxI hs (x + 1) ≤ 99999 ∧ (nxI hs (x + 1) < 0 ∨ x + 1 ≤ nxI hs (x + 1)) := by
        by_cases q : nxI hs (x + 1) < 0
        · exact ⟨by omega, .inl q⟩
        · have := nxI_ok q
          exact ⟨this.2.1, .inr this.1⟩
      generalize nxI hs (x + 1) = y at *
      repeat' ((conv => whnf); first | refine vcall_o (l := [0, 1, 2, 3, 4, 5, 6, 7, 8, 9]) (c2) ?_ | ((first | apply br_dec | apply br_ndec) <;> intro h <;> try (exfalso; (try dsimp only at h); omega)) | ((first | apply br_seq | apply br_nseq | apply br_not | apply br_intro) <;> intro h) | refine cond_a ?_)
      all_goals (conv => whnf)
      all_goals first
        | exact ⟨(k, y), [0, 1, 2, 3, 4, 5, 6, 7, 8, 9, 10], [], ⟨hF, hN.1, by dsimp only; omega⟩, Nat.lt_succ_self k, ⟨rfl, ⟨rfl, rfl, rfl, rfl, rfl, rfl, trivial⟩, ⟨rfl, rfl, rfl, rfl, rfl, rfl, rfl, rfl, rfl, rfl, trivial⟩⟩⟩
        | (exfalso; rw [hgx] at h; cases h; done)
        | (exfalso; omega)
        | trace_state
    · rw [if_neg hxc] at hF
      rw [decide_eq_false hxc] at hgx
      subst hF
      by_cases hd : x ∈ ds
      · have hi : iidx ds x < m := by rw [← hb.dl]; exact iidx_lt.2 hd
        obtain ⟨b1, b2, b3, b4⟩ := hb.I _ hi
        have c3 := cy_book_old (np := np) hb.dl cut x hd
        have c4 := pos_MoveF hi hb.bl b1 b2 b3 f g c a
        have hat : bkAt ds B pr x = B.getD (iidx ds x) bk0 := if_pos hd
        have hput := bkPut_old hb.dl hd
        rw [← hat] at c4
        by_cases hz : mvE (bkAt ds B pr x) f g c a = 0
        · rw [mvO_old h0 hz hd hb.dl]
          rw [hz] at c4
          generalize (bkAt ds B pr x).mv f g c a = b' at *
          repeat' ((conv => whnf); first | refine vcall_o (l := [0, 1, 2, 3, 4, 5, 6, 7, 8, 9]) (c3) ?_ | refine vcall_o (l := [0, 7, 8, 9]) (c4) ?_ | ((first | apply br_dec | apply br_ndec) <;> intro h <;> try (exfalso; (try dsimp only at h); omega)) | ((first | apply br_seq | apply br_nseq | apply br_not | apply br_intro) <;> intro h) | refine cond_a ?_)
          all_goals (conv => whnf)
          all_goals first
            | exact ret_up (l := [0, 1, 2, 3, 4, 5, 6, 7, 8, 9, 11, 12, 13]) [.relab (rdR 11 m (odD 11 np (B.set (iidx ds x) b') (sortS pr))) (fun _ => 0) ((5, cyB false 11 m ds) :: rdN 11 m 0 (odD 11 np (B.set (iidx ds x) b') (sortS pr))) [7, 8, 9] 3] ⟨bks_old (n := 11) (by decide) hput rfl rfl rfl, rfl, rfl, ⟨rfl, rfl, rfl, rfl, trivial⟩⟩ bks_rw
            | (exfalso; rw [hgx] at h; cases h; done)
            | (exfalso; omega)
            | trace_state
        · rw [mvO_err h0 hz]
          have hbs : mvE (bkAt ds B pr x) f g c a ≠ 0 := hz
          have hmv : (bkAt ds B pr x).mv f g c a = bkAt ds B pr x := if_neg hz
          have hset : B.set (iidx ds x) (bkAt ds B pr x) = B := by
            rw [hat]
            refine List.ext_getElem? fun j => ?_
            rw [List.getElem?_set]
            split
            · rename_i e
              subst e
              rw [if_pos (by rw [hb.bl]; exact hi), List.getD, List.getElem?_eq_getElem (by rw [hb.bl]; exact hi)]; rfl
            · rfl
          rw [hmv, hset] at c4
          generalize mvE (bkAt ds B pr x) f g c a = e at *
          repeat' ((conv => whnf); first | refine vcall_o (l := [0, 1, 2, 3, 4, 5, 6, 7, 8, 9]) (c3) ?_ | refine vcall_o (l := [0, 7, 8, 9]) (c4) ?_ | ((first | apply br_dec | apply br_ndec) <;> intro h <;> try (exfalso; (try dsimp only at h); omega)) | ((first | apply br_seq | apply br_nseq | apply br_not | apply br_intro) <;> intro h) | refine cond_a ?_)
          all_goals (conv => whnf)
          all_goals first
            | exact ret_out (l := [0, 1, 2, 3, 4, 5, 6, 7, 8, 9]) rfl rfl ⟨rfl, rfl, rfl, rfl, trivial⟩ bks_rw
            | (exfalso; rw [hgx] at h; cases h; done)
            | (exfalso; omega)
            | trace_state
      · have c3 := cy_book_new hb.dl hp he cut x hd
        have hat : bkAt ds B pr x = nwB pr := if_neg hd
        have c4 := pos_MoveX ((nwB_I he).up (B' := 4503599627370496) (by decide)) hp rfl f g c a
        have hput := bkPut_new (h := 11) hb.dl hd
        rw [← hat] at c4
        by_cases hz : mvE (bkAt ds B pr x) f g c a = 0
        · rw [mvO_new h0 hz hd hb.dl]
          rw [hz] at c4
          rw [hat] at c4
          rw [hat]
          have hsp : (nwB pr).ps = sortS pr := rfl
          generalize hbb : (nwB pr).mv f g c a = b' at *
          repeat' ((conv => whnf); first | refine vcall_o (l := [0, 1, 2, 3, 4, 5, 6, 7, 8, 9]) (c3) ?_ | refine vcall_o (l := [0, 11, 12, 13]) (c4) ?_ | ((first | apply br_dec | apply br_ndec) <;> intro h <;> try (exfalso; (try dsimp only at h); omega)) | ((first | apply br_seq | apply br_nseq | apply br_not | apply br_intro) <;> intro h) | refine cond_a ?_)
          all_goals (conv => whnf)
          all_goals first
            | exact ret_up (l := [0, 1, 2, 3, 4, 5, 6, 7, 8, 9, 14, 15, 16]) [.relab (gdR 14 m (nwD 14 11 np (B ++ [b']) (sortS pr))) (fun _ => 0) ((5, cyB false 14 (m + 1) (ds ++ [x])) :: gdN 14 (m + 1) 0 (nwD 14 11 np (B ++ [b']) (sortS pr))) [7, 11, 8, 12, 9, 13] 3] ⟨bks_new (n := 14) (h := 11) (by decide) (by decide) hb.bl hput rfl rfl rfl rfl rfl rfl rfl, rfl, rfl, ⟨rfl, rfl, rfl, rfl, trivial⟩⟩ bks_rw
            | (exfalso; rw [hgx] at h; cases h; done)
            | (exfalso; omega)
            | trace_state
        · rw [mvO_err h0 hz]
          rw [hat] at c4 hz ⊢
          generalize mvE (nwB pr) f g c a = e at *
          repeat' ((conv => whnf); first | refine vcall_o (l := [0, 1, 2, 3, 4, 5, 6, 7, 8, 9]) (c3) ?_ | refine vcall_o (l := [0, 11, 12, 13]) (c4) ?_ | ((first | apply br_dec | apply br_ndec) <;> intro h <;> try (exfalso; (try dsimp only at h); omega)) | ((first | apply br_seq | apply br_nseq | apply br_not | apply br_intro) <;> intro h) | refine cond_a ?_)
          all_goals (conv => whnf)
          all_goals first
            | exact ret_out (l := [0, 1, 2, 3, 4, 5, 6, 7, 8, 9]) rfl rfl ⟨rfl, rfl, rfl, rfl, trivial⟩ bks_rw
            | (exfalso; rw [hgx] at h; cases h; done)
            | (exfalso; omega)
            | trace_state
end Go.Proofs.Ytkdjnmcaifejjaa

/- Contracts of the law's helpers: new cycles of three parties, the example of the chapter. -/
namespace Go.Proofs.Ytkdjnmcaifejjaa
open Go.RowKit Go.Sy
attribute [local irreducible] vcall vloop vcallD retP sortI
set_option maxRecDepth 100000
set_option linter.unusedVariables false
set_option linter.unusedSimpArgs false

theorem cal_NewN : FC Try.prog 1 6 [.nsl] [] (holO [] 0) :=
  fc_argnil (n := 1) (args := [.nsl]) (args1 := [.sl 1 0 0 0]) (cs := [.sc (.ints .i64 [])]) rfl (by exact ⟨.inr ⟨rfl, rfl⟩, trivial⟩) (cal_New [] 0 rfl)
theorem p3_err : nwErr p3 = 0 := by kernel_rfl
theorem p3_bk : nwB p3 = k0 := by unfold nwB; rw [p3_sort]; rfl
/-- Cycles, as the laws hold them. -/
abbrev cyH (np m hn nc : Nat) (cut : Int) (hs ds cd : List Int) (B : List Bk) (pr sp : List ByteArray) : Heap := (1, cyC false 2 4 5 6 np cut) :: (2, calC false 3) :: (3, tmM false hn hs) :: (4, cyP false np pr) :: (6, tmM false nc cd) :: bksH 5 7 8 9 np m ds B sp
def maO (cut : Int) : SV → Heap → Nat → Prop := if cut < 0 ∨ 86400 < cut then isOut (.tup [.nptr, .int .i64 4]) [] 1 else isOut (.tup [.ptr 1 0 0 0, .int .i64 0]) (cyH 3 0 0 0 cut [] [] [] [] p3 p3) 10
theorem law_made (cut : Int) : FC Try.prog 1 12 [.int .i64 cut] [] (maO cut) := by
  have c1 := cal_NewN
  unfold holO at c1
  rw [if_pos (by rfl)] at c1
  have c2 := cy_New cut p3 3 rfl
  unfold cnO cnE at c2
  rw [p3_err, p3_sort] at c2
  unfold maO
  by_cases h : cut < 0 ∨ 86400 < cut
  · rw [if_pos h, if_neg (by decide)] at c2
    rw [if_pos h]
    refine fc_of mixed T_ok Try.func12 rfl (by kernel_rfl) (by kernel_rfl) (by kernel_rfl) ?_
    repeat' ((conv => whnf); first | refine vcall_o (l := [0]) (c1) ?_ | refine vcall_o (l := [0, 2, 4]) (c2) ?_ | ((first | apply br_dec | apply br_ndec) <;> intro h <;> try (exfalso; (try dsimp only at h); omega)) | ((first | apply br_seq | apply br_nseq | apply br_not | apply br_intro) <;> intro h) | refine cond_a ?_)
    all_goals (conv => whnf)
    all_goals first
      | exact ret_out (l := [0]) rfl rfl trivial allRw_nil
      | (exfalso; omega)
      | trace_state
  · rw [if_neg h, if_pos rfl] at c2
    rw [if_neg h]
    refine fc_of mixed T_ok Try.func12 rfl (by kernel_rfl) (by kernel_rfl) (by kernel_rfl) ?_
    repeat' ((conv => whnf); first | refine vcall_o (l := [0]) (c1) ?_ | refine vcall_o (l := [0, 2, 4]) (c2) ?_ | ((first | apply br_dec | apply br_ndec) <;> intro h <;> try (exfalso; (try dsimp only at h); omega)) | ((first | apply br_seq | apply br_nseq | apply br_not | apply br_intro) <;> intro h) | refine cond_a ?_)
    all_goals (conv => whnf)
    all_goals first
      | (exfalso; omega)
      | exact ret_out (l := [0, 5, 2, 3, 6, 7, 8, 9, 10, 11]) rfl rfl ⟨rfl, rfl, rfl, rfl, rfl, rfl, rfl, rfl, rfl, trivial⟩ (allRw_cons (allRw_cons (allRw_cons (allRw_cons (allRw_cons bks_rw)))))
      | trace_state
/-- The example: a movement goes behind a closed cycle. -/
def k5 : Bk := ⟨3, p3, 1, [sUsd], [[-5, 5, 0, 0, 0, 0, 0, 0, 0, 0, 0, 0, 0, 0, 0, 0]], [0], 1⟩
def l5 : List Px := [⟨⟨#[97]⟩, -5, sUsd⟩, ⟨⟨#[98]⟩, 5, sUsd⟩]
theorem k0_mvE : mvE k0 ⟨#[97]⟩ ⟨#[98]⟩ sUsd 5 = 0 := by kernel_rfl
theorem k0_mv : k0.mv ⟨#[97]⟩ ⟨#[98]⟩ sUsd 5 = k5 := by kernel_rfl
theorem k0_I : BkI k0 4503599627370496 := by
  have h := (nwB_I p3_err).up (B' := 4503599627370496) (by decide)
  rwa [p3_bk] at h
theorem k5_I : BkI k5 4503599627370496 := by rw [← k0_mv]; exact mv_I k0_I _ _ _ _
theorem k5_list : k5.list = l5 := by
  unfold Bk.list
  rw [show sortS k5.cs = [sUsd] from one_sort sUsd]
  kernel_rfl
theorem nx_two : nxI [] 2 = 4 := by
  rw [nxI_no (by decide) (by decide), show (2 : Int) + 1 = 3 from rfl, nxI_no (by decide) (by decide), show (3 : Int) + 1 = 4 from rfl, nxI_yes (by decide) (by decide)]
theorem nx_one : nxI [] 1 = 1 := nxI_yes (by decide) (by decide)
theorem mvD_one : mvD [] [1] 1 = 4 := by
  have e : ∀ k, mvF [] [1] (k + 1 + 1) 1 = 4 := by
    intro k
    simp only [mvF]
    rw [if_neg (by decide), if_pos (by decide), show (1 : Int) + 1 = 2 from rfl, nx_two, if_neg (by decide), if_neg (by decide)]
  unfold mvD
  exact e 99999
theorem law_awake : Pure Try.prog 5 [] (.bool true) := by
  have c1 := law_made 3600
  unfold maO at c1
  rw [if_neg (by decide)] at c1
  have c2 := cy_Of 3 0 3600 [] rfl 3599
  rw [show ofV (ofI [] 3600 3599) = .tup [.int .i64 0, .int .i64 0] from by rfl] at c2
  have c3 := cy_Of 3 0 3600 [] rfl 3600
  have e3 : ofI [] 3600 3600 = 1 := by
    unfold ofI
    rw [if_neg (by decide), if_neg (by decide), show dayI 3600 + 1 = 1 from rfl, nx_one]
  rw [e3, show ofV 1 = .tup [.int .i64 1, .int .i64 0] from by rfl] at c3
  have hb0 : BksI [] [] 0 3 p3 := ⟨rfl, rfl, List.nodup_nil, fun i h => by omega⟩
  have c4 := cy_Close (hs := []) (cd := []) hb0 rfl rfl (by decide) 3600 1
  have e4 : clE [] [] [] 1 = 0 := by
    unfold clE
    rw [if_neg (by decide), if_neg (by simp), if_neg (by simp [openS, sortI])]
  unfold clO at c4
  rw [e4, if_pos rfl, show posL [] [] 1 = [] from rfl] at c4
  have c5 := cy_Move (np := 3) (hs := []) (cd := [1]) (pr := p3) (by rw [p3_sort]; exact hb0) rfl rfl rfl p3_err 3600 3600 ⟨#[97]⟩ ⟨#[98]⟩ sUsd 5
  have hO : mvO 3 0 [] [] [1] [] p3 4 ⟨#[97]⟩ ⟨#[98]⟩ sUsd 5 = isOut (.tup [.int .i64 4, .int .i64 0]) (bksH 5 10 11 12 3 1 [4] [k5] p3) 13 := by
    have hat : bkAt [] [] p3 4 = k0 := p3_bk
    rw [mvO_new (m := 0) (by decide) (by rw [hat]; exact k0_mvE) (by simp) rfl, hat, k0_mv, p3_sort]; rfl
  rw [e3, mvD_one, hO] at c5
  have hb5 : BksI [4] [k5] 1 3 p3 := ⟨rfl, rfl, by simp, fun i h => by
    obtain rfl : i = 0 := by omega
    exact ⟨k5_I, rfl, rfl, by decide⟩⟩
  have c6 := cy_Positions hb5 3600 4
  rw [show posL [4] [k5] 4 = l5 from by unfold posL; rw [if_pos (by simp)]; exact k5_list] at c6
  unfold mvH at c5
  rw [p3_sort] at c5
  refine fc_of mixed T_ok Try.func5 rfl (by kernel_rfl) (by kernel_rfl) (by kernel_rfl) ?_
  repeat' ((conv => whnf); first | refine vcall_o (l := [0]) (c1) ?_ | refine vcall_o (l := [0, 1, 2, 3, 4, 5, 6, 7, 8, 9]) (c2) ?_ | refine vcall_o (l := [0, 1, 2, 3, 4, 5, 6, 7, 8, 9]) (c3) ?_ | refine vcall_o (l := [0, 1, 2, 3, 4, 5, 6, 7, 8, 9]) (c4) ?_ | refine vcall_o (l := [0, 1, 2, 3, 4, 5, 6, 7, 8, 9]) (c5) ?_ | refine vcall_o (l := [0, 1, 2, 3, 4, 5, 6, 11, 12, 13]) (c6) ?_ | ((first | apply br_dec | apply br_ndec) <;> intro h <;> try (exfalso; (try dsimp only at h); omega)) | ((first | apply br_seq | apply br_nseq | apply br_not | apply br_intro) <;> intro h) | refine cond_a ?_)
  all_goals (conv => whnf)
  all_goals first
    | exact ret_pure rfl
    | trace_state
end Go.Proofs.Ytkdjnmcaifejjaa

/- Contracts of the law's helpers: a party, the sum of movements, whether positions agree with movements. -/
namespace Go.Proofs.Ytkdjnmcaifejjaa
open Go.RowKit Go.Sy
attribute [local irreducible] vcall vloop vcallD retP sortI
set_option maxRecDepth 100000
set_option linter.unusedVariables false
set_option linter.unusedSimpArgs false

def ptS (n : Int) : ByteArray := if n % 3 = 0 then ⟨#[97]⟩ else if n % 3 = 1 then ⟨#[98]⟩ else ⟨#[99]⟩
theorem law_party (n : Int) (h0 : 0 ≤ n) (h1 : n ≤ 255) : Pure Try.prog 28 [.int .u8 n] (.str (ptS n)) := by
  have e0 : n.tmod 3 = n % 3 := tmod_pos h0
  have hm : n % 3 = 0 ∨ n % 3 = 1 ∨ n % 3 = 2 := by omega
  unfold ptS
  rcases hm with hm | hm | hm
  all_goals simp only [hm]
  all_goals rw [hm] at e0
  all_goals refine fc_of mixed T_ok Try.func28 rfl (by kernel_rfl) (by kernel_rfl) (by kernel_rfl) ?_
  all_goals repeat' ((conv => whnf); first | (simp only [e0]) | ((first | apply br_dec | apply br_ndec) <;> intro h <;> try (exfalso; (try dsimp only at h); omega)) | ((first | apply br_seq | apply br_nseq | apply br_not | apply br_intro) <;> intro h) | refine cond_a ?_)
  all_goals (conv => whnf)
  all_goals (try simp only [e0])
  all_goals first
    | exact ret_pure rfl
    | exact ret_pure (by kernel_rfl)
    | (exfalso; omega)
    | trace_state
/-- A movement of the law. -/
structure Mo where
  d : Int
  f : ByteArray
  t : ByteArray
  a : Int
  c : ByteArray
def mo0 : Mo := ⟨0, ⟨#[]⟩, ⟨#[]⟩, 0, ⟨#[]⟩⟩
abbrev moB (ro : Bool) (n : Nat) (M : List Mo) : Option HB := some (.one ro (.cols n [.sc (.ints .i64 (M.map Mo.d)), .sc (.strs (M.map Mo.f)), .sc (.strs (M.map Mo.t)), .sc (.ints .i64 (M.map Mo.a)), .sc (.strs (M.map Mo.c))]))
theorem mo_at (M : List Mo) (k : Nat) : (M.map Mo.d).getD k 0 = (M.getD k mo0).d ∧ (M.map Mo.f).getD k ⟨#[]⟩ = (M.getD k mo0).f ∧ (M.map Mo.t).getD k ⟨#[]⟩ = (M.getD k mo0).t ∧ (M.map Mo.a).getD k 0 = (M.getD k mo0).a ∧ (M.map Mo.c).getD k ⟨#[]⟩ = (M.getD k mo0).c := by
  simp only [List.getD, List.getElem?_map]
  cases M[k]? <;> exact ⟨rfl, rfl, rfl, rfl, rfl⟩
def moD (m : Mo) (d : Int) (p c : ByteArray) : Int := if m.d = d ∧ m.c = c then (if m.f = p then -m.a else 0) + (if m.t = p then m.a else 0) else 0
def nmK (M : List Mo) (d : Int) (p c : ByteArray) : Nat → Int
  | 0 => 0
  | k + 1 => nmK M d p c k + moD (M.getD k mo0) d p c
def MoS (M : List Mo) : Prop := ∀ m, m ∈ M → 0 ≤ m.a ∧ m.a ≤ 65535
theorem mos_at {M : List Mo} (h : MoS M) (k : Nat) : 0 ≤ (M.getD k mo0).a ∧ (M.getD k mo0).a ≤ 65535 := by
  by_cases e : k < M.length
  · rw [List.getD, List.getElem?_eq_getElem e]; exact h _ (List.getElem_mem e)
  · rw [List.getD, List.getElem?_eq_none (by omega)]; decide
theorem nmK_bd {M : List Mo} (h : MoS M) (d : Int) (p c : ByteArray) : ∀ k : Nat, -65535 * (k : Int) ≤ nmK M d p c k ∧ nmK M d p c k ≤ 65535 * (k : Int)
  | 0 => by simp [nmK]
  | k + 1 => by
    have ih := nmK_bd h d p c k
    have hk := mos_at h k
    simp only [nmK, moD]
    split
    · split <;> split <;> omega
    · omega
theorem law_net {M : List Mo} {n : Nat} (hn : n ≤ 100) (hs : MoS M) (d : Int) (p c : ByteArray) : FC Try.prog 2 29 [.sl 1 0 0 n, .int .i64 d, .str p, .str c] [(1, moB true n M)] (isOut (.int .i64 (nmK M d p c n)) [] 2) := by
  refine fc_of mixed T_ok Try.func29 rfl (by kernel_rfl) (by kernel_rfl) (by kernel_rfl) ?_
  repeat' ((conv => whnf); first | ((first | apply br_dec | apply br_ndec) <;> intro h <;> try (exfalso; (try dsimp only at h); omega)) | ((first | apply br_seq | apply br_nseq | apply br_not | apply br_intro) <;> intro h) | refine cond_a ?_)
  all_goals (conv => whnf)
  refine vloop_lp (fun k : Nat => ⟨[(0, .sl 1 0 0 n), (1, .int .i64 d), (2, .str p), (3, .str c), (9, .int .i64 (nmK M d p c k)), (10, .int .i64 k)], [(1, moB true n M)], 2⟩) (fun k => k ≤ n) (fun k => n - k) 0 [0, 1] [] ⟨rfl, ⟨rfl, rfl, rfl, rfl, rfl, rfl, trivial⟩, ⟨rfl, trivial⟩⟩ (Nat.zero_le _) ?_
  intro k hk
  have hb := nmK_bd hs d p c k
  have ha := mos_at hs k
  obtain ⟨m1, m2, m3, m4, m5⟩ := mo_at M k
  by_cases hk2 : k < n
  · have hst : nmK M d p c (k + 1) = nmK M d p c k + moD (M.getD k mo0) d p c := rfl
    unfold moD at hst
    repeat' ((conv => whnf); first | ((first | apply br_dec | apply br_ndec) <;> intro h <;> try (exfalso; (try dsimp only at h); omega)) | ((first | apply br_seq | apply br_nseq | apply br_not | apply br_intro) <;> intro h) | refine cond_a ?_)
    all_goals (conv => whnf)
    all_goals (try simp only [toNat0, m1, m2, m3, m4, m5] at *)
    all_goals first
      | (exfalso; omega)
      | refine ⟨k + 1, [0, 1], [], hk2, (show n - (k + 1) < n - k by omega), ⟨rfl, ⟨rfl, rfl, rfl, rfl, congrArg (fun z => some (SV.int .i64 z)) ?_, congrArg (fun z => some (SV.int .i64 z)) (i64_succ (by omega)), trivial⟩, ⟨rfl, trivial⟩⟩⟩
      | trace_state
    all_goals rw [hst]
    all_goals simp_all
    all_goals (try rw [w64_in (n := nmK M d p c k - (M[k]?.getD mo0).a) (by omega) (by omega)])
    all_goals (try rw [w64_in (by omega) (by omega)])
    all_goals (try omega)
  · have e : k = n := by omega
    subst e
    repeat' ((conv => whnf); first | ((first | apply br_dec | apply br_ndec) <;> intro h <;> try (exfalso; (try dsimp only at h); omega)) | ((first | apply br_seq | apply br_nseq | apply br_not | apply br_intro) <;> intro h) | refine cond_a ?_)
    all_goals (conv => whnf)
    all_goals first
      | exact ret_out (l := [0, 1]) rfl rfl trivial allRw_nil
      | (exfalso; omega)
      | trace_state
theorem px_at (L : List Px) (i : Nat) : (pxOf L).p.getD i ⟨#[]⟩ = (L.getD i px0).p ∧ (pxOf L).a.getD i 0 = (L.getD i px0).a ∧ (pxOf L).c.getD i ⟨#[]⟩ = (L.getD i px0).c := by
  unfold pxOf
  simp only [List.getD, List.getElem?_map]
  cases L[i]? <;> exact ⟨rfl, rfl, rfl⟩
/-- The last amount of a party in a list. -/
def gotK (L : List Px) (p c : ByteArray) : Nat → Int
  | 0 => 0
  | k + 1 => if (L.getD k px0).p = p ∧ (L.getD k px0).c = c then (L.getD k px0).a else gotK L p c k
def curJ (j : Nat) : ByteArray := if j = 1 then ⟨#[85, 83, 68]⟩ else ⟨#[69, 85, 82]⟩
def cnW (M : List Mo) (n : Nat) (d : Int) (k j : Nat) : Nat := if nmK M d (ptS k) (curJ j) n = 0 then 0 else 1
def cnI (M : List Mo) (n : Nat) (d : Int) (k : Nat) : Nat → Nat
  | 0 => 0
  | j + 1 => cnI M n d k j + cnW M n d k j
def cqO (M : List Mo) (n : Nat) (d : Int) : Nat → Nat
  | 0 => 0
  | k + 1 => cqO M n d k + cnI M n d k 2
theorem cnI_le (M : List Mo) (n : Nat) (d : Int) (k : Nat) : ∀ j, cnI M n d k j ≤ j
  | 0 => Nat.le_refl _
  | j + 1 => by
    have := cnI_le M n d k j
    simp only [cnI, cnW]
    split <;> omega
theorem cqO_le (M : List Mo) (n : Nat) (d : Int) : ∀ k, cqO M n d k ≤ 2 * k
  | 0 => Nat.le_refl _
  | k + 1 => by
    have := cqO_le M n d k
    have := cnI_le M n d k 2
    simp only [cqO]
    omega
set_option maxHeartbeats 1000000 in
theorem law_agrees {L : List Px} {l : Nat} {M : List Mo} {n : Nat} (hl2 : l ≤ 100000) (hn : n ≤ 100) (hs : MoS M) (d : Int) (hg : ∀ k j : Nat, k < 3 → j < 2 → gotK L (ptS k) (curJ j) l = nmK M d (ptS k) (curJ j) n) (hc : l = cqO M n d 3) : FC Try.prog 3 14 [.sl 1 0 0 l, .sl 2 0 0 n, .int .i64 d] [(1, some (.one true (pxB l (pxOf L)))), (2, moB true n M)] (isOut (.bool true) [] 3) := by
  refine fc_of mixed T_ok Try.func14 rfl (by kernel_rfl) (by kernel_rfl) (by kernel_rfl) ?_
  repeat' ((conv => whnf); first | ((first | apply br_dec | apply br_ndec) <;> intro h <;> try (exfalso; (try dsimp only at h); omega)) | ((first | apply br_seq | apply br_nseq | apply br_not | apply br_intro) <;> intro h) | refine cond_a ?_)
  all_goals (conv => whnf)
  refine vloop_lp (fun k : Nat => ⟨[(0, .sl 1 0 0 l), (1, .sl 2 0 0 n), (2, .int .i64 d), (7, .int .i64 (cqO M n d k)), (8, .int .u8 k)], [(1, some (.one true (pxB l (pxOf L)))), (2, moB true n M)], 3⟩) (fun k => k ≤ 3) (fun k => 3 - k) 0 [0, 1, 2] [] ⟨rfl, ⟨rfl, rfl, rfl, rfl, rfl, trivial⟩, ⟨rfl, rfl, trivial⟩⟩ (Nat.zero_le _) ?_
  intro k hk
  have hbO := cqO_le M n d k
  by_cases hk2 : k < 3
  · have hst : cqO M n d (k + 1) = cqO M n d k + cnI M n d k 2 := rfl
    have cp := law_party k (by omega) (by omega)
    have ek : IntKind.u8.wrap ((k : Int) + 1) = ((k + 1 : Nat) : Int) := by rw [u8_in' (by omega) (by omega)]; rfl
    repeat' ((conv => whnf); first | ((first | apply br_dec | apply br_ndec) <;> intro h <;> try (exfalso; (try dsimp only at h); omega)) | ((first | apply br_seq | apply br_nseq | apply br_not | apply br_intro) <;> intro h) | refine cond_a ?_)
    all_goals (conv => whnf)
    all_goals first
      | (exfalso; omega)
      | skip
    refine vloop_lp (fun j : Nat => ⟨[(0, .sl 1 0 0 l), (1, .sl 2 0 0 n), (2, .int .i64 d), (7, .int .i64 ((cqO M n d k + cnI M n d k j : Nat) : Int)), (8, .int .u8 k), (9, .int .i64 j)], [(1, some (.one true (pxB l (pxOf L)))), (2, moB true n M)], 3⟩) (fun j => j ≤ 2) (fun j => 2 - j) 0 [0, 1, 2] [] ⟨rfl, ⟨rfl, rfl, rfl, rfl, rfl, rfl, trivial⟩, ⟨rfl, rfl, trivial⟩⟩ (Nat.zero_le _) ?_
    intro j hj
    have hbI := cnI_le M n d k j
    by_cases hj2 : j < 2
    · have hsj : cnI M n d k (j + 1) = cnI M n d k j + cnW M n d k j := rfl
      have cn := law_net hn hs d (ptS k) (curJ j)
      have hgk := hg k j hk2 hj2
      have hcur : curJ j = if j = 1 then ⟨#[85, 83, 68]⟩ else ⟨#[69, 85, 82]⟩ := rfl
      unfold cnW at hsj
      generalize nmK M d (ptS k) (curJ j) n = V at *
      generalize hcc : curJ j = cc at *
      have hj1 : j = 1 ∧ cc = ⟨#[85, 83, 68]⟩ ∨ ¬ j = 1 ∧ cc = ⟨#[69, 85, 82]⟩ := by
        by_cases e : j = 1
        · rw [if_pos e] at hcur; exact .inl ⟨e, hcur⟩
        · rw [if_neg e] at hcur; exact .inr ⟨e, hcur⟩
      clear hcur
      obtain ⟨N7, hN7⟩ : ∃ N : Nat, N = cqO M n d k + cnI M n d k (j + 1) := ⟨_, rfl⟩
      have hNb : N7 ≤ 10 := by split at hsj <;> omega
      have hN1 : V = 0 → cqO M n d k + cnI M n d k j = N7 := fun e => by rw [if_pos e] at hsj; omega
      have hN2 : ¬ V = 0 → IntKind.i64.wrap (((cqO M n d k + cnI M n d k j : Nat) : Int) + 1) = (N7 : Int) := fun e => by
        rw [if_neg e] at hsj
        rw [w64_in (by omega) (by omega)]; omega
      rw [hsj] at hN7
      rw [← hsj] at hN7
      have hPq : ∀ i : Nat, (pxOf L).p.getD i ⟨#[]⟩ = (L.getD i px0).p ∧ (pxOf L).a.getD i 0 = (L.getD i px0).a ∧ (pxOf L).c.getD i ⟨#[]⟩ = (L.getD i px0).c := fun i => px_at L i
      have hgs : ∀ i : Nat, gotK L (ptS k) cc (i + 1) = if (L.getD i px0).p = ptS k ∧ (L.getD i px0).c = cc then (L.getD i px0).a else gotK L (ptS k) cc i := fun i => rfl
      rcases hj1 with ⟨hj1, hcc2⟩ | ⟨hj1, hcc2⟩ <;> by_cases hV : V = 0
      all_goals (
        first
          | (have hNv := hN1 hV)
          | (have hNv := hN2 hV)
        clear hN1 hN2 hsj
        rw [hcc2] at cn hgk hgs hcc
        clear hcc2
        repeat' ((conv => whnf); first | (refine vcall_pure (cp) rfl rfl rfl ?_) | (refine vcallD_pure (cp) rfl rfl rfl ?_) | refine vcall_o (l := [0, 2]) (cn) ?_ | ((first | apply br_dec | apply br_ndec) <;> intro h <;> try (exfalso; (try dsimp only at h); omega)) | ((first | apply br_seq | apply br_nseq | apply br_not | apply br_intro) <;> intro h) | refine cond_a ?_)
        all_goals (conv => whnf)
        all_goals first
          | (exfalso; omega)
          | (exfalso; contradiction)
          | skip
        all_goals refine vloop_lp (fun i : Nat => ⟨[(0, .sl 1 0 0 l), (1, .sl 2 0 0 n), (2, .int .i64 d), (7, .int .i64 (N7 : Int)), (8, .int .u8 k), (9, .int .i64 j), (10, .str (curJ j)), (11, .int .i64 V), (12, .int .i64 (gotK L (ptS k) (curJ j) i)), (13, .int .i64 i)], [(1, some (.one true (pxB l (pxOf L)))), (2, moB true n M)], 3⟩) (fun i => i ≤ l) (fun i => l - i) 0 [0, 1, 2] [] ⟨rfl, ⟨rfl, rfl, rfl, (by first | exact congrArg (fun z : Int => some (SV.int .i64 z)) hNv | exact congrArg (fun z : Nat => some (SV.int .i64 (z : Int))) hNv), rfl, rfl, congrArg (fun z => some (SV.str z)) hcc.symm, rfl, rfl, rfl, trivial⟩, ⟨rfl, rfl, trivial⟩⟩ (Nat.zero_le _) ?_
        all_goals (
          intro i hi
          rw [hcc]
          by_cases hi2 : i < l
          · have hgi := hgs i
            obtain ⟨q1, q2, q3⟩ := hPq i
            repeat' ((conv => whnf); first | (refine vcall_pure (cp) rfl rfl rfl ?_) | (refine vcallD_pure (cp) rfl rfl rfl ?_) | ((first | apply br_dec | apply br_ndec) <;> intro h <;> try (exfalso; (try dsimp only at h); omega)) | ((first | apply br_seq | apply br_nseq | apply br_not | apply br_intro) <;> intro h) | refine cond_a ?_)
            all_goals (conv => whnf)
            all_goals (try simp only [toNat0, q1, q2, q3] at *)
            all_goals first
              | (exfalso; omega)
              | skip
            all_goals first
              | (rename_i h1; rw [if_pos ⟨h1, h⟩] at hgi
                 exact ⟨i + 1, [0, 1, 2], [], hi2, (show l - (i + 1) < l - i by omega), ⟨rfl, ⟨rfl, rfl, rfl, rfl, rfl, rfl, rfl, rfl, congrArg (fun z => some (SV.int .i64 z)) ((hPq i).2.1.trans hgi.symm), congrArg (fun z => some (SV.int .i64 z)) (i64_succ (by omega)), trivial⟩, ⟨rfl, rfl, trivial⟩⟩⟩)
              | (rw [if_neg (by intro w; first | exact h w.1 | exact h w.2)] at hgi
                 exact ⟨i + 1, [0, 1, 2], [], hi2, (show l - (i + 1) < l - i by omega), ⟨rfl, ⟨rfl, rfl, rfl, rfl, rfl, rfl, rfl, rfl, congrArg (fun z => some (SV.int .i64 z)) hgi.symm, congrArg (fun z => some (SV.int .i64 z)) (i64_succ (by omega)), trivial⟩, ⟨rfl, rfl, trivial⟩⟩⟩)
              | trace_state
          · have e : i = l := by omega
            subst e
            rw [hgk]
            repeat' ((conv => whnf); first | ((first | apply br_dec | apply br_ndec) <;> intro h <;> try (exfalso; (try dsimp only at h); omega)) | ((first | apply br_seq | apply br_nseq | apply br_not | apply br_intro) <;> intro h) | refine cond_a ?_)
            all_goals (conv => whnf)
            all_goals first
              | exact ⟨j + 1, [0, 1, 2], [], hj2, (show 2 - (j + 1) < 2 - j by omega), ⟨rfl, ⟨rfl, rfl, rfl, congrArg (fun z : Nat => some (SV.int .i64 (z : Int))) hN7, rfl, congrArg (fun z => some (SV.int .i64 z)) (i64_succ (by omega)), trivial⟩, ⟨rfl, rfl, trivial⟩⟩⟩
              | (exfalso; omega)
              | (exfalso; contradiction)
              | trace_state))
    · have e : j = 2 := by omega
      subst e
      rw [← hst]
      repeat' ((conv => whnf); first | ((first | apply br_dec | apply br_ndec) <;> intro h <;> try (exfalso; (try dsimp only at h); omega)) | ((first | apply br_seq | apply br_nseq | apply br_not | apply br_intro) <;> intro h) | refine cond_a ?_)
      all_goals (conv => whnf)
      all_goals first
        | exact ⟨k + 1, [0, 1, 2], [], hk2, (show 3 - (k + 1) < 3 - k by omega), ⟨rfl, ⟨rfl, rfl, rfl, rfl, congrArg (fun z => some (SV.int .u8 z)) ek, trivial⟩, ⟨rfl, rfl, trivial⟩⟩⟩
        | (exfalso; omega)
        | trace_state
  · have e : k = 3 := by omega
    subst e
    rw [← hc]
    repeat' ((conv => whnf); first | ((first | apply br_dec | apply br_ndec) <;> intro h <;> try (exfalso; (try dsimp only at h); omega)) | ((first | apply br_seq | apply br_nseq | apply br_not | apply br_intro) <;> intro h) | refine cond_a ?_)
    all_goals (conv => whnf)
    all_goals first
      | exact ret_out (l := [0, 1, 2]) rfl rfl trivial allRw_nil
      | exact ret_out (l := [0, 1, 2]) rfl (congrArg SV.bool (by simp)) trivial allRw_nil
      | (exfalso; omega)
      | trace_state
end Go.Proofs.Ytkdjnmcaifejjaa

/- The law PositionOrder. -/
namespace Go.Proofs.Ytkdjnmcaifejjaa
open Go.RowKit Go.Sy
attribute [local irreducible] vcall vloop vcallD retP
set_option maxRecDepth 100000
set_option linter.unusedVariables false
set_option linter.unusedSimpArgs false

end Go.Proofs.Ytkdjnmcaifejjaa

/- Plain facts on positions: their order, sorting. No program in sight. -/
namespace Go.Proofs.Ytkdjnmcaifejjaa
open Go.RowKit Go.Sy
set_option linter.unusedVariables false
set_option linter.unusedSimpArgs false

/-- A position is before another one. -/
def plt (x y : Px) : Bool := strLt x.c y.c || (seq x.c y.c && strLt x.p y.p)
theorem seq_true {a b : ByteArray} : seq a b = true ↔ a = b := by unfold seq; exact decide_eq_true_iff
theorem plt_iff {x y : Px} : plt x y = true ↔ strLt x.c y.c = true ∨ (x.c = y.c ∧ strLt x.p y.p = true) := by
  unfold plt
  rw [Bool.or_eq_true, Bool.and_eq_true, seq_true]
/-- The positions that are not zero. -/
def nz (R : List Px) : List Px := R.filter (fun x => decide (x.a ≠ 0))
abbrev Asc (l : List Px) : Prop := l.Pairwise (fun a b => plt a b = true)
end Go.Proofs.Ytkdjnmcaifejjaa

/- Contracts: the reference's names, lists of texts, new books, the order of positions. -/
namespace Go.Proofs.Ytkdjnmcaifejjaa
open Go.RowKit Go.Sy
attribute [local irreducible] vcall vloop vcallD retP
set_option maxRecDepth 100000
set_option linter.unusedVariables false
set_option linter.unusedSimpArgs false

def idC (c : Int) : Prop := (97 ≤ c ∧ c ≤ 122) ∨ (65 ≤ c ∧ c ≤ 90) ∨ (48 ≤ c ∧ c ≤ 57) ∨ c = 95 ∨ c = 45
instance (c : Int) : Decidable (idC c) := by unfold idC; infer_instance
end Go.Proofs.Ytkdjnmcaifejjaa

/- Contracts: the reference's positions: looked up, put, moved, listed. -/
namespace Go.Proofs.Ytkdjnmcaifejjaa
open Go.RowKit Go.Sy
attribute [local irreducible] vcall vloop vcallD retP
set_option maxRecDepth 100000
set_option linter.unusedVariables false
set_option linter.unusedSimpArgs false

end Go.Proofs.Ytkdjnmcaifejjaa

/- Contracts: the reference's moves. -/
namespace Go.Proofs.Ytkdjnmcaifejjaa
open Go.RowKit Go.Sy
attribute [local irreducible] vcall vloop vcallD retP
set_option maxRecDepth 100000
set_option linter.unusedVariables false
set_option linter.unusedSimpArgs false

end Go.Proofs.Ytkdjnmcaifejjaa

/- Contracts: the reference sorts positions, lists them. -/
namespace Go.Proofs.Ytkdjnmcaifejjaa
open Go.RowKit Go.Sy
attribute [local irreducible] vcall vloop vcallD retP
set_option maxRecDepth 100000
set_option linter.unusedVariables false
set_option linter.unusedSimpArgs false

end Go.Proofs.Ytkdjnmcaifejjaa

/- Plain facts: positions add up to zero, also after conversion. No program in sight. -/
namespace Go.Proofs.Ytkdjnmcaifejjaa
open Go.RowKit Go.Sy
set_option linter.unusedVariables false
set_option linter.unusedSimpArgs false

theorem liR_mem {r : List Int} {ps : List ByteArray} {c : ByteArray} : ∀ i x, x ∈ liR r ps c i → x.c = c ∧ x.a ≠ 0 ∧ ∃ j, j < i ∧ x.p = ps.getD j ⟨#[]⟩ ∧ x.a = r.getD j 0
  | 0, x, h => by simp [liR] at h
  | i + 1, x, h => by
    simp only [liR] at h
    by_cases z : r.getD i 0 = 0
    · rw [if_pos z] at h
      obtain ⟨h1, h2, j, h3, h4⟩ := liR_mem i x h
      exact ⟨h1, h2, j, by omega, h4⟩
    · rw [if_neg z] at h
      rcases List.mem_append.1 h with h | h
      · obtain ⟨h1, h2, j, h3, h4⟩ := liR_mem i x h
        exact ⟨h1, h2, j, by omega, h4⟩
      · rw [List.mem_singleton] at h
        subst h
        exact ⟨rfl, z, i, by omega, rfl, rfl⟩
theorem liR_asc {r : List Int} {ps : List ByteArray} {c : ByteArray} {n : Nat} (h : ∀ i j, i < j → j < n → strLt (ps.getD i ⟨#[]⟩) (ps.getD j ⟨#[]⟩) = true) : ∀ i, i ≤ n → (liR r ps c i).Pairwise (fun x y => strLt x.p y.p = true)
  | 0, _ => List.Pairwise.nil
  | i + 1, hi => by
    have ih := liR_asc (r := r) (c := c) h i (by omega)
    simp only [liR]
    split
    · exact ih
    · refine List.pairwise_append.2 ⟨ih, List.pairwise_singleton _ _, fun x hx y hy => ?_⟩
      rw [List.mem_singleton] at hy
      subst hy
      obtain ⟨_, _, j, hj, e, _⟩ := liR_mem i x hx
      rw [e]; exact h j i hj hi
end Go.Proofs.Ytkdjnmcaifejjaa

/- Plain facts: the reference's positions are those of the book. No program in sight. -/
namespace Go.Proofs.Ytkdjnmcaifejjaa
open Go.RowKit Go.Sy
set_option linter.unusedVariables false
set_option linter.unusedSimpArgs false

/-- What stands in the list of a book. -/
theorem list_mem {b : Bk} {B : Int} (h : BkI b B) (hnd : b.ps.Nodup) (x : Px) : x ∈ b.list ↔ x.a ≠ 0 ∧ netI b x.p x.c = x.a := by
  have hA : ∀ cs k, x ∈ liA b cs k ↔ ∃ j, j < k ∧ x ∈ liR (b.row (cs.getD j ⟨#[]⟩)) b.ps (cs.getD j ⟨#[]⟩) b.n := by
    intro cs k
    induction k with
    | zero => simp [liA]
    | succ k ih =>
      simp only [liA, List.mem_append, ih]
      constructor
      · rintro (⟨j, hj, q⟩ | q)
        · exact ⟨j, by omega, q⟩
        · exact ⟨k, by omega, q⟩
      · rintro ⟨j, hj, q⟩
        by_cases e : j = k
        · subst e; exact .inr q
        · exact .inl ⟨j, by omega, q⟩
  have hR : ∀ (r : List Int) (c : ByteArray) (n : Nat), x ∈ liR r b.ps c n ↔ x.c = c ∧ x.a ≠ 0 ∧ ∃ j, j < n ∧ x.p = b.ps.getD j ⟨#[]⟩ ∧ x.a = r.getD j 0 := by
    intro r c n
    refine ⟨liR_mem n x, ?_⟩
    rintro ⟨h1, h2, j, hj, h3, h4⟩
    induction n with
    | zero => omega
    | succ n ih =>
      simp only [liR]
      by_cases e : j = n
      · subst e
        rw [if_neg (by rw [← h4]; exact h2)]
        refine List.mem_append_right _ (List.mem_singleton.2 ?_)
        rw [← h3, ← h4, ← h1]
      · split
        · exact ih (by omega)
        · exact List.mem_append_left _ (ih (by omega))
  have hsl : (sortS b.cs).length = b.m := by rw [sortS_length, h.C.cl]
  unfold Bk.list
  rw [hA]
  constructor
  · rintro ⟨j, hj, q⟩
    obtain ⟨h1, h2, i, hi, h3, h4⟩ := (hR _ _ _).1 q
    refine ⟨h2, ?_⟩
    have hps : b.ps[i]? = some x.p := by
      rw [h3, List.getD, List.getElem?_eq_getElem (by rw [h.psl]; exact hi)]; rfl
    have e := Go.Sy.sidx_of_get hnd hps
    unfold netI
    rw [e, if_pos hi, h1, h4]
  · rintro ⟨h1, h2⟩
    unfold netI at h2
    by_cases hp : sidx b.ps x.p < b.n
    · rw [if_pos hp] at h2
      have hc : x.c ∈ b.cs := by
        rw [mem_row h]
        intro e
        rw [e, z16_get] at h2
        exact h1 h2.symm
      have hc2 : x.c ∈ sortS b.cs := (sortS_perm b.cs).mem_iff.2 hc
      obtain ⟨j, hj, e⟩ := List.getElem_of_mem hc2
      have e2 : (sortS b.cs).getD j ⟨#[]⟩ = x.c := by rw [List.getD, List.getElem?_eq_getElem hj]; exact e
      refine ⟨j, by omega, ?_⟩
      rw [e2, hR]
      exact ⟨rfl, h1, _, hp, (sidx_at b.ps (by rw [h.psl]; exact hp)).symm, h2.symm⟩
    · rw [if_neg hp] at h2; exact absurd h2.symm h1
theorem list_asc {b : Bk} {B : Int} (h : BkI b B) (hps : b.ps.Pairwise (fun a b => strLt a b = true)) : Asc b.list := by
  have hpl : ∀ i j, i < j → j < b.n → strLt (b.ps.getD i ⟨#[]⟩) (b.ps.getD j ⟨#[]⟩) = true := by
    intro i j hij hj
    have := List.pairwise_iff_getElem.1 hps i j (by rw [h.psl]; omega) (by rw [h.psl]; exact hj) hij
    rw [List.getD, List.getD, List.getElem?_eq_getElem (by rw [h.psl]; omega), List.getElem?_eq_getElem (by rw [h.psl]; exact hj)]; exact this
  have hsl : (sortS b.cs).length = b.m := by rw [sortS_length, h.C.cl]
  have hm : ∀ k x, x ∈ liA b (sortS b.cs) k → ∃ j, j < k ∧ x.c = (sortS b.cs).getD j ⟨#[]⟩ := by
    intro k
    induction k with
    | zero => intro x hx; simp [liA] at hx
    | succ k ih =>
      intro x hx
      simp only [liA] at hx
      rcases List.mem_append.1 hx with q | q
      · obtain ⟨j, hj, e⟩ := ih x q
        exact ⟨j, by omega, e⟩
      · exact ⟨k, by omega, (liR_mem _ _ q).1⟩
  have : ∀ k, k ≤ b.m → Asc (liA b (sortS b.cs) k) := by
    intro k
    induction k with
    | zero => intro _; exact List.Pairwise.nil
    | succ k ih =>
      intro hk
      simp only [liA]
      refine List.pairwise_append.2 ⟨ih (by omega), ?_, fun x hx y hy => ?_⟩
      · have ha := liR_asc (r := b.row ((sortS b.cs).getD k ⟨#[]⟩)) (c := (sortS b.cs).getD k ⟨#[]⟩) hpl b.n (Nat.le_refl _)
        refine ha.imp_of_mem fun {x y} hx hy q => plt_iff.2 (.inr ⟨?_, q⟩)
        rw [(liR_mem _ _ hx).1, (liR_mem _ _ hy).1]
      · obtain ⟨j, hj, e⟩ := hm k x hx
        refine plt_iff.2 (.inl ?_)
        rw [e, (liR_mem _ _ hy).1]
        exact sortS_lt h.C.nd hj (by rw [h.C.cl]; omega)
  exact this b.m (Nat.le_refl _)
end Go.Proofs.Ytkdjnmcaifejjaa

/- Plain facts: positions of a cycle agree with its movements. No program in sight. -/
namespace Go.Proofs.Ytkdjnmcaifejjaa
open Go.RowKit Go.Sy
set_option linter.unusedVariables false
set_option linter.unusedSimpArgs false
attribute [local irreducible] sortI
theorem gotK_or (L : List Px) (p c : ByteArray) : ∀ k, k ≤ L.length → (gotK L p c k = 0 ∧ ∀ x ∈ L.take k, ¬ (x.p = p ∧ x.c = c)) ∨ ∃ x ∈ L, x.p = p ∧ x.c = c ∧ gotK L p c k = x.a
  | 0, _ => .inl ⟨rfl, by simp⟩
  | k + 1, h => by
    have e : L.getD k px0 = L[k] := by rw [List.getD, List.getElem?_eq_getElem (by omega)]; rfl
    simp only [gotK, e]
    by_cases q : L[k].p = p ∧ L[k].c = c
    · rw [if_pos q]
      exact .inr ⟨L[k], List.getElem_mem _, q.1, q.2, rfl⟩
    · rw [if_neg q]
      rcases gotK_or L p c k (by omega) with ⟨h1, h2⟩ | h1
      · refine .inl ⟨h1, fun x hx => ?_⟩
        rw [List.take_succ_eq_append_getElem (by omega)] at hx
        rcases List.mem_append.1 hx with hx | hx
        · exact h2 x hx
        · rw [List.mem_singleton] at hx; rw [hx]; exact q
      · exact .inr h1
theorem gotK_net {b : Bk} {B : Int} (h : BkI b B) (hnd : b.ps.Nodup) (p c : ByteArray) : gotK b.list p c b.list.length = netI b p c := by
  rcases gotK_or b.list p c _ (Nat.le_refl _) with ⟨h1, h2⟩ | ⟨x, hx, h1, h2, h3⟩
  · rw [h1]
    by_cases q : netI b p c = 0
    · exact q.symm
    · exact absurd ⟨rfl, rfl⟩ (h2 ⟨p, netI b p c, c⟩ (by rw [List.take_length]; exact (list_mem h hnd _).2 ⟨q, rfl⟩))
  · rw [h3, ← ((list_mem h hnd x).1 hx).2, h1, h2]
def cb6 : List (ByteArray × ByteArray) := [(ptS 0, curJ 0), (ptS 0, curJ 1), (ptS 1, curJ 0), (ptS 1, curJ 1), (ptS 2, curJ 0), (ptS 2, curJ 1)]
theorem cb6_nd : cb6.Nodup := by decide
theorem cnt1 (v : Int) : (if decide (v ≠ 0) = true then 1 else 0 : Nat) = if v = 0 then 0 else 1 := by by_cases e : v = 0 <;> simp [e]
theorem list_cnt {b : Bk} {B : Int} (h : BkI b B) (hps : b.ps.Pairwise (fun a b => strLt a b = true)) {M : List Mo} {n : Nat} {d : Int} (hN : ∀ p c, netI b p c = nmK M d p c n) (hc : ∀ p c, netI b p c ≠ 0 → (p, c) ∈ cb6) : b.list.length = cqO M n d 3 := by
  have hnd : b.ps.Nodup := hps.imp (fun {a b} h e => by subst e; rw [strLt_irrefl] at h; cases h)
  have ha := list_asc h hps
  have nd1 : (b.list.map (fun x => (x.p, x.c))).Nodup := by
    rw [List.Nodup, List.pairwise_map]
    refine ha.imp (fun {x y} hp e => ?_)
    simp only [Prod.mk.injEq] at e
    rcases plt_iff.1 hp with w | ⟨_, w⟩
    · rw [e.2, strLt_irrefl] at w; cases w
    · rw [e.1, strLt_irrefl] at w; cases w
  have nd2 : (cb6.filter (fun x => decide (nmK M d x.1 x.2 n ≠ 0))).Nodup := cb6_nd.filter _
  have hp : (b.list.map (fun x => (x.p, x.c))).Perm (cb6.filter (fun x => decide (nmK M d x.1 x.2 n ≠ 0))) := by
    refine (List.perm_ext_iff_of_nodup nd1 nd2).2 fun ⟨p, c⟩ => ?_
    rw [List.mem_filter, List.mem_map]
    dsimp only
    rw [decide_eq_true_eq, ← hN]
    constructor
    · rintro ⟨x, hx, e⟩
      simp only [Prod.mk.injEq] at e
      obtain ⟨h1, h2⟩ := (list_mem h hnd x).1 hx
      have h3 : netI b p c ≠ 0 := by rw [← e.1, ← e.2, h2]; exact h1
      exact ⟨hc p c h3, h3⟩
    · rintro ⟨_, h3⟩
      exact ⟨⟨p, netI b p c, c⟩, (list_mem h hnd _).2 ⟨h3, rfl⟩, rfl⟩
  have hl := hp.length_eq
  rw [List.length_map] at hl
  rw [hl, ← List.countP_eq_length_filter]
  simp only [cb6, List.countP_cons, List.countP_nil, cnt1]
  simp only [cqO, cnI, cnW]
  simp only [Int.natCast_zero, Int.natCast_one, show ((1 + 1 : Nat) : Int) = 2 from rfl, show ((0 : Nat) : Int) = 0 from rfl, show ((1 : Nat) : Int) = 1 from rfl, show ((2 : Nat) : Int) = 2 from rfl]
  omega
/-- The movements of the law: parties a, b and c; euro and dollars. -/
structure MoP (m : Mo) : Prop where
  f : ∃ k, k < 3 ∧ m.f = ptS ((k : Nat) : Int)
  t : ∃ k, k < 3 ∧ m.t = ptS ((k : Nat) : Int)
  c : m.c = curJ 0 ∨ m.c = curJ 1
theorem pt_cb {p c : ByteArray} (hp : ∃ k, k < 3 ∧ p = ptS ((k : Nat) : Int)) (hc : c = curJ 0 ∨ c = curJ 1) : (p, c) ∈ cb6 := by
  obtain ⟨k, hk, rfl⟩ := hp
  have : k = 0 ∨ k = 1 ∨ k = 2 := by omega
  rcases this with rfl | rfl | rfl <;> rcases hc with rfl | rfl <;> simp [cb6]
theorem nmK_cb {M : List Mo} (hM : ∀ m ∈ M, MoP m) {d : Int} {p c : ByteArray} : ∀ k, k ≤ M.length → nmK M d p c k ≠ 0 → (p, c) ∈ cb6
  | 0, _, h => absurd rfl h
  | k + 1, hk, h => by
    have e : M.getD k mo0 = M[k] := by rw [List.getD, List.getElem?_eq_getElem (by omega)]; rfl
    simp only [nmK, e] at h
    by_cases q : nmK M d p c k = 0
    · rw [q, Int.zero_add] at h
      have hm := hM _ (List.getElem_mem (show k < M.length by omega))
      unfold moD at h
      split at h
      · rename_i w
        rw [← w.2]
        by_cases w1 : M[k].f = p
        · exact pt_cb (by rw [← w1]; exact hm.f) hm.c
        · rw [if_neg w1] at h
          by_cases w2 : M[k].t = p
          · exact pt_cb (by rw [← w2]; exact hm.t) hm.c
          · rw [if_neg w2] at h; exact absurd rfl h
      · exact absurd rfl h
    · exact nmK_cb hM k (by omega) q
theorem nmK_app {M : List Mo} (m : Mo) (d : Int) (p c : ByteArray) : nmK (M ++ [m]) d p c (M.length + 1) = nmK M d p c M.length + moD m d p c := by
  have h : ∀ k, k ≤ M.length → nmK (M ++ [m]) d p c k = nmK M d p c k := by
    intro k
    induction k with
    | zero => intro _; rfl
    | succ k ih =>
      intro hk
      simp only [nmK]
      rw [ih (by omega), List.getD, List.getD, List.getElem?_append_left (by omega)]
  simp only [nmK]
  rw [h _ (Nat.le_refl _), List.getD, List.getElem?_append_right (Nat.le_refl _), Nat.sub_self]; rfl
theorem sidx_inj {l : List ByteArray} {p q : ByteArray} (hp : sidx l p < l.length) (h : sidx l p = sidx l q) : p = q := by
  have h1 := sidx_at l hp
  have h2 := sidx_at (s := q) l (by rw [← h]; exact hp)
  rw [← h] at h2
  exact h1.symm.trans h2
theorem mv_net {b : Bk} {B : Int} (h : BkI b B) {f t c : ByteArray} {a d : Int} (he : mvE b f t c a = stE b f t c a) (hs : stE b f t c a = 0) (p c' : ByteArray) : netI (b.mv f t c a) p c' = netI b p c' + moD ⟨d, f, t, a, c⟩ d p c' := by
  obtain ⟨hF, hT, hne, _⟩ := stE_ok hs
  obtain ⟨e1, e2⟩ := mv_ps b f t c a
  have hl := h.psl
  unfold netI moD
  rw [e1, e2]
  by_cases q : sidx b.ps p < b.n
  · rw [if_pos q, if_pos q, mv_row h he]
    refine congrArg (fun z : Int => (b.row c').getD (sidx b.ps p) 0 + z) ?_
    unfold dM
    dsimp only
    by_cases w : c = c'
    · subst w
      have k1 : (sidx b.ps p = sidx b.ps f) ↔ f = p := ⟨fun e => (sidx_inj (by rw [hl]; exact q) e).symm, fun e => by rw [e]⟩
      have k2 : (sidx b.ps p = sidx b.ps t) ↔ t = p := ⟨fun e => (sidx_inj (by rw [hl]; exact q) e).symm, fun e => by rw [e]⟩
      simp only [k1, k2, hs, and_self, if_true]
    · rw [if_neg (fun z => w z.2.symm), if_neg (fun z => w z.2)]
  · rw [if_neg q, if_neg q]
    dsimp only
    have k1 : ¬ f = p := fun e => q (by rw [← e]; exact hF)
    have k2 : ¬ t = p := fun e => q (by rw [← e]; exact hT)
    rw [if_neg k1, if_neg k2]
    split <;> rfl
end Go.Proofs.Ytkdjnmcaifejjaa

/- The cycle of a time: the reference's calendar, and the law. -/
namespace Go.Proofs.Ytkdjnmcaifejjaa
open Go.RowKit Go.Sy
attribute [local irreducible] vcall vloop vcallD retP sortI
set_option maxRecDepth 100000
set_option linter.unusedVariables false
set_option linter.unusedSimpArgs false

end Go.Proofs.Ytkdjnmcaifejjaa

/- Plain facts: what the law knows of the cycles, movement by movement. No program in sight. -/
namespace Go.Proofs.Ytkdjnmcaifejjaa
open Go.RowKit Go.Sy
set_option linter.unusedVariables false
set_option linter.unusedSimpArgs false
attribute [local irreducible] sortI
theorem nx_near {d : Int} (h0 : 0 ≤ d) (h1 : d ≤ 99990) : 0 ≤ nxI [] d ∧ nxI [] d ≤ d + 2 := by
  have hb : ∀ e : Int, 0 ≤ e → e ≤ 99999 → busB [] e = decide ((e + 3) % 7 < 5) := by
    intro e a b
    unfold busB
    rw [isD_yes.2 ⟨a, b⟩]; simp
  by_cases q : (d + 3) % 7 < 5
  · rw [nxI_yes (by rw [hb d h0 (by omega)]; simpa using q) (by omega)]; omega
  · rw [nxI_no (by rw [hb d h0 (by omega)]; simpa using q) (by omega)]
    by_cases q2 : (d + 1 + 3) % 7 < 5
    · rw [nxI_yes (by rw [hb _ (by omega) (by omega)]; simpa using q2) (by omega)]; omega
    · rw [nxI_no (by rw [hb _ (by omega) (by omega)]; simpa using q2) (by omega)]
      rw [nxI_yes (by rw [hb _ (by omega) (by omega)]; exact decide_eq_true (by omega)) (by omega)]; omega
theorem mvF_near {cd : List Int} {C W : Int} (hC : ∀ d ∈ cd, d ≤ C) (hW : C + 3 ≤ W) (hW2 : W ≤ 99000) : ∀ (k : Nat) (x : Int), 0 ≤ x → x ≤ W → 100001 - x ≤ (k : Int) → 0 ≤ mvF [] cd k x ∧ mvF [] cd k x ≤ W
  | 0, x, h0, h1, h2 => by omega
  | k + 1, x, h0, h1, h2 => by
    simp only [mvF]
    rw [if_neg (by omega)]
    by_cases q : x ∈ cd
    · rw [if_pos q]
      have hx := hC x q
      have hn := nx_near (d := x + 1) (by omega) (by omega)
      have hg := nxI_ok (hs := []) (d := x + 1) (by omega)
      exact mvF_near hC hW hW2 k (nxI [] (x + 1)) (by omega) (by omega) (by omega)
    · rw [if_neg q]; exact ⟨h0, h1⟩
theorem of_near {cut t : Int} (h0 : 0 ≤ t) (h1 : t ≤ 55080000) : dayI t = t / 86400 ∧ 0 ≤ ofI [] cut t ∧ ofI [] cut t ≤ t / 86400 + 3 := by
  have hk : okT t = true := okT_yes.2 ⟨h0, by omega, isD_yes.2 (by omega)⟩
  have hd : dayI t = t / 86400 := by unfold dayI; rw [if_pos hk]
  refine ⟨hd, ?_⟩
  unfold ofI
  rw [hd, if_neg (by omega)]
  split
  · omega
  · have := nx_near (d := t / 86400 + 1) (by omega) (by omega)
    omega
structure Cs where
  ds : List Int
  B : List Bk
  cd : List Int
  M : List Mo
structure CsI (s : Cs) (j : Nat) : Prop where
  bl : s.B.length = s.ds.length
  nd : s.ds.Nodup
  bk : ∀ i, i < s.ds.length → BkI (s.B.getD i bk0) (1000000000000 * (j : Int)) ∧ (s.B.getD i bk0).n = 3 ∧ (s.B.getD i bk0).ps = p3 ∧ (s.B.getD i bk0).m ≤ j
  ag : ∀ i, i < s.ds.length → ∀ p c, netI (s.B.getD i bk0) p c = nmK s.M (s.ds.getD i 0) p c s.M.length
  md : ∀ m ∈ s.M, m.d ∈ s.ds
  mp : ∀ m ∈ s.M, MoP m
  ms : MoS s.M
  cb : ∀ d ∈ s.cd, busB [] d = true
  cl : ∀ d ∈ s.cd, d ≤ 700 + 4 * (j : Int)
  dl : ∀ d ∈ s.ds, d ≤ 700 + 4 * (j : Int)
  lm : s.M.length ≤ j
  ld : s.ds.length ≤ j
theorem cs_zero : CsI ⟨[], [], [], []⟩ 0 := ⟨rfl, List.nodup_nil, fun i h => absurd h (Nat.not_lt_zero _), fun i h => absurd h (Nat.not_lt_zero _), fun m h => (by cases h), fun m h => (by cases h), fun m h => (by cases h), fun m h => (by cases h), fun m h => (by cases h), fun m h => (by cases h), Nat.le_refl _, Nat.le_refl _⟩
theorem CsI.up {s : Cs} {j : Nat} (h : CsI s j) : CsI s (j + 1) :=
  ⟨h.bl, h.nd, fun i hi => ⟨(h.bk i hi).1.up (by omega), (h.bk i hi).2.1, (h.bk i hi).2.2.1, by have := (h.bk i hi).2.2.2; omega⟩, h.ag, h.md, h.mp, h.ms, h.cb, fun d hd => by have := h.cl d hd; omega, fun d hd => by have := h.dl d hd; omega, by have := h.lm; omega, by have := h.ld; omega⟩
theorem CsI.bks {s : Cs} {j : Nat} (h : CsI s j) (hj : j ≤ 100) : BksI s.ds s.B s.ds.length 3 p3 :=
  ⟨rfl, h.bl, h.nd, fun i hi => ⟨(h.bk i hi).1.up (by omega), (h.bk i hi).2.1, (h.bk i hi).2.2.1, by have := (h.bk i hi).2.2.2; omega⟩⟩
theorem CsI.close {s : Cs} {j : Nat} (h : CsI s j) {d : Int} (hb : busB [] d = true) (hd : d ≤ 700 + 4 * (j : Int)) : CsI ⟨s.ds, s.B, s.cd ++ [d], s.M⟩ (j + 1) := by
  have u := h.up
  refine ⟨u.bl, u.nd, u.bk, u.ag, u.md, u.mp, u.ms, fun e he => ?_, fun e he => ?_, u.dl, u.lm, u.ld⟩
  · rcases List.mem_append.1 he with q | q
    · exact u.cb e q
    · rw [List.mem_singleton] at q; rw [q]; exact hb
  · rcases List.mem_append.1 he with q | q
    · exact u.cl e q
    · rw [List.mem_singleton] at q; rw [q]; omega
theorem nmK_none {M : List Mo} {d : Int} {p c : ByteArray} (h : ∀ m ∈ M, m.d ≠ d) : ∀ k, k ≤ M.length → nmK M d p c k = 0
  | 0, _ => rfl
  | k + 1, hk => by
    have e : M.getD k mo0 = M[k] := by rw [List.getD, List.getElem?_eq_getElem (by omega)]; rfl
    simp only [nmK, e]
    rw [nmK_none h k (by omega)]
    unfold moD
    rw [if_neg (fun w => h _ (List.getElem_mem _) w.1)]; rfl
theorem p3_asc : p3.Pairwise (fun a b => strLt a b = true) := by
  unfold p3
  refine .cons (fun a h => ?_) (.cons (fun a h => ?_) (.cons (fun a h => absurd h (List.not_mem_nil)) .nil)) <;> simp only [List.mem_cons, List.not_mem_nil, or_false] at h <;> (first | (rcases h with rfl | rfl <;> kernel_rfl) | (subst h; kernel_rfl))
theorem iidx_at {l : List Int} {d : Int} (h : d ∈ l) : l.getD (iidx l d) 0 = d := by
  have := iidx_get (iidx_lt.2 h)
  rw [List.getD, this]; rfl
theorem cs_agree {s : Cs} {j : Nat} (h : CsI s j) (d : Int) : (∀ k i : Nat, k < 3 → i < 2 → gotK (posL s.ds s.B d) (ptS k) (curJ i) (posL s.ds s.B d).length = nmK s.M d (ptS k) (curJ i) s.M.length) ∧ (posL s.ds s.B d).length = cqO s.M s.M.length d 3 := by
  unfold posL
  by_cases hd : d ∈ s.ds
  · have hi := iidx_lt.2 hd
    obtain ⟨b1, b2, b3, b4⟩ := h.bk _ hi
    have ha := h.ag _ hi
    rw [iidx_at hd] at ha
    have hps : (s.B.getD (iidx s.ds d) bk0).ps.Pairwise (fun a b => strLt a b = true) := by rw [b3]; exact p3_asc
    have hnd : (s.B.getD (iidx s.ds d) bk0).ps.Nodup := hps.imp (fun {a b} h e => by subst e; rw [strLt_irrefl] at h; cases h)
    rw [if_pos hd]
    exact ⟨fun k i _ _ => by rw [gotK_net b1 hnd, ha], list_cnt b1 hps ha (fun p c q => nmK_cb h.mp _ (Nat.le_refl _) (by rw [← ha]; exact q))⟩
  · rw [if_neg hd]
    have hz : ∀ p c, nmK s.M d p c s.M.length = 0 := fun p c => nmK_none (fun m hm e => hd (by rw [← e]; exact h.md m hm)) _ (Nat.le_refl _)
    refine ⟨fun k i _ _ => by rw [hz]; rfl, ?_⟩
    simp only [cqO, cnI, cnW, hz, if_true]; rfl
theorem pt_sidx : sidx p3 (ptS 0) = 0 ∧ sidx p3 (ptS 1) = 1 ∧ sidx p3 (ptS 2) = 2 := ⟨by kernel_rfl, by kernel_rfl, by kernel_rfl⟩
theorem pt_in {p : ByteArray} (h : ∃ k, k < 3 ∧ p = ptS ((k : Nat) : Int)) : sidx p3 p < 3 := by
  obtain ⟨k, hk, rfl⟩ := h
  have : k = 0 ∨ k = 1 ∨ k = 2 := by omega
  obtain ⟨e0, e1, e2⟩ := pt_sidx
  rcases this with rfl | rfl | rfl
  · show sidx p3 (ptS 0) < 3; omega
  · show sidx p3 (ptS 1) < 3; omega
  · show sidx p3 (ptS 2) < 3; omega
end Go.Proofs.Ytkdjnmcaifejjaa

/- Plain facts: a movement of the law always succeeds. No program in sight. -/
namespace Go.Proofs.Ytkdjnmcaifejjaa
open Go.RowKit Go.Sy
set_option linter.unusedVariables false
set_option linter.unusedSimpArgs false
attribute [local irreducible] sortI
theorem k0_net (p c : ByteArray) : netI (nwB p3) p c = 0 := by
  unfold netI
  split
  · show z16.getD _ 0 = 0
    exact z16_get _
  · rfl
theorem cur_ok {c : ByteArray} (hc : c = curJ 0 ∨ c = curJ 1) : curB c = true := by
  rcases hc with rfl | rfl <;> kernel_rfl
theorem at_bk {s : Cs} {j : Nat} (h : CsI s j) (D : Int) : BkI (bkAt s.ds s.B p3 D) (1000000000000 * (j : Int)) ∧ (bkAt s.ds s.B p3 D).n = 3 ∧ (bkAt s.ds s.B p3 D).ps = p3 ∧ (bkAt s.ds s.B p3 D).m ≤ j ∧ ∀ p c, netI (bkAt s.ds s.B p3 D) p c = nmK s.M D p c s.M.length := by
  unfold bkAt
  by_cases hd : D ∈ s.ds
  · have hi := iidx_lt.2 hd
    obtain ⟨b1, b2, b3, b4⟩ := h.bk _ hi
    have ha := h.ag _ hi
    rw [iidx_at hd] at ha
    rw [if_pos hd]
    exact ⟨b1, b2, b3, b4, ha⟩
  · rw [if_neg hd]
    exact ⟨(nwB_I p3_err).up (by omega), rfl, p3_sort, Nat.zero_le _, fun p c => by rw [k0_net, nmK_none (fun m hm e => hd (by rw [← e]; exact h.md m hm)) _ (Nat.le_refl _)]⟩
theorem st_ok {b : Bk} (hn : b.n = 3) (hp : b.ps = p3) {f g c : ByteArray} {a : Int} (hf : ∃ k, k < 3 ∧ f = ptS ((k : Nat) : Int)) (hg : ∃ k, k < 3 ∧ g = ptS ((k : Nat) : Int)) (hc : c = curJ 0 ∨ c = curJ 1) (ha0 : 0 ≤ a) (ha : a ≤ 65535) (hne : f ≠ g) : stE b f g c a = 0 := by
  have h1 := pt_in hf
  have h2 := pt_in hg
  have h3 : sidx p3 f ≠ sidx p3 g := fun e => hne (sidx_inj h1 e)
  have h4 : mchk a c = 0 := by
    unfold mchk
    rw [cur_ok hc, if_neg (by simp), if_pos (by omega)]
  unfold stE
  rw [hn, hp, idI_lt h1, idI_lt h2, if_neg (by omega), if_neg (by omega), h4, if_neg (by simp), if_neg (by omega)]
theorem moD_ne {D d : Int} {f g c p c' : ByteArray} {a : Int} (h : D ≠ d) : moD ⟨D, f, g, a, c⟩ d p c' = 0 := by
  unfold moD; exact if_neg (fun w => h w.1)
theorem cs_move {s : Cs} {j : Nat} (h : CsI s j) (hj : j ≤ 60) {cut t a : Int} {f g c : ByteArray} (h0 : 0 ≤ t) (h1 : t ≤ 55080000) (hf : ∃ k, k < 3 ∧ f = ptS ((k : Nat) : Int)) (hg : ∃ k, k < 3 ∧ g = ptS ((k : Nat) : Int)) (hc : c = curJ 0 ∨ c = curJ 1) (ha0 : 0 ≤ a) (ha : a ≤ 65535) (hne : f ≠ g) {D : Int} (hD : D = mvD [] s.cd (ofI [] cut t)) :
    0 ≤ D ∧ ¬ D ∈ s.cd ∧ ofI [] cut t ≤ D ∧ (D = ofI [] cut t ∨ ofI [] cut t ∈ s.cd) ∧ mvE (bkAt s.ds s.B p3 D) f g c a = 0 ∧ CsI ⟨mvDs s.ds D, mvBs s.ds s.B D ((bkAt s.ds s.B p3 D).mv f g c a), s.cd, s.M ++ [⟨D, f, g, a, c⟩]⟩ (j + 1) := by
  obtain ⟨o1, o2, o3⟩ := of_near (cut := cut) h0 h1
  have hF : D = mvF [] s.cd 100001 (ofI [] cut t) := by rw [hD]; unfold mvD; rfl
  have hn := mvF_near h.cl (W := 703 + 4 * (j : Int)) (by omega) (by omega) 100001 (ofI [] cut t) o2 (by omega) (by omega)
  have hk := (mvF_ok (hs := []) (cd := s.cd) 100001 (ofI [] cut t)).resolve_left (by omega)
  rw [← hF] at hn hk
  clear hF hD
  obtain ⟨b1, b2, b3, b4, b5⟩ := at_bk h D
  have hst := st_ok b2 b3 hf hg hc ha0 ha hne
  obtain ⟨m1, m2⟩ := mv_small b1 (by omega) f g c a (by omega)
  have m3 := mv_net (d := D) b1 m1 hst
  obtain ⟨m4, m5⟩ := mv_ps (bkAt s.ds s.B p3 D) f g c a
  have m6 := mv_m (bkAt s.ds s.B p3 D) f g c a
  have u := h.up
  refine ⟨hn.1, hk.2.2.1, hk.2.1, hk.2.2.2.imp id (fun w => w.1), by rw [m1]; exact hst, ?_⟩
  have hb' : BkI ((bkAt s.ds s.B p3 D).mv f g c a) (1000000000000 * ((j + 1 : Nat) : Int)) ∧ ((bkAt s.ds s.B p3 D).mv f g c a).n = 3 ∧ ((bkAt s.ds s.B p3 D).mv f g c a).ps = p3 ∧ ((bkAt s.ds s.B p3 D).mv f g c a).m ≤ j + 1 := ⟨m2.up (by omega), m5.trans b2, m4.trans b3, by omega⟩
  have hag : ∀ p c', netI ((bkAt s.ds s.B p3 D).mv f g c a) p c' = nmK (s.M ++ [⟨D, f, g, a, c⟩]) D p c' (s.M.length + 1) := fun p c' => by rw [nmK_app, m3, b5]
  generalize (bkAt s.ds s.B p3 D).mv f g c a = b' at *
  have hmd : ∀ m ∈ s.M ++ [(⟨D, f, g, a, c⟩ : Mo)], m ∈ s.M ∨ m = ⟨D, f, g, a, c⟩ := fun m hm => (List.mem_append.1 hm).imp id (fun q => List.mem_singleton.1 q)
  have hlen : (s.M ++ [(⟨D, f, g, a, c⟩ : Mo)]).length = s.M.length + 1 := by rw [List.length_append]; rfl
  have hmp : ∀ m ∈ s.M ++ [(⟨D, f, g, a, c⟩ : Mo)], MoP m := fun m hm => by
    rcases hmd m hm with q | rfl
    · exact h.mp m q
    · exact ⟨hf, hg, hc⟩
  have hms : MoS (s.M ++ [(⟨D, f, g, a, c⟩ : Mo)]) := fun m hm => by
    rcases hmd m hm with q | rfl
    · exact h.ms m q
    · exact ⟨ha0, ha⟩
  unfold mvDs mvBs
  by_cases hd : D ∈ s.ds
  · have hi := iidx_lt.2 hd
    rw [if_pos hd, if_pos hd]
    refine ⟨by rw [List.length_set]; exact h.bl, h.nd, fun i hi2 => ?_, fun i hi2 p c' => ?_, fun m hm => ?_, hmp, hms, u.cb, u.cl, u.dl, by rw [hlen]; have := h.lm; omega, u.ld⟩
    · by_cases e : i = iidx s.ds D
      · rw [e, List.getD, List.getElem?_set_self (by rw [h.bl]; exact hi)]; exact hb'
      · rw [List.getD, List.getElem?_set_ne (fun q => e q.symm)]; exact u.bk i hi2
    · dsimp only
      rw [hlen]
      by_cases e : i = iidx s.ds D
      · rw [e, List.getD, List.getElem?_set_self (by rw [h.bl]; exact hi), iidx_at hd]; exact hag p c'
      · have hx : D ≠ s.ds.getD i 0 := fun q => e (by
          have hi3 : i < s.ds.length := hi2
          refine (iidx_of_get h.nd (i := i) ?_).symm
          rw [q, List.getD, List.getElem?_eq_getElem hi3]; rfl)
        rw [List.getD, List.getElem?_set_ne (fun q => e q.symm), nmK_app, moD_ne hx, Int.add_zero]
        exact h.ag i hi2 p c'
    · rcases hmd m hm with q | rfl
      · exact h.md m q
      · exact hd
  · rw [if_neg hd, if_neg hd]
    have hsl : (s.ds ++ [D]).length = s.ds.length + 1 := by rw [List.length_append]; rfl
    refine ⟨by rw [List.length_append, List.length_append, h.bl]; rfl, ?_, fun i hi2 => ?_, fun i hi2 p c' => ?_, fun m hm => ?_, hmp, hms, u.cb, u.cl, fun d hx => ?_, by rw [hlen]; have := h.lm; omega, by rw [hsl]; have := h.ld; omega⟩
    · rw [List.nodup_append]
      exact ⟨h.nd, by simp, fun x hx y hy e => by rw [List.mem_singleton] at hy; subst hy; subst e; exact hd hx⟩
    · dsimp only at hi2
      rw [hsl] at hi2
      by_cases e : i = s.ds.length
      · rw [List.getD, List.getElem?_append_right (by rw [h.bl]; omega), h.bl, e, Nat.sub_self]; exact hb'
      · rw [List.getD, List.getElem?_append_left (by rw [h.bl]; omega)]; exact u.bk i (by omega)
    · dsimp only at hi2 ⊢
      rw [hsl] at hi2
      rw [hlen]
      by_cases e : i = s.ds.length
      · rw [List.getD, List.getElem?_append_right (by rw [h.bl]; omega), h.bl, List.getD, List.getElem?_append_right (by omega), e, Nat.sub_self]; exact hag p c'
      · have hi3 : i < s.ds.length := by omega
        have hx : D ≠ (s.ds ++ [D]).getD i 0 := fun q => hd (by
          rw [List.getD, List.getElem?_append_left hi3, List.getElem?_eq_getElem hi3] at q
          rw [q]; exact List.getElem_mem _)
        rw [List.getD, List.getElem?_append_left (by rw [h.bl]; exact hi3), nmK_app, moD_ne hx, Int.add_zero, List.getD, List.getElem?_append_left hi3]
        exact h.ag i hi3 p c'
    · rcases hmd m hm with q | rfl
      · exact List.mem_append_left _ (h.md m q)
      · exact List.mem_append_right _ (List.mem_singleton.2 rfl)
    · rcases List.mem_append.1 hx with q | q
      · exact u.dl d q
      · rw [List.mem_singleton] at q; rw [q]; omega
end Go.Proofs.Ytkdjnmcaifejjaa

/- Contract: a motion of the law. -/
namespace Go.Proofs.Ytkdjnmcaifejjaa
open Go.RowKit Go.Sy
attribute [local irreducible] vcall vloop vcallD retP sortI
set_option maxRecDepth 100000
set_option linter.unusedVariables false
set_option linter.unusedSimpArgs false

theorem bks_ren {H : Heap} {n m np : Nat} {ds : List Int} {B : List Bk} {sp : List ByteArray} (hn : 10 ≤ n) (h5 : hget H 5 = cyB false 7 m ds) (h7 : hget H 7 = fmB false m (f7 8 9 np)) (h8 : hget H 8 = fmB false m (f8 np sp)) (h9 : hget H 9 = fmB false m (f9 B)) :
    Relab H n (rdR n m (odD n np B sp)) (fun _ => 0) ((5, cyB false n m ds) :: rdN n m 0 (odD n np B sp)) [7, 8, 9] 3 := by
  have r0 : ∀ q, q < m → rdR n m (odD n np B sp) n q = some (7, q) := fun q hq => rdR_at (D := odD n np B sp) (i := 0) (d := ⟨7, f7 (n + 1) (n + 2) np⟩) rfl hq
  have r1 : ∀ q, q < m → rdR n m (odD n np B sp) (n + 1) q = some (8, q) := fun q hq => rdR_at (D := odD n np B sp) (i := 1) (d := ⟨8, f8 np sp⟩) rfl hq
  have r2 : ∀ q, q < m → rdR n m (odD n np B sp) (n + 2) q = some (9, q) := fun q hq => rdR_at (D := odD n np B sp) (i := 2) (d := ⟨9, f9 B⟩) rfl hq
  exact relab_ren (n := n) (th := 5) (odD n np B sp) (by omega) h5 (ble_map1 rfl (fun i hi => sle_ptr (by omega) (r0 i hi)))
    ⟨⟨(show (7 : Nat) ≠ 5 by decide), _, _, h7, fun q hq => ⟨hq, ble_cells ⟨sle_sl (by omega) (r1 q hq), sle_map (by omega) (r2 q hq), trivial⟩⟩⟩, ⟨(show (8 : Nat) ≠ 5 by decide), _, _, h8, fun q hq => ⟨hq, .inl rfl⟩⟩, ⟨(show (9 : Nat) ≠ 5 by decide), _, _, h9, fun q hq => ⟨hq, .inl rfl⟩⟩, trivial⟩ rfl
/-- The date that a motion closes; what a motion makes of the cycles. -/
def clD (s : Cs) (t fr to : Int) : Int := if 0 < (openS s.ds s.cd).length ∧ to % 2 = 0 then (openS s.ds s.cd).getD 0 0 else t / 86400 + fr % 4
def nxM (s : Cs) (cut t fr to am : Int) (eu : Bool) : Mo := ⟨mvD [] s.cd (ofI [] cut t), ptS fr, ptS to, am, curJ (bif eu then 0 else 1)⟩
def nxC (s : Cs) (cut t fr to am : Int) (eu : Bool) : Cs :=
  if am = 0 then (if clE [] s.ds s.cd (clD s t fr to) = 0 then ⟨s.ds, s.B, s.cd ++ [clD s t fr to], s.M⟩ else s)
  else if ptS fr = ptS to then s
  else ⟨mvDs s.ds (mvD [] s.cd (ofI [] cut t)), mvBs s.ds s.B (mvD [] s.cd (ofI [] cut t)) ((bkAt s.ds s.B p3 (mvD [] s.cd (ofI [] cut t))).mv (ptS fr) (ptS to) (curJ (bif eu then 0 else 1)) am), s.cd, s.M ++ [nxM s cut t fr to am eu]⟩
theorem ptS_ex {n : Int} (h : 0 ≤ n) : ∃ k, k < 3 ∧ ptS n = ptS ((k : Nat) : Int) := by
  refine ⟨(n % 3).toNat, by omega, ?_⟩
  unfold ptS
  rw [show (((n % 3).toNat : Nat) : Int) % 3 = n % 3 by omega]
theorem cur_eu (eu : Bool) : curJ (bif eu then 0 else 1) = curJ 0 ∨ curJ (bif eu then 0 else 1) = curJ 1 := by cases eu <;> simp
theorem open_mem {ds cd : List Int} (h : 0 < (openS ds cd).length) : (openS ds cd).getD 0 0 ∈ ds := by
  have hm : (openS ds cd).getD 0 0 ∈ openS ds cd := by rw [List.getD, List.getElem?_eq_getElem h]; exact List.getElem_mem _
  unfold openS at hm ⊢
  exact (List.mem_filter.1 ((sortI_perm _).mem_iff.1 hm)).1
theorem clD_le {s : Cs} {j : Nat} (h : CsI s j) {t fr to : Int} (h0 : 0 ≤ t) (h1 : t ≤ 55080000) : clD s t fr to ≤ 700 + 4 * (j : Int) := by
  unfold clD
  split
  · rename_i q; exact h.dl _ (open_mem q.1)
  · omega
theorem clE_bus {hs ds cd : List Int} {d : Int} (h : clE hs ds cd d = 0) : busB hs d = true := by
  unfold clE at h
  cases hb : busB hs d with
  | true => rfl
  | false => rw [hb, if_pos rfl] at h; cases h
theorem nxC_I {s : Cs} {j : Nat} (h : CsI s j) (hj : j ≤ 60) {cut t fr to am : Int} {eu : Bool} (h0 : 0 ≤ t) (h1 : t ≤ 55080000) (hf : 0 ≤ fr) (ht : 0 ≤ to) (ha0 : 0 ≤ am) (ha : am ≤ 65535) : CsI (nxC s cut t fr to am eu) (j + 1) := by
  unfold nxC
  split
  · split
    · rename_i q; exact h.close (clE_bus q) (clD_le h h0 h1)
    · exact h.up
  · split
    · exact h.up
    · rename_i q
      exact (cs_move h hj h0 h1 (ptS_ex hf) (ptS_ex ht) (cur_eu eu) ha0 ha q rfl).2.2.2.2.2
abbrev csH (cut : Int) (s : Cs) : Heap := (1, cyC true 2 4 5 6 3 cut) :: (2, calC true 3) :: (3, tmM true 0 []) :: (4, cyP true 3 p3) :: (6, tmM false s.cd.length s.cd) :: (10, moB false s.M.length s.M) :: bksH 5 7 8 9 3 s.ds.length s.ds s.B p3
abbrev csO (s : Cs) : Heap := (6, tmM false s.cd.length s.cd) :: (14, moB false s.M.length s.M) :: bksH 5 11 12 13 3 s.ds.length s.ds s.B p3
abbrev upR (n : Nat) (s : Cs) : Up := .relab (rdR n s.ds.length (odD n 3 s.B p3)) (fun _ => 0) ((5, cyB false n s.ds.length s.ds) :: rdN n s.ds.length 0 (odD n 3 s.B p3)) [7, 8, 9] 3
theorem cso_rw (s : Cs) : allRw (csO s) := allRw_cons (allRw_cons bks_rw)
abbrev mtA (n : Nat) (hr fr to am : Int) (eu : Bool) (t : Int) : List SV := [.ptr 1 0 0 0, .sl 10 0 0 n, .agg [.int .u8 hr, .int .u8 fr, .int .u8 to, .int .u16 am, .bool eu], .int .i64 t]
set_option maxHeartbeats 2000000 in
theorem mot_close {s : Cs} {j : Nat} (h : CsI s j) (hj : j ≤ 60) {cut t hr fr to am : Int} {eu : Bool} (h0 : 0 ≤ t) (h1 : t ≤ 55080000) (hf : 0 ≤ fr ∧ fr ≤ 255) (ht : 0 ≤ to ∧ to ≤ 255) (ha : am = 0) : FC Try.prog 11 13 (mtA s.M.length hr fr to am eu t) (csH cut s) (isOut (.tup [.sl 14 0 0 (nxC s cut t fr to am eu).M.length, .bool true]) (csO (nxC s cut t fr to am eu)) 15) := by
  have e1 : IntKind.i64.wrap (t.tdiv 86400) = t / 86400 := by rw [tdiv_pos h0, w64_in (by omega) (by omega)]
  have e2 : fr.tmod 4 = fr % 4 := tmod_pos hf.1
  have e3 : IntKind.i64.wrap (fr % 4) = fr % 4 := w64_in (by omega) (by omega)
  have e4 : IntKind.i64.wrap (t / 86400 + fr % 4) = t / 86400 + fr % 4 := w64_in (by omega) (by omega)
  have e5 : to.tmod 2 = to % 2 := tmod_pos ht.1
  have hbk := h.bks (by omega)
  have hld := h.ld
  have c1 := cy_Open 3 s.ds.length s.cd.length cut s.ds s.cd rfl rfl (by omega)
  have c2 := cy_Closed 3 s.cd.length cut s.cd rfl (clD s t fr to)
  have c3 := cy_Close (hs := []) (cd := s.cd) hbk rfl rfl (by omega) cut (clD s t fr to)
  subst ha
  have hnx : nxC s cut t fr to 0 eu = if clE [] s.ds s.cd (clD s t fr to) = 0 then ⟨s.ds, s.B, s.cd ++ [clD s t fr to], s.M⟩ else s := by unfold nxC; rw [if_pos rfl]
  rw [hnx]
  unfold clO at c3
  have hol : (openS s.ds s.cd).length ≤ 100000 := by
    unfold openS
    rw [sortI_length]
    exact Nat.le_trans (List.length_filter_le _ _) (by omega)
  have hcl : (0 < (openS s.ds s.cd).length ∧ to % 2 = 0 ∧ clD s t fr to = (openS s.ds s.cd).getD 0 0) ∨ (¬ (0 < (openS s.ds s.cd).length ∧ to % 2 = 0) ∧ clD s t fr to = t / 86400 + fr % 4) := by
    unfold clD
    by_cases q : 0 < (openS s.ds s.cd).length ∧ to % 2 = 0
    · rw [if_pos q]; exact .inl ⟨q.1, q.2, rfl⟩
    · rw [if_neg q]; exact .inr ⟨q, rfl⟩
  by_cases hz : clE [] s.ds s.cd (clD s t fr to) = 0
  · rw [if_pos hz] at c3 ⊢
    have hnd : ¬ clD s t fr to ∈ s.cd := by
      intro q
      unfold clE at hz
      rw [clE_bus (hs := []) (ds := s.ds) (cd := s.cd) (by unfold clE; exact hz), if_neg (by simp), if_pos q] at hz
      cases hz
    rw [decide_eq_false hnd] at c2
    have c4 := cy_Closed 3 (s.cd ++ [clD s t fr to]).length cut (s.cd ++ [clD s t fr to]) rfl (clD s t fr to)
    rw [decide_eq_true (by simp)] at c4
    obtain ⟨g1, g2⟩ := cs_agree h (clD s t fr to)
    have hlm := h.lm
    have c5 := law_agrees (by rw [g2]; have := cqO_le s.M s.M.length (clD s t fr to) 3; omega) (by omega) h.ms (clD s t fr to) g1 g2
    clear g1 g2 hz hnd
    generalize posL s.ds s.B (clD s t fr to) = P at *
    generalize clD s t fr to = D at *
    generalize openS s.ds s.cd = S at *
    rcases hcl with ⟨q1, q2, q3⟩ | ⟨q1, q3⟩
    · subst q3
      refine fc_of mixed T_ok Try.func13 rfl (by kernel_rfl) (by kernel_rfl) (by kernel_rfl) ?_
      repeat' ((conv => whnf); first | (simp only [e1]) | (simp only [e2]) | (simp only [e5]) | refine vcall_o (l := [0, 1, 2, 3, 4, 5, 6, 7, 8, 9]) (c1) ?_ | refine vcall_o (l := [0, 1, 2, 3, 4, 5, 6, 7, 8, 9]) (c2) ?_ | refine vcall_o (l := [0, 1, 2, 3, 4, 5, 6, 7, 8, 9]) (c3) ?_ | refine vcall_o (l := [0, 1, 2, 3, 4, 5, 6, 7, 8, 9]) (c4) ?_ | refine vcall_o (l := [0, 13, 10]) (c5) ?_ | (simp only [e3, e4]) | ((first | apply br_dec | apply br_ndec) <;> intro h <;> try (exfalso; (try dsimp only at h); omega)) | ((first | apply br_seq | apply br_nseq | apply br_not | apply br_intro) <;> intro h) | refine cond_a ?_)
      all_goals (conv => whnf)
      all_goals first
        | (exfalso; omega)
        | exact ret_up (l := [0, 1, 2, 3, 4, 5, 6, 7, 8, 9, 10, 14, 15, 16, 10]) [upR 14 s] ⟨bks_ren (n := 14) (by decide) rfl rfl rfl rfl, rfl, rfl, ⟨rfl, rfl, rfl, rfl, rfl, rfl, trivial⟩⟩ (cso_rw ⟨s.ds, s.B, _, s.M⟩)
        | trace_state
    · subst q3
      refine fc_of mixed T_ok Try.func13 rfl (by kernel_rfl) (by kernel_rfl) (by kernel_rfl) ?_
      repeat' ((conv => whnf); first | (simp only [e1]) | (simp only [e2]) | (simp only [e5]) | refine vcall_o (l := [0, 1, 2, 3, 4, 5, 6, 7, 8, 9]) (c1) ?_ | refine vcall_o (l := [0, 1, 2, 3, 4, 5, 6, 7, 8, 9]) (c2) ?_ | refine vcall_o (l := [0, 1, 2, 3, 4, 5, 6, 7, 8, 9]) (c3) ?_ | refine vcall_o (l := [0, 1, 2, 3, 4, 5, 6, 7, 8, 9]) (c4) ?_ | refine vcall_o (l := [0, 13, 10]) (c5) ?_ | (simp only [e3, e4]) | ((first | apply br_dec | apply br_ndec) <;> intro h <;> try (exfalso; (try dsimp only at h); omega)) | ((first | apply br_seq | apply br_nseq | apply br_not | apply br_intro) <;> intro h) | refine cond_a ?_)
      all_goals (conv => whnf)
      all_goals first
        | (exfalso; omega)
        | exact ret_up (l := [0, 1, 2, 3, 4, 5, 6, 7, 8, 9, 10, 14, 15, 16, 10]) [upR 14 s] ⟨bks_ren (n := 14) (by decide) rfl rfl rfl rfl, rfl, rfl, ⟨rfl, rfl, rfl, rfl, rfl, rfl, trivial⟩⟩ (cso_rw ⟨s.ds, s.B, _, s.M⟩)
        | trace_state
  · rw [if_neg hz] at c3 ⊢
    by_cases hd : clD s t fr to ∈ s.cd
    · rw [decide_eq_true hd] at c2
      have hz2 : clE [] s.ds s.cd (clD s t fr to) = 23 := by unfold clE; rw [h.cb _ hd, if_neg (by simp), if_pos hd]
      rw [hz2] at c3
      clear hz hz2 hd
      generalize clD s t fr to = D at *
      generalize openS s.ds s.cd = S at *
      rcases hcl with ⟨q1, q2, q3⟩ | ⟨q1, q3⟩ <;> subst q3
      all_goals (
      refine fc_of mixed T_ok Try.func13 rfl (by kernel_rfl) (by kernel_rfl) (by kernel_rfl) ?_
      repeat' ((conv => whnf); first | (simp only [e1]) | (simp only [e2]) | (simp only [e5]) | refine vcall_o (l := [0, 1, 2, 3, 4, 5, 6, 7, 8, 9]) (c1) ?_ | refine vcall_o (l := [0, 1, 2, 3, 4, 5, 6, 7, 8, 9]) (c2) ?_ | refine vcall_o (l := [0, 1, 2, 3, 4, 5, 6, 7, 8, 9]) (c3) ?_ | (simp only [e3, e4]) | ((first | apply br_dec | apply br_ndec) <;> intro h <;> try (exfalso; (try dsimp only at h); omega)) | ((first | apply br_seq | apply br_nseq | apply br_not | apply br_intro) <;> intro h) | refine cond_a ?_)
      all_goals (conv => whnf)
      all_goals first
        | (exfalso; omega)
        | exact ret_up (l := [0, 1, 2, 3, 4, 5, 6, 7, 8, 9, 10, 14, 15, 16, 10]) [upR 14 s] ⟨bks_ren (n := 14) (by decide) rfl rfl rfl rfl, rfl, rfl, ⟨rfl, rfl, rfl, rfl, rfl, rfl, trivial⟩⟩ (cso_rw s)
        | exact ret_up (l := [0, 1, 2, 3, 4, 5, 6, 7, 8, 9, 10, 13, 14, 15, 10]) [upR 13 s] ⟨bks_ren (n := 13) (by decide) rfl rfl rfl rfl, rfl, rfl, ⟨rfl, rfl, rfl, rfl, rfl, rfl, trivial⟩⟩ (cso_rw s)
        | (exfalso; simp_all; done)
        | trace_state)
    · rw [decide_eq_false hd] at c2
      have hz2 : clE [] s.ds s.cd (clD s t fr to) ≠ 23 := by
        unfold clE
        rw [if_neg hd]
        split
        · decide
        · split <;> decide
      clear hd
      generalize clE [] s.ds s.cd (clD s t fr to) = e at *
      generalize clD s t fr to = D at *
      generalize openS s.ds s.cd = S at *
      rcases hcl with ⟨q1, q2, q3⟩ | ⟨q1, q3⟩ <;> subst q3
      all_goals (
      refine fc_of mixed T_ok Try.func13 rfl (by kernel_rfl) (by kernel_rfl) (by kernel_rfl) ?_
      repeat' ((conv => whnf); first | (simp only [e1]) | (simp only [e2]) | (simp only [e5]) | refine vcall_o (l := [0, 1, 2, 3, 4, 5, 6, 7, 8, 9]) (c1) ?_ | refine vcall_o (l := [0, 1, 2, 3, 4, 5, 6, 7, 8, 9]) (c2) ?_ | refine vcall_o (l := [0, 1, 2, 3, 4, 5, 6, 7, 8, 9]) (c3) ?_ | (simp only [e3, e4]) | ((first | apply br_dec | apply br_ndec) <;> intro h <;> try (exfalso; (try dsimp only at h); omega)) | ((first | apply br_seq | apply br_nseq | apply br_not | apply br_intro) <;> intro h) | refine cond_a ?_)
      all_goals (conv => whnf)
      all_goals first
        | (exfalso; omega)
        | exact ret_up (l := [0, 1, 2, 3, 4, 5, 6, 7, 8, 9, 10, 14, 15, 16, 10]) [upR 14 s] ⟨bks_ren (n := 14) (by decide) rfl rfl rfl rfl, rfl, rfl, ⟨rfl, rfl, rfl, rfl, rfl, rfl, trivial⟩⟩ (cso_rw s)
        | exact ret_up (l := [0, 1, 2, 3, 4, 5, 6, 7, 8, 9, 10, 13, 14, 15, 10]) [upR 13 s] ⟨bks_ren (n := 13) (by decide) rfl rfl rfl rfl, rfl, rfl, ⟨rfl, rfl, rfl, rfl, rfl, rfl, trivial⟩⟩ (cso_rw s)
        | (exfalso; simp_all; done)
        | trace_state)
end Go.Proofs.Ytkdjnmcaifejjaa

/- Contract: a motion of the law that moves. -/
namespace Go.Proofs.Ytkdjnmcaifejjaa
open Go.RowKit Go.Sy
attribute [local irreducible] vcall vloop vcallD retP sortI
set_option maxRecDepth 100000
set_option linter.unusedVariables false
set_option linter.unusedSimpArgs false

theorem cs_D {s : Cs} {j : Nat} (h : CsI s j) (hj : j ≤ 60) {cut t : Int} (h0 : 0 ≤ t) (h1 : t ≤ 55080000) : 0 ≤ mvD [] s.cd (ofI [] cut t) := by
  obtain ⟨o1, o2, o3⟩ := of_near (cut := cut) h0 h1
  have hF : mvD [] s.cd (ofI [] cut t) = mvF [] s.cd 100001 (ofI [] cut t) := by unfold mvD; rfl
  rw [hF]
  exact (mvF_near h.cl (W := 703 + 4 * (j : Int)) (by omega) (by omega) 100001 (ofI [] cut t) o2 (by omega) (by omega)).1
theorem mv_same {b : Bk} (hn : b.n = 3) (hp : b.ps = p3) {f c : ByteArray} {a : Int} (hf : ∃ k, k < 3 ∧ f = ptS ((k : Nat) : Int)) : mvE b f f c a = 4 := by
  have h1 := pt_in hf
  unfold mvE
  rw [hn, hp, idI_lt h1, if_neg (by omega), if_pos rfl]
set_option maxHeartbeats 2000000 in
theorem mot_same {s : Cs} {j : Nat} (h : CsI s j) (hj : j ≤ 60) {cut t hr fr to am : Int} {eu : Bool} (h0 : 0 ≤ t) (h1 : t ≤ 55080000) (hf : 0 ≤ fr ∧ fr ≤ 255) (ht : 0 ≤ to ∧ to ≤ 255) (ha : 0 ≤ am ∧ am ≤ 65535) (hz : ¬ am = 0) (he : ptS fr = ptS to) : FC Try.prog 11 13 (mtA s.M.length hr fr to am eu t) (csH cut s) (isOut (.tup [.sl 14 0 0 (nxC s cut t fr to am eu).M.length, .bool true]) (csO (nxC s cut t fr to am eu)) 15) := by
  have e1 : IntKind.i64.wrap am = am := w64_in (by omega) (by omega)
  have hbk := h.bks (by omega)
  obtain ⟨b1, b2, b3, b4, b5⟩ := at_bk h (mvD [] s.cd (ofI [] cut t))
  have hD := cs_D h hj (cut := cut) h0 h1
  have cf := law_party fr hf.1 hf.2
  have ct := law_party to ht.1 ht.2
  have hnx : nxC s cut t fr to am eu = s := by unfold nxC; rw [if_neg hz, if_pos he]
  rw [hnx]
  rw [← he] at ct
  have hm : ∀ c, FC Try.prog 10 17 [.ptr 1 0 0 0, .int .i64 t, .str (ptS fr), .str (ptS fr), .agg [.int .i64 am, .str c]] ((1, cyC true 2 4 5 6 3 cut) :: (2, calC true 3) :: (3, tmM true 0 []) :: (4, cyP true 3 p3) :: (6, tmM true s.cd.length s.cd) :: bksH 5 7 8 9 3 s.ds.length s.ds s.B p3) (isOut (.tup [.int .i64 0, .int .i64 4]) (bksH 5 7 8 9 3 s.ds.length s.ds s.B p3) 10) := by
    intro c
    have c0 := cy_Move (hs := []) (cd := s.cd) (pr := p3) (by rw [p3_sort]; exact hbk) rfl rfl rfl p3_err cut t (ptS fr) (ptS fr) c am
    have h4 := mv_same (c := c) (a := am) b2 b3 (ptS_ex hf.1)
    rw [mvO_err (by omega) (by rw [h4]; decide), h4] at c0
    unfold mvH at c0
    rw [p3_sort] at c0
    exact c0
  have c1 := hm ⟨#[85, 83, 68]⟩
  have c2 := hm ⟨#[69, 85, 82]⟩
  clear hm
  cases eu
  all_goals refine fc_of mixed T_ok Try.func13 rfl (by kernel_rfl) (by kernel_rfl) (by kernel_rfl) ?_
  all_goals repeat' ((conv => whnf); first | (simp only [e1]) | (refine vcall_pure (cf) rfl rfl rfl ?_) | (refine vcallD_pure (cf) rfl rfl rfl ?_) | (refine vcall_pure (ct) rfl rfl rfl ?_) | (refine vcallD_pure (ct) rfl rfl rfl ?_) | refine vcall_o (l := [0, 1, 2, 3, 4, 5, 6, 7, 8, 9]) (c1) ?_ | refine vcall_o (l := [0, 1, 2, 3, 4, 5, 6, 7, 8, 9]) (c2) ?_ | ((first | apply br_dec | apply br_ndec) <;> intro h <;> try (exfalso; (try dsimp only at h); omega)) | ((first | apply br_seq | apply br_nseq | apply br_not | apply br_intro) <;> intro h) | refine cond_a ?_)
  all_goals (conv => whnf)
  all_goals first
    | (exfalso; omega)
    | exact ret_up (l := [0, 1, 2, 3, 4, 5, 6, 7, 8, 9, 10, 13, 14, 15, 10]) [upR 13 s] ⟨bks_ren (n := 13) (by decide) rfl rfl rfl rfl, rfl, rfl, ⟨rfl, rfl, rfl, rfl, rfl, rfl, trivial⟩⟩ (cso_rw s)
    | (exfalso; contradiction)
    | trace_state
set_option maxHeartbeats 2000000 in
theorem mot_move {s : Cs} {j : Nat} (h : CsI s j) (hj : j ≤ 60) {cut t hr fr to am : Int} {eu : Bool} (h0 : 0 ≤ t) (h1 : t ≤ 55080000) (hf : 0 ≤ fr ∧ fr ≤ 255) (ht : 0 ≤ to ∧ to ≤ 255) (ha : 0 ≤ am ∧ am ≤ 65535) (hz : ¬ am = 0) (he : ¬ ptS fr = ptS to) : FC Try.prog 11 13 (mtA s.M.length hr fr to am eu t) (csH cut s) (isOut (.tup [.sl 14 0 0 (nxC s cut t fr to am eu).M.length, .bool true]) (csO (nxC s cut t fr to am eu)) 15) := by
  have e1 : IntKind.i64.wrap am = am := w64_in (by omega) (by omega)
  have hbk := h.bks (by omega)
  have cf := law_party fr hf.1 hf.2
  have ct := law_party to ht.1 ht.2
  have hlm := h.lm
  obtain ⟨d1, d2, d3, d4, d5, d6⟩ := cs_move (cut := cut) h hj h0 h1 (ptS_ex hf.1) (ptS_ex ht.1) (cur_eu eu) ha.1 ha.2 he rfl
  have hX := (of_near (cut := cut) h0 h1).2.1
  have c1 := cy_Of 3 0 cut [] rfl t
  rw [show ofV (ofI [] cut t) = .tup [.int .i64 (ofI [] cut t), .int .i64 0] from by unfold ofV; rw [if_neg (by omega)]] at c1
  have c2 := cy_Move (hs := []) (cd := s.cd) (pr := p3) (by rw [p3_sort]; exact hbk) rfl rfl rfl p3_err cut t (ptS fr) (ptS to) (curJ (bif eu then 0 else 1)) am
  unfold mvO mvX at c2
  rw [if_neg (show ¬ mvD [] s.cd (ofI [] cut t) < 0 by omega), if_pos d5] at c2
  unfold mvH at c2
  rw [p3_sort] at c2
  have c3 := cy_Closed 3 s.cd.length cut s.cd rfl (mvD [] s.cd (ofI [] cut t))
  rw [decide_eq_false d2] at c3
  have c4 := cy_Closed 3 s.cd.length cut s.cd rfl (ofI [] cut t)
  have hnx : nxC s cut t fr to am eu = ⟨mvDs s.ds (mvD [] s.cd (ofI [] cut t)), mvBs s.ds s.B (mvD [] s.cd (ofI [] cut t)) ((bkAt s.ds s.B p3 (mvD [] s.cd (ofI [] cut t))).mv (ptS fr) (ptS to) (curJ (bif eu then 0 else 1)) am), s.cd, s.M ++ [⟨mvD [] s.cd (ofI [] cut t), ptS fr, ptS to, am, curJ (bif eu then 0 else 1)⟩]⟩ := by unfold nxC; rw [if_neg hz, if_neg he]; rfl
  rw [hnx]
  dsimp only
  have hcu : (eu = true ∧ curJ (bif eu then 0 else 1) = ⟨#[69, 85, 82]⟩) ∨ (eu = false ∧ curJ (bif eu then 0 else 1) = ⟨#[85, 83, 68]⟩) := by cases eu <;> simp [curJ]
  clear hnx d5 d6
  generalize mvDs s.ds (mvD [] s.cd (ofI [] cut t)) = ds' at *
  generalize mvBs s.ds s.B (mvD [] s.cd (ofI [] cut t)) ((bkAt s.ds s.B p3 (mvD [] s.cd (ofI [] cut t))).mv (ptS fr) (ptS to) (curJ (bif eu then 0 else 1)) am) = B' at *
  generalize curJ (bif eu then 0 else 1) = cc at *
  generalize mvD [] s.cd (ofI [] cut t) = D at *
  generalize ofI [] cut t = X at *
  have hMl : (s.M ++ [(⟨D, ptS fr, ptS to, am, cc⟩ : Mo)]).length = s.M.length + 1 := by rw [List.length_append]; rfl
  have hMa : (some (HB.one false (.cols (s.M.length + 1) [.sc (.ints .i64 (s.M.map Mo.d ++ [D])), .sc (.strs (s.M.map Mo.f ++ [ptS fr])), .sc (.strs (s.M.map Mo.t ++ [ptS to])), .sc (.ints .i64 (s.M.map Mo.a ++ [am])), .sc (.strs (s.M.map Mo.c ++ [cc]))])) : Option HB) = moB false (s.M.length + 1) (s.M ++ [(⟨D, ptS fr, ptS to, am, cc⟩ : Mo)]) := by
    unfold moB
    simp only [List.map_append, List.map_cons, List.map_nil]
  have hMb : moB false (s.M.length + 1) (s.M ++ [(⟨D, ptS fr, ptS to, am, cc⟩ : Mo)]) = moB false (s.M ++ [(⟨D, ptS fr, ptS to, am, cc⟩ : Mo)]).length (s.M ++ [(⟨D, ptS fr, ptS to, am, cc⟩ : Mo)]) := by rw [hMl]
  have hMc := hMa.trans hMb
  clear hMa hMb
  rw [hMl]
  rcases hcu with ⟨hu, hc⟩ | ⟨hu, hc⟩ <;> subst hu <;> subst hc <;> by_cases hDX : D = X
  all_goals (
    first
      | (have hc4 : X ∈ s.cd := d4.resolve_left hDX
         rw [decide_eq_true hc4] at c4)
      | skip
    refine fc_of mixed T_ok Try.func13 rfl (by kernel_rfl) (by kernel_rfl) (by kernel_rfl) ?_
    repeat' ((conv => whnf); first | (simp only [e1]) | (refine vcall_pure (cf) rfl rfl rfl ?_) | (refine vcallD_pure (cf) rfl rfl rfl ?_) | (refine vcall_pure (ct) rfl rfl rfl ?_) | (refine vcallD_pure (ct) rfl rfl rfl ?_) | refine vcall_o (l := [0, 1, 2, 3, 4, 5, 6, 7, 8, 9]) (c1) ?_ | refine vcall_o (l := [0, 1, 2, 3, 4, 5, 6, 7, 8, 9]) (c2) ?_ | refine vcall_o (l := [0, 1, 2, 3, 4, 5, 6, 7, 8, 9]) (c3) ?_ | refine vcallD_o (l := [0, 1, 2, 3, 4, 5, 6, 7, 8, 9]) (c3) ?_ | refine vcall_o (l := [0, 1, 2, 3, 4, 5, 6, 7, 8, 9]) (c4) ?_ | refine vcallD_o (l := [0, 1, 2, 3, 4, 5, 6, 7, 8, 9]) (c4) ?_ | ((first | apply br_dec | apply br_ndec) <;> intro h <;> try (exfalso; (try dsimp only at h); omega)) | ((first | apply br_seq | apply br_nseq | apply br_not | apply br_intro) <;> intro h) | refine cond_a ?_)
    all_goals (conv => whnf)
    all_goals first
      | (exfalso; omega)
      | exact ret_out (l := [0, 1, 2, 3, 4, 5, 6, 7, 8, 9, 10, 13, 14, 15, 17]) rfl rfl ⟨rfl, hMc, rfl, rfl, rfl, rfl, trivial⟩ (allRw_cons (allRw_cons bks_rw))
      | (exfalso; contradiction)
      | skip)
  all_goals exact ret_out (l := [0, 1, 2, 3, 4, 5, 6, 7, 8, 9, 10, 13, 14, 15, 17]) rfl rfl ⟨rfl, hMc, rfl, rfl, rfl, rfl, trivial⟩ (allRw_cons (allRw_cons bks_rw))
end Go.Proofs.Ytkdjnmcaifejjaa

/- The law: a closed cycle never changes, and no movement is lost. -/
namespace Go.Proofs.Ytkdjnmcaifejjaa
open Go.RowKit Go.Sy
attribute [local irreducible] vcall vloop vcallD retP sortI
set_option maxRecDepth 100000
set_option linter.unusedVariables false
set_option linter.unusedSimpArgs false

theorem u8_wf {x : Int} (h : (Lit.int .u8 x).wf = true) : 0 ≤ x ∧ x ≤ 255 := by
  unfold Lit.wf at h
  simp only [IntKind.min, IntKind.max, IntKind.signed, IntKind.bits, Bool.and_eq_true, decide_eq_true_eq] at h
  simp at h
  omega
theorem u16_wf {x : Int} (h : (Lit.int .u16 x).wf = true) : 0 ≤ x ∧ x ≤ 65535 := by
  unfold Lit.wf at h
  simp only [IntKind.min, IntKind.max, IntKind.signed, IntKind.bits, Bool.and_eq_true, decide_eq_true_eq] at h
  simp at h
  omega
theorem u8_get {l : List Int} (w : ∀ x ∈ l, (Lit.int .u8 x).wf = true) (i : Nat) : 0 ≤ l.getD i 0 ∧ l.getD i 0 ≤ 255 := by
  rw [List.getD]
  by_cases h : i < l.length
  · rw [List.getElem?_eq_getElem h]; exact u8_wf (w _ (List.getElem_mem h))
  · rw [List.getElem?_eq_none (by omega)]; decide
theorem u16_get {l : List Int} (w : ∀ x ∈ l, (Lit.int .u16 x).wf = true) (i : Nat) : 0 ≤ l.getD i 0 ∧ l.getD i 0 ≤ 65535 := by
  rw [List.getD]
  by_cases h : i < l.length
  · rw [List.getElem?_eq_getElem h]; exact u16_wf (w _ (List.getElem_mem h))
  · rw [List.getElem?_eq_none (by omega)]; decide
theorem law_motion {s : Cs} {j : Nat} (h : CsI s j) (hj : j ≤ 60) {cut t hr fr to am : Int} {eu : Bool} (h0 : 0 ≤ t) (h1 : t ≤ 55080000) (hf : 0 ≤ fr ∧ fr ≤ 255) (ht : 0 ≤ to ∧ to ≤ 255) (ha : 0 ≤ am ∧ am ≤ 65535) : FC Try.prog 11 13 (mtA s.M.length hr fr to am eu t) (csH cut s) (isOut (.tup [.sl 14 0 0 (nxC s cut t fr to am eu).M.length, .bool true]) (csO (nxC s cut t fr to am eu)) 15) := by
  by_cases hz : am = 0
  · exact mot_close h hj h0 h1 hf ht hz
  · by_cases he : ptS fr = ptS to
    · exact mot_same h hj h0 h1 hf ht ha hz he
    · exact mot_move h hj h0 h1 hf ht ha hz he
/-- The motions of the law, by columns; the time of a motion. -/
abbrev mtB (n : Nat) (hr fr to am : List Int) (eu : List Bool) : Option HB := some (.one true (.cols n [.sc (.ints .u8 hr), .sc (.ints .u8 fr), .sc (.ints .u8 to), .sc (.ints .u16 am), .sc (.bools eu)]))
def atK (hr : List Int) : Nat → Int
  | 0 => 0
  | i + 1 => atK hr i + 3600 * hr.getD i 0
theorem atK_bd {hr : List Int} (h : ∀ i, 0 ≤ hr.getD i 0 ∧ hr.getD i 0 ≤ 255) : ∀ i : Nat, 0 ≤ atK hr i ∧ atK hr i ≤ 918000 * (i : Int)
  | 0 => by simp [atK]
  | i + 1 => by
    have ih := atK_bd h i
    have hi := h i
    simp only [atK]; omega
abbrev lwH (cut : Int) (s : Cs) : Heap := (2, cyC false 3 5 6 7 3 cut) :: (3, calC false 4) :: (4, tmM false 0 []) :: (5, cyP false 3 p3) :: (7, tmM false s.cd.length s.cd) :: (11, moB false s.M.length s.M) :: bksH 6 8 9 10 3 s.ds.length s.ds s.B p3
set_option maxHeartbeats 2000000 in
theorem law_Closes (n : Nat) (hr fr to am : List Int) (eu : List Bool) (cut : Int) (hn : n ≤ maxLen) (w0 : ∀ i, 0 ≤ hr.getD i 0 ∧ hr.getD i 0 ≤ 255) (w1 : ∀ i, 0 ≤ fr.getD i 0 ∧ fr.getD i 0 ≤ 255) (w2 : ∀ i, 0 ≤ to.getD i 0 ∧ to.getD i 0 ≤ 255) (w3 : ∀ i, 0 ≤ am.getD i 0 ∧ am.getD i 0 ≤ 65535) (hc : 0 ≤ cut ∧ cut ≤ 65535) :
    FC Try.prog 2 4 [.sl 1 0 0 n, .int .u16 cut] [(1, mtB n hr fr to am eu)] (isOut (.bool true) [] 2) := by
  have eM : maxLen = 9223372036854775807 := rfl
  have haw := law_awake
  have ec : IntKind.i64.wrap cut = cut := w64_in (by omega) (by omega)
  have c1 := law_made cut
  unfold maO at c1
  rw [if_neg (by omega)] at c1
  by_cases h60 : 60 < n
  · refine fc_of mixed T_ok Try.func4 rfl (by kernel_rfl) (by kernel_rfl) (by kernel_rfl) ?_
    repeat' ((conv => whnf); first | (refine vcall_pure (haw) rfl rfl rfl ?_) | (refine vcallD_pure (haw) rfl rfl rfl ?_) | (simp only [ec]) | refine vcall_o (l := [0]) (c1) ?_ | ((first | apply br_dec | apply br_ndec) <;> intro h <;> try (exfalso; (try dsimp only at h); omega)) | ((first | apply br_seq | apply br_nseq | apply br_not | apply br_intro) <;> intro h) | refine cond_a ?_)
    all_goals (conv => whnf)
    all_goals first
      | exact ret_out (l := [0, 1]) rfl rfl trivial allRw_nil
      | (exfalso; omega)
      | trace_state
  refine fc_of mixed T_ok Try.func4 rfl (by kernel_rfl) (by kernel_rfl) (by kernel_rfl) ?_
  repeat' ((conv => whnf); first | (refine vcall_pure (haw) rfl rfl rfl ?_) | (refine vcallD_pure (haw) rfl rfl rfl ?_) | (simp only [ec]) | refine vcall_o (l := [0]) (c1) ?_ | ((first | apply br_dec | apply br_ndec) <;> intro h <;> try (exfalso; (try dsimp only at h); omega)) | ((first | apply br_seq | apply br_nseq | apply br_not | apply br_intro) <;> intro h) | refine cond_a ?_)
  all_goals (conv => whnf)
  all_goals first
    | (exfalso; omega)
    | skip
  refine vloop_lp (fun x : Nat × Cs => ⟨[(0, .sl 1 0 0 n), (5, .ptr 2 0 0 0), (7, .sl 11 0 0 x.2.M.length), (8, .int .i64 (atK hr x.1)), (9, .int .i64 x.1)], (1, mtB n hr fr to am eu) :: lwH cut x.2, 12⟩) (fun x => x.1 ≤ n ∧ CsI x.2 x.1) (fun x => n - x.1) (0, ⟨[], [], [], []⟩) [0, 1, 2, 3, 4, 5, 6, 7, 8, 9, 10, 11] [.slot 7 [.sc (.ints .i64 []), .sc (.strs []), .sc (.strs []), .sc (.ints .i64 []), .sc (.strs [])]] ⟨rfl, ⟨rfl, rfl, rfl, rfl, rfl, trivial⟩, ⟨rfl, rfl, rfl, rfl, rfl, rfl, rfl, rfl, rfl, rfl, rfl, trivial⟩⟩ ⟨Nat.zero_le _, cs_zero⟩ ?_
  rintro ⟨i, s⟩ ⟨hi, hI⟩
  dsimp only at hi hI
  by_cases hi2 : i < n
  · have hb := atK_bd w0 i
    have hb2 := atK_bd w0 (i + 1)
    have hst : atK hr (i + 1) = atK hr i + 3600 * hr.getD i 0 := rfl
    have h0 := w0 i
    have eh : IntKind.i64.wrap (hr.getD i 0) = hr.getD i 0 := w64_in (by omega) (by omega)
    have em : IntKind.i64.wrap (3600 * hr.getD i 0) = 3600 * hr.getD i 0 := w64_in (by omega) (by omega)
    have ea : IntKind.i64.wrap (atK hr i + 3600 * hr.getD i 0) = atK hr (i + 1) := by rw [w64_in (by omega) (by omega)]; rfl
    have c2 := law_motion (cut := cut) (hr := hr.getD i 0) (eu := eu.getD i false) hI (by omega) (t := atK hr (i + 1)) hb2.1 (by omega) (w1 i) (w2 i) (w3 i)
    have hN := nxC_I (cut := cut) (eu := eu.getD i false) hI (by omega) (t := atK hr (i + 1)) hb2.1 (by omega) (w1 i).1 (w2 i).1 (w3 i).1 (w3 i).2
    generalize nxC s cut (atK hr (i + 1)) (fr.getD i 0) (to.getD i 0) (am.getD i 0) (eu.getD i false) = s' at *
    repeat' ((conv => whnf); first | (simp only [toNat0, eh, em, ea]) | refine vcall_o (l := [0, 2, 3, 4, 5, 6, 7, 8, 9, 10, 11]) (c2) ?_ | ((first | apply br_dec | apply br_ndec) <;> intro h <;> try (exfalso; (try dsimp only at h); omega)) | ((first | apply br_seq | apply br_nseq | apply br_not | apply br_intro) <;> intro h) | refine cond_a ?_)
    all_goals (conv => whnf)
    all_goals (try simp only [eh, em, ea])
    all_goals first
      | (exfalso; omega)
      | skip
    have hbk := hN.bks (by omega)
    have hlm := hN.lm
    refine vloop_lp (fun k : Nat => ⟨[(0, .sl 1 0 0 n), (5, .ptr 2 0 0 0), (7, .sl 11 0 0 s'.M.length), (8, .int .i64 (atK hr (i + 1))), (9, .int .i64 i), (12, .int .i64 k)], (1, mtB n hr fr to am eu) :: lwH cut s', 12⟩) (fun k => k ≤ s'.M.length) (fun k => s'.M.length - k) 0 [0, 1, 2, 3, 4, 5, 6, 7, 12, 13, 14, 15] [] ⟨rfl, ⟨rfl, rfl, rfl, rfl, rfl, rfl, trivial⟩, ⟨rfl, rfl, rfl, rfl, rfl, rfl, rfl, rfl, rfl, rfl, rfl, trivial⟩⟩ (Nat.zero_le _) ?_
    intro k hk
    by_cases hk2 : k < s'.M.length
    · have d1 := cy_Positions hbk cut ((s'.M.map Mo.d).getD k 0)
      obtain ⟨g1, g2⟩ := cs_agree hN ((s'.M.map Mo.d).getD k 0)
      have d2 := law_agrees (by rw [g2]; have := cqO_le s'.M s'.M.length ((s'.M.map Mo.d).getD k 0) 3; omega) (by omega) hN.ms ((s'.M.map Mo.d).getD k 0) g1 g2
      clear g1 g2 c1 c2
      repeat' ((conv => whnf); first | (simp only [toNat0]) | refine vcall_o (l := [0, 2, 3, 4, 5, 6, 7, 8, 9, 10]) (d1) ?_ | refine vcall_o (l := [0, 12, 11]) (d2) ?_ | refine vcallD_o (l := [0, 12, 11]) (d2) ?_ | ((first | apply br_dec | apply br_ndec) <;> intro h <;> try (exfalso; (try dsimp only at h); omega)) | ((first | apply br_seq | apply br_nseq | apply br_not | apply br_intro) <;> intro h) | refine cond_a ?_)
      all_goals (conv => whnf)
      all_goals first
        | exact ⟨k + 1, [0, 1, 2, 3, 4, 5, 6, 7, 8, 9, 10, 11], [], hk2, (show s'.M.length - (k + 1) < s'.M.length - k by omega), ⟨rfl, ⟨rfl, rfl, rfl, rfl, rfl, congrArg (fun z => some (SV.int .i64 z)) (i64_succ (by omega)), trivial⟩, ⟨rfl, rfl, rfl, rfl, rfl, rfl, rfl, rfl, rfl, rfl, rfl, trivial⟩⟩⟩
        | (exfalso; omega)
        | trace_state
    · repeat' ((conv => whnf); first | ((first | apply br_dec | apply br_ndec) <;> intro h <;> try (exfalso; (try dsimp only at h); omega)) | ((first | apply br_seq | apply br_nseq | apply br_not | apply br_intro) <;> intro h) | refine cond_a ?_)
      all_goals (conv => whnf)
      all_goals first
        | exact ⟨(i + 1, s'), [0, 1, 2, 3, 4, 5, 6, 7, 8, 9, 10, 11], [], ⟨hi2, hN⟩, (show n - (i + 1) < n - i by omega), ⟨rfl, ⟨rfl, rfl, rfl, rfl, congrArg (fun z => some (SV.int .i64 z)) (i64_succ (by omega)), trivial⟩, ⟨rfl, rfl, rfl, rfl, rfl, rfl, rfl, rfl, rfl, rfl, rfl, trivial⟩⟩⟩
        | (exfalso; omega)
        | trace_state
  · have e : i = n := by omega
    subst e
    repeat' ((conv => whnf); first | (refine vcall_pure (haw) rfl rfl rfl ?_) | (refine vcallD_pure (haw) rfl rfl rfl ?_) | ((first | apply br_dec | apply br_ndec) <;> intro h <;> try (exfalso; (try dsimp only at h); omega)) | ((first | apply br_seq | apply br_nseq | apply br_not | apply br_intro) <;> intro h) | refine cond_a ?_)
    all_goals (conv => whnf)
    all_goals first
      | exact ret_out (l := [0, 1]) rfl rfl trivial allRw_nil
      | (exfalso; omega)
      | trace_state
end Go.Proofs.Ytkdjnmcaifejjaa

