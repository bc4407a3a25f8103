/- Several texts in one: XCyF, XCyG, XCyH, XCyI. -/
import Derived.Test.YtkdjnmcaifejjaaCa1
import Derived.Test.YtkdjnmcaifejjaaYLaw
/- Contract of package cycle: moves. -/
namespace Go.Proofs.Ytkdjnmcaifejjaa
open Go.RowKit Go.Sy
attribute [local irreducible] vcall vloop vcallD retP sortI
set_option maxRecDepth 100000
set_option linter.unusedVariables false
set_option linter.unusedSimpArgs false

/-- The first cycle at a date or later that is not closed; none: -1. -/
def mvF (hs cd : List Int) : Nat → Int → Int
  | 0, _ => -1
  | k + 1, x => if x < 0 then -1 else if x ∈ cd then mvF hs cd k (nxI hs (x + 1)) else x
@[irreducible] def mvD (hs cd : List Int) (x : Int) : Int := mvF hs cd 100001 x
theorem mvF_neg {hs cd : List Int} {x : Int} (h : x < 0) : ∀ k, mvF hs cd k x = -1
  | 0 => rfl
  | k + 1 => by simp only [mvF]; rw [if_pos h]
def ofP (x : Int) : Int := if x < 0 then 0 else x
def ofQ (x : Int) : Int := if x < 0 then 14 else 0
theorem ofV_eq (x : Int) : ofV x = .tup [.int .i64 (ofP x), .int .i64 (ofQ x)] := by unfold ofV ofP ofQ; split <;> rfl
theorem ofI_le {hs : List Int} {cut t : Int} : ofI hs cut t ≤ 99999 := by
  unfold ofI
  split
  · omega
  · rename_i h
    have := dayI_ok h
    split
    · omega
    · by_cases q : nxI hs (dayI t + 1) < 0
      · omega
      · exact (nxI_ok q).2.1
/-- The book of a date; what a move makes of the dates and the books. -/
def bkAt (ds : List Int) (B : List Bk) (pr : List ByteArray) (d : Int) : Bk := if d ∈ ds then B.getD (iidx ds d) bk0 else nwB pr
def mvDs (ds : List Int) (d : Int) : List Int := if d ∈ ds then ds else ds ++ [d]
def mvBs (ds : List Int) (B : List Bk) (d : Int) (b : Bk) : List Bk := if d ∈ ds then B.set (iidx ds d) b else B ++ [b]
def mvX (hs ds cd : List Int) (B : List Bk) (pr : List ByteArray) (D : Int) (f t c : ByteArray) (a : Int) : Int := if D < 0 then 14 else mvE (bkAt ds B pr D) f t c a
def mvO (np m : Nat) (hs ds cd : List Int) (B : List Bk) (pr : List ByteArray) (D : Int) (f t c : ByteArray) (a : Int) : SV → Heap → Nat → Prop :=
  if mvX hs ds cd B pr D f t c a = 0 then isOut (.tup [.int .i64 D, .int .i64 0]) (bksH 5 10 11 12 np (mvDs ds D).length (mvDs ds D) (mvBs ds B D ((bkAt ds B pr D).mv f t c a)) (sortS pr)) 13
  else isOut (.tup [.int .i64 0, .int .i64 (mvX hs ds cd B pr D f t c a)]) (bksH 5 7 8 9 np m ds B (sortS pr)) 10
abbrev mvH (np m hn nc : Nat) (cut : Int) (hs ds cd : List Int) (B : List Bk) (pr : List ByteArray) : Heap := (1, cyC true 2 4 5 6 np cut) :: (2, calC true 3) :: (3, tmM true hn hs) :: (4, cyP true np pr) :: (6, tmM true nc cd) :: bksH 5 7 8 9 np m ds B (sortS pr)
theorem f9_app_lt {B : List Bk} {q : Nat} (h : q < B.length) (b : Bk) : f9 (B ++ [b]) q = f9 B q := by
  unfold f9
  rw [List.getD, List.getD, List.getElem?_append_left h]
theorem f9_app_at {B : List Bk} {m : Nat} (h : B.length = m) (b : Bk) : f9 (B ++ [b]) m = bkMb b := by
  unfold f9
  rw [List.getD, List.getElem?_append_right (by omega), ← h, Nat.sub_self]; rfl
theorem mvO_none {np m : Nat} {hs ds cd : List Int} {B : List Bk} {pr : List ByteArray} {D : Int} {f t c : ByteArray} {a : Int} (h : D < 0) : mvO np m hs ds cd B pr D f t c a = isOut (.tup [.int .i64 0, .int .i64 14]) (bksH 5 7 8 9 np m ds B (sortS pr)) 10 := by
  unfold mvO mvX
  rw [if_pos h, if_neg (by decide)]
theorem mvO_err {np m : Nat} {hs ds cd : List Int} {B : List Bk} {pr : List ByteArray} {D : Int} {f t c : ByteArray} {a : Int} (h : ¬ D < 0) (he : ¬ mvE (bkAt ds B pr D) f t c a = 0) : mvO np m hs ds cd B pr D f t c a = isOut (.tup [.int .i64 0, .int .i64 (mvE (bkAt ds B pr D) f t c a)]) (bksH 5 7 8 9 np m ds B (sortS pr)) 10 := by
  unfold mvO mvX
  rw [if_neg h, if_neg he]
theorem mvO_old {np m : Nat} {hs ds cd : List Int} {B : List Bk} {pr : List ByteArray} {D : Int} {f t c : ByteArray} {a : Int} (h : ¬ D < 0) (he : mvE (bkAt ds B pr D) f t c a = 0) (hd : D ∈ ds) (hm : ds.length = m) : mvO np m hs ds cd B pr D f t c a = isOut (.tup [.int .i64 D, .int .i64 0]) (bksH 5 10 11 12 np m ds (B.set (iidx ds D) ((bkAt ds B pr D).mv f t c a)) (sortS pr)) 13 := by
  unfold mvO mvX mvDs mvBs
  rw [if_neg h, if_pos he, if_pos hd, if_pos hd, hm]
theorem mvO_new {np m : Nat} {hs ds cd : List Int} {B : List Bk} {pr : List ByteArray} {D : Int} {f t c : ByteArray} {a : Int} (h : ¬ D < 0) (he : mvE (bkAt ds B pr D) f t c a = 0) (hd : ¬ D ∈ ds) (hm : ds.length = m) : mvO np m hs ds cd B pr D f t c a = isOut (.tup [.int .i64 D, .int .i64 0]) (bksH 5 10 11 12 np (m + 1) (ds ++ [D]) (B ++ [(bkAt ds B pr D).mv f t c a]) (sortS pr)) 13 := by
  unfold mvO mvX mvDs mvBs
  rw [if_neg h, if_pos he, if_neg hd, if_neg hd, List.length_append, hm]; rfl
theorem ptrs_ren {n m h h' : Nat} {R : Nat → Nat → Option (Nat × Nat)} (hn : n ≤ h') (h1 : ∀ q, q < m → R h' q = some (h, q)) : ∀ i, i < m → SLe n R ((BCol.svs (ptrL h m)).at i) ((BCol.ptrs h' m).at i) := by
  intro i hi
  have e1 : (BCol.svs (ptrL h m)).at i = .ptr h i 0 0 := ptrL_at hi
  rw [e1]
  exact sle_ptr hn (h1 i hi)
theorem bkPut_old {ds : List Int} {m : Nat} (hm : ds.length = m) {D : Int} (hd : D ∈ ds) : (some (HB.one false (.obj (.map false false (if iidx ds D < m then m else m + 1) [.ints .i64 (putL (iidx ds D) D ds)] [.svs (putL (iidx ds D) (.ptr 7 (iidx ds D) 0 0) (ptrL 7 m))] (if iidx ds D < m then List.range m else List.range m ++ [m]) (if iidx ds D < m then m else m + 1)))) : Option HB) = some (.one false (.obj (.map false false m [.ints .i64 ds] [.svs (ptrL 7 m)] (List.range m) m))) := by
  have hi := iidx_lt.2 hd
  rw [iput_key, if_pos hi, if_pos (by omega), if_pos (by omega), ptrL_put (by omega)]
theorem bkPut_new {ds : List Int} {m h : Nat} (hm : ds.length = m) {D : Int} (hd : ¬ D ∈ ds) : (some (HB.one false (.obj (.map false false (if iidx ds D < m then m else m + 1) [.ints .i64 (putL (iidx ds D) D ds)] [.svs (putL (iidx ds D) (.ptr h 0 0 0) (ptrL 7 m))] (if iidx ds D < m then List.range m else List.range m ++ [m]) (if iidx ds D < m then m else m + 1)))) : Option HB) = some (.one false (.obj (.map false false (m + 1) [.ints .i64 (ds ++ [D])] [.svs (ptrL 7 m ++ [.ptr h 0 0 0])] (List.range (m + 1)) (m + 1)))) := by
  have hi : ¬ iidx ds D < ds.length := fun q => hd (iidx_lt.1 q)
  have e : iidx ds D = m := by have := iidx_le ds D; omega
  rw [iput_key, if_neg hi, if_neg (by omega), if_neg (by omega), e, ptrL_new, List.range_succ]
theorem bks_rw {h5 h7 h8 h9 np m : Nat} {ds : List Int} {B : List Bk} {sp : List ByteArray} : allRw (bksH h5 h7 h8 h9 np m ds B sp) := allRw_cons (allRw_fam (allRw_fam (allRw_fam allRw_nil)))
/-- The books get new names; a new one is gathered with them. -/
abbrev odD (n np : Nat) (B : List Bk) (sp : List ByteArray) : List RD := [⟨7, f7 (n + 1) (n + 2) np⟩, ⟨8, f8 np sp⟩, ⟨9, f9 B⟩]
theorem bks_old {H : Heap} {n m np : Nat} {ds : List Int} {B : List Bk} {sp : List ByteArray} (hn : 10 ≤ n) (h5 : hget H 5 = some (.one false (.obj (.map false false m [.ints .i64 ds] [.svs (ptrL 7 m)] (List.range m) m)))) (h7 : hget H 7 = fmB false m (f7 8 9 np)) (h8 : hget H 8 = fmB false m (f8 np sp)) (h9 : hget H 9 = fmB false m (f9 B)) :
    Relab H n (rdR n m (odD n np B sp)) (fun _ => 0) ((5, cyB false n m ds) :: rdN n m 0 (odD n np B sp)) [7, 8, 9] 3 := by
  have r0 : ∀ q, q < m → rdR n m (odD n np B sp) n q = some (7, q) := fun q hq => rdR_at (D := odD n np B sp) (i := 0) (d := ⟨7, f7 (n + 1) (n + 2) np⟩) rfl hq
  have r1 : ∀ q, q < m → rdR n m (odD n np B sp) (n + 1) q = some (8, q) := fun q hq => rdR_at (D := odD n np B sp) (i := 1) (d := ⟨8, f8 np sp⟩) rfl hq
  have r2 : ∀ q, q < m → rdR n m (odD n np B sp) (n + 2) q = some (9, q) := fun q hq => rdR_at (D := odD n np B sp) (i := 2) (d := ⟨9, f9 B⟩) rfl hq
  exact relab_ren (n := n) (th := 5) (odD n np B sp) (by omega) h5 (ble_map1 rfl (ptrs_ren (by omega) r0))
    ⟨⟨(show (7 : Nat) ≠ 5 by decide), _, _, h7, fun q hq => ⟨hq, ble_cells ⟨sle_sl (by omega) (r1 q hq), sle_map (by omega) (r2 q hq), trivial⟩⟩⟩, ⟨(show (8 : Nat) ≠ 5 by decide), _, _, h8, fun q hq => ⟨hq, .inl rfl⟩⟩, ⟨(show (9 : Nat) ≠ 5 by decide), _, _, h9, fun q hq => ⟨hq, .inl rfl⟩⟩, trivial⟩ rfl
abbrev nwD (n h np : Nat) (B : List Bk) (sp : List ByteArray) : List GD := [⟨7, h, f7 (n + 1) (n + 2) np⟩, ⟨8, h + 1, f8 np sp⟩, ⟨9, h + 2, f9 B⟩]
theorem bks_new {H : Heap} {n m np h : Nat} {ds : List Int} {B : List Bk} {b : Bk} {sp : List ByteArray} (hn : 10 ≤ n) (hh : 10 ≤ h) (hB : B.length = m) (h5 : hget H 5 = some (.one false (.obj (.map false false (m + 1) [.ints .i64 ds] [.svs (ptrL 7 m ++ [.ptr h 0 0 0])] (List.range (m + 1)) (m + 1))))) (h7 : hget H 7 = fmB false m (f7 8 9 np)) (h8 : hget H 8 = fmB false m (f8 np sp)) (h9 : hget H 9 = fmB false m (f9 B)) (k7 : hget H h = bkC false (h + 1) (h + 2) np) (k8 : hget H (h + 1) = cyP false np sp) (k9 : hget H (h + 2) = bkM false b) (hdist : gdDist (nwD n h np (B ++ [b]) sp) = true) :
    Relab H n (gdR n m (nwD n h np (B ++ [b]) sp)) (fun _ => 0) ((5, cyB false n (m + 1) ds) :: gdN n (m + 1) 0 (nwD n h np (B ++ [b]) sp)) [7, h, 8, h + 1, 9, h + 2] 3 := by
  have r0 : ∀ q, q < m → gdR n m (nwD n h np (B ++ [b]) sp) n q = some (7, q) := fun q hq => gdR_old (D := nwD n h np (B ++ [b]) sp) (i := 0) (d := ⟨7, h, f7 (n + 1) (n + 2) np⟩) rfl hq
  have r1 : ∀ q, q < m → gdR n m (nwD n h np (B ++ [b]) sp) (n + 1) q = some (8, q) := fun q hq => gdR_old (D := nwD n h np (B ++ [b]) sp) (i := 1) (d := ⟨8, h + 1, f8 np sp⟩) rfl hq
  have r2 : ∀ q, q < m → gdR n m (nwD n h np (B ++ [b]) sp) (n + 2) q = some (9, q) := fun q hq => gdR_old (D := nwD n h np (B ++ [b]) sp) (i := 2) (d := ⟨9, h + 2, f9 (B ++ [b])⟩) rfl hq
  have s0 : gdR n m (nwD n h np (B ++ [b]) sp) n m = some (h, 0) := gdR_new (D := nwD n h np (B ++ [b]) sp) (i := 0) (d := ⟨7, h, f7 (n + 1) (n + 2) np⟩) rfl
  have s1 : gdR n m (nwD n h np (B ++ [b]) sp) (n + 1) m = some (h + 1, 0) := gdR_new (D := nwD n h np (B ++ [b]) sp) (i := 1) (d := ⟨8, h + 1, f8 np sp⟩) rfl
  have s2 : gdR n m (nwD n h np (B ++ [b]) sp) (n + 2) m = some (h + 2, 0) := gdR_new (D := nwD n h np (B ++ [b]) sp) (i := 2) (d := ⟨9, h + 2, f9 (B ++ [b])⟩) rfl
  exact relab_fams (n := n) (th := 5) (nwD n h np (B ++ [b]) sp) (by omega) h5 (ble_map1 rfl (ptrs_put (by omega) r0 s0))
    ⟨⟨(show (7 : Nat) ≠ 5 by decide), (show h ≠ 5 by omega), ⟨_, _, h7, fun q hq => ⟨hq, ble_cells ⟨sle_sl (by omega) (r1 q hq), sle_map (by omega) (r2 q hq), trivial⟩⟩⟩, _, k7, ble_cells ⟨sle_sl (by omega) s1, sle_map (by omega) s2, trivial⟩⟩,
      ⟨(show (8 : Nat) ≠ 5 by decide), (show h + 1 ≠ 5 by omega), ⟨_, _, h8, fun q hq => ⟨hq, .inl rfl⟩⟩, _, k8, .inl rfl⟩,
      ⟨(show (9 : Nat) ≠ 5 by decide), (show h + 2 ≠ 5 by omega), ⟨_, _, h9, fun q hq => ⟨hq, .inl (f9_app_lt (by rw [hB]; exact hq) b)⟩⟩, _, k9, .inl (f9_app_at hB b)⟩, trivial⟩ hdist
set_option maxHeartbeats 1000000 in
theorem cy_Move {np m hn nc : Nat} {hs ds cd : List Int} {B : List Bk} {pr : List ByteArray} (hb : BksI ds B m np (sortS pr)) (hh : hs.length = hn) (hc : cd.length = nc) (hp : pr.length = np) (he : nwErr pr = 0) (cut t : Int) (f g c : ByteArray) (a : Int) : FC Try.prog 10 17 [.ptr 1 0 0 0, .int .i64 t, .str f, .str g, .agg [.int .i64 a, .str c]] (mvH np m hn nc cut hs ds cd B pr) (mvO np m hs ds cd B pr (mvD hs cd (ofI hs cut t)) f g c a) := by
  have c1 := cy_Of np hn cut hs hh t
  rw [ofV_eq] at c1
  have hX := ofI_le (hs := hs) (cut := cut) (t := t)
  have hg : ∀ d, (List.replicate nc true).getD (iidx cd d) false = decide (d ∈ cd) := tm_get hc
  generalize ofI hs cut t = X at *
  have hD : mvF hs cd 100001 X = mvD hs cd X := by unfold mvD; rfl
  generalize mvD hs cd X = D at *
  obtain ⟨K0, hK⟩ : ∃ K : Nat, K = 100001 := ⟨_, rfl⟩
  rw [← hK] at hD
  refine fc_of mixed T_ok Try.func17 rfl (by kernel_rfl) (by kernel_rfl) (by kernel_rfl) ?_
  repeat' ((conv => whnf); first | refine vcall_o (l := [0, 1, 2, 3, 4, 5, 6, 7, 8, 9]) (c1) ?_ | ((first | apply br_dec | apply br_ndec) <;> intro h <;> try (exfalso; (try dsimp only at h); omega)) | ((first | apply br_seq | apply br_nseq | apply br_not | apply br_intro) <;> intro h) | refine cond_a ?_)
  all_goals (conv => whnf)
  refine vloop_of (fun x : Nat × Int => ⟨[(0, .ptr 1 0 0 0), (2, .str f), (3, .str g), (9, .ptr 10 0 0 0), (12, .int .i64 (ofP x.2)), (13, .int .i64 (ofQ x.2))], (10, some (.one false (.cells [.int .i64 a, .str c]))) :: mvH np m hn nc cut hs ds cd B pr, 11⟩) (fun x => mvF hs cd x.1 x.2 = D ∧ x.2 ≤ 99999 ∧ (x.2 < 0 ∨ 100001 - x.2 ≤ (x.1 : Int))) (fun x => x.1) (K0, X) [0, 1, 2, 3, 4, 5, 6, 7, 8, 9, 10] [] ⟨rfl, ⟨rfl, rfl, rfl, rfl, rfl, rfl, trivial⟩, ⟨rfl, rfl, rfl, rfl, rfl, rfl, rfl, rfl, rfl, rfl, trivial⟩⟩ ⟨hD, hX, by dsimp only; omega⟩ ?_
  rintro ⟨k, x⟩ ⟨hF, hx, hk⟩
  dsimp only at hF hx hk
  clear hD hX hK c1
  by_cases h0 : x < 0
  · have e1 : ofP x = 0 := if_pos h0
    have e2 : ofQ x = 14 := if_pos h0
    dsimp only
    rw [e1, e2]
    rw [mvF_neg h0] at hF
    subst hF
    rw [mvO_none (by decide)]
    repeat' ((conv => whnf); first | ((first | apply br_dec | apply br_ndec) <;> intro h <;> try (exfalso; (try dsimp only at h); omega)) | ((first | apply br_seq | apply br_nseq | apply br_not | apply br_intro) <;> intro h) | refine cond_a ?_)
    all_goals (conv => whnf)
    all_goals first
      | exact ret_out (l := [0, 1, 2, 3, 4, 5, 6, 7, 8, 9]) rfl rfl ⟨rfl, rfl, rfl, rfl, trivial⟩ bks_rw
      | (exfalso; omega)
      | trace_state
  · have e1 : ofP x = x := if_neg h0
    have e2 : ofQ x = 0 := if_neg h0
    dsimp only
    rw [e1, e2]
    obtain ⟨k, rfl⟩ : ∃ j, k = j + 1 := ⟨k - 1, by omega⟩
    simp only [mvF] at hF
    rw [if_neg h0] at hF
    have hgx := hg x
    by_cases hxc : x ∈ cd
    · rw [if_pos hxc] at hF
      rw [decide_eq_true hxc] at hgx
      have c2 := cy_later np hn cut hs hh x (by omega) hx
      rw [ofV_eq] at c2
      have hN : nxI hs (x + 1) ≤ 99999 ∧ (nxI hs (x + 1) < 0 ∨ x + 1 ≤ nxI hs (x + 1)) := by
        by_cases q : nxI hs (x + 1) < 0
        · exact ⟨by omega, .inl q⟩
        · have := nxI_ok q
          exact ⟨this.2.1, .inr this.1⟩
      generalize nxI hs (x + 1) = y at *
      repeat' ((conv => whnf); first | refine vcall_o (l := [0, 1, 2, 3, 4, 5, 6, 7, 8, 9]) (c2) ?_ | ((first | apply br_dec | apply br_ndec) <;> intro h <;> try (exfalso; (try dsimp only at h); omega)) | ((first | apply br_seq | apply br_nseq | apply br_not | apply br_intro) <;> intro h) | refine cond_a ?_)
      all_goals (conv => whnf)
      all_goals first
        | exact ⟨(k, y), [0, 1, 2, 3, 4, 5, 6, 7, 8, 9, 10], [], ⟨hF, hN.1, by dsimp only; omega⟩, Nat.lt_succ_self k, ⟨rfl, ⟨rfl, rfl, rfl, rfl, rfl, rfl, trivial⟩, ⟨rfl, rfl, rfl, rfl, rfl, rfl, rfl, rfl, rfl, rfl, trivial⟩⟩⟩
        | (exfalso; rw [hgx] at h; cases h; done)
        | (exfalso; omega)
        | trace_state
    · rw [if_neg hxc] at hF
      rw [decide_eq_false hxc] at hgx
      subst hF
      by_cases hd : x ∈ ds
      · have hi : iidx ds x < m := by rw [← hb.dl]; exact iidx_lt.2 hd
        obtain ⟨b1, b2, b3, b4⟩ := hb.I _ hi
        have c3 := cy_book_old (np := np) hb.dl cut x hd
        have c4 := pos_MoveF hi hb.bl b1 b2 b3 f g c a
        have hat : bkAt ds B pr x = B.getD (iidx ds x) bk0 := if_pos hd
        have hput := bkPut_old hb.dl hd
        rw [← hat] at c4
        by_cases hz : mvE (bkAt ds B pr x) f g c a = 0
        · rw [mvO_old h0 hz hd hb.dl]
          rw [hz] at c4
          generalize (bkAt ds B pr x).mv f g c a = b' at *
          repeat' ((conv => whnf); first | refine vcall_o (l := [0, 1, 2, 3, 4, 5, 6, 7, 8, 9]) (c3) ?_ | refine vcall_o (l := [0, 7, 8, 9]) (c4) ?_ | ((first | apply br_dec | apply br_ndec) <;> intro h <;> try (exfalso; (try dsimp only at h); omega)) | ((first | apply br_seq | apply br_nseq | apply br_not | apply br_intro) <;> intro h) | refine cond_a ?_)
          all_goals (conv => whnf)
          all_goals first
            | exact ret_up (l := [0, 1, 2, 3, 4, 5, 6, 7, 8, 9, 11, 12, 13]) [.relab (rdR 11 m (odD 11 np (B.set (iidx ds x) b') (sortS pr))) (fun _ => 0) ((5, cyB false 11 m ds) :: rdN 11 m 0 (odD 11 np (B.set (iidx ds x) b') (sortS pr))) [7, 8, 9] 3] ⟨bks_old (n := 11) (by decide) hput rfl rfl rfl, rfl, rfl, ⟨rfl, rfl, rfl, rfl, trivial⟩⟩ bks_rw
            | (exfalso; rw [hgx] at h; cases h; done)
            | (exfalso; omega)
            | trace_state
        · rw [mvO_err h0 hz]
          have hbs : mvE (bkAt ds B pr x) f g c a ≠ 0 := hz
          have hmv : (bkAt ds B pr x).mv f g c a = bkAt ds B pr x := if_neg hz
          have hset : B.set (iidx ds x) (bkAt ds B pr x) = B := by
            rw [hat]
            refine List.ext_getElem? fun j => ?_
            rw [List.getElem?_set]
            split
            · rename_i e
              subst e
              rw [if_pos (by rw [hb.bl]; exact hi), List.getD, List.getElem?_eq_getElem (by rw [hb.bl]; exact hi)]; rfl
            · rfl
          rw [hmv, hset] at c4
          generalize mvE (bkAt ds B pr x) f g c a = e at *
          repeat' ((conv => whnf); first | refine vcall_o (l := [0, 1, 2, 3, 4, 5, 6, 7, 8, 9]) (c3) ?_ | refine vcall_o (l := [0, 7, 8, 9]) (c4) ?_ | ((first | apply br_dec | apply br_ndec) <;> intro h <;> try (exfalso; (try dsimp only at h); omega)) | ((first | apply br_seq | apply br_nseq | apply br_not | apply br_intro) <;> intro h) | refine cond_a ?_)
          all_goals (conv => whnf)
          all_goals first
            | exact ret_out (l := [0, 1, 2, 3, 4, 5, 6, 7, 8, 9]) rfl rfl ⟨rfl, rfl, rfl, rfl, trivial⟩ bks_rw
            | (exfalso; rw [hgx] at h; cases h; done)
            | (exfalso; omega)
            | trace_state
      · have c3 := cy_book_new hb.dl hp he cut x hd
        have hat : bkAt ds B pr x = nwB pr := if_neg hd
        have c4 := pos_MoveX ((nwB_I he).up (B' := 4503599627370496) (by decide)) hp rfl f g c a
        have hput := bkPut_new (h := 11) hb.dl hd
        rw [← hat] at c4
        by_cases hz : mvE (bkAt ds B pr x) f g c a = 0
        · rw [mvO_new h0 hz hd hb.dl]
          rw [hz] at c4
          rw [hat] at c4
          rw [hat]
          have hsp : (nwB pr).ps = sortS pr := rfl
          generalize hbb : (nwB pr).mv f g c a = b' at *
          repeat' ((conv => whnf); first | refine vcall_o (l := [0, 1, 2, 3, 4, 5, 6, 7, 8, 9]) (c3) ?_ | refine vcall_o (l := [0, 11, 12, 13]) (c4) ?_ | ((first | apply br_dec | apply br_ndec) <;> intro h <;> try (exfalso; (try dsimp only at h); omega)) | ((first | apply br_seq | apply br_nseq | apply br_not | apply br_intro) <;> intro h) | refine cond_a ?_)
          all_goals (conv => whnf)
          all_goals first
            | exact ret_up (l := [0, 1, 2, 3, 4, 5, 6, 7, 8, 9, 14, 15, 16]) [.relab (gdR 14 m (nwD 14 11 np (B ++ [b']) (sortS pr))) (fun _ => 0) ((5, cyB false 14 (m + 1) (ds ++ [x])) :: gdN 14 (m + 1) 0 (nwD 14 11 np (B ++ [b']) (sortS pr))) [7, 11, 8, 12, 9, 13] 3] ⟨bks_new (n := 14) (h := 11) (by decide) (by decide) hb.bl hput rfl rfl rfl rfl rfl rfl rfl, rfl, rfl, ⟨rfl, rfl, rfl, rfl, trivial⟩⟩ bks_rw
            | (exfalso; rw [hgx] at h; cases h; done)
            | (exfalso; omega)
            | trace_state
        · rw [mvO_err h0 hz]
          rw [hat] at c4 hz ⊢
          generalize mvE (nwB pr) f g c a = e at *
          repeat' ((conv => whnf); first | refine vcall_o (l := [0, 1, 2, 3, 4, 5, 6, 7, 8, 9]) (c3) ?_ | refine vcall_o (l := [0, 11, 12, 13]) (c4) ?_ | ((first | apply br_dec | apply br_ndec) <;> intro h <;> try (exfalso; (try dsimp only at h); omega)) | ((first | apply br_seq | apply br_nseq | apply br_not | apply br_intro) <;> intro h) | refine cond_a ?_)
          all_goals (conv => whnf)
          all_goals first
            | exact ret_out (l := [0, 1, 2, 3, 4, 5, 6, 7, 8, 9]) rfl rfl ⟨rfl, rfl, rfl, rfl, trivial⟩ bks_rw
            | (exfalso; rw [hgx] at h; cases h; done)
            | (exfalso; omega)
            | trace_state
end Go.Proofs.Ytkdjnmcaifejjaa

/- Contracts of the law's helpers: new cycles of three parties, the example of the chapter. -/
namespace Go.Proofs.Ytkdjnmcaifejjaa
open Go.RowKit Go.Sy
attribute [local irreducible] vcall vloop vcallD retP sortI
set_option maxRecDepth 100000
set_option linter.unusedVariables false
set_option linter.unusedSimpArgs false

theorem cal_NewN : FC Try.prog 1 6 [.nsl] [] (holO [] 0) :=
  fc_argnil (n := 1) (args := [.nsl]) (args1 := [.sl 1 0 0 0]) (cs := [.sc (.ints .i64 [])]) rfl (by exact ⟨.inr ⟨rfl, rfl⟩, trivial⟩) (cal_New [] 0 rfl)
theorem cy_NewN (cut : Int) : FC Try.prog 2 8 [.ptr 1 0 0 0, .int .i64 cut, .nsl] [] (cnO cut [] 0) :=
  fc_argnil (n := 2) (args := [.ptr 1 0 0 0, .int .i64 cut, .nsl]) (args1 := [.ptr 1 0 0 0, .int .i64 cut, .sl 2 0 0 0]) (cs := [.sc (.strs [])]) rfl (by exact ⟨.inl rfl, .inl rfl, .inr ⟨rfl, rfl⟩, trivial⟩) (cy_New cut [] 0 rfl)
theorem p3_err : nwErr p3 = 0 := by kernel_rfl
theorem p3_bk : nwB p3 = k0 := by unfold nwB; rw [p3_sort]; rfl
/-- Cycles, as the laws hold them. -/
abbrev cyH (np m hn nc : Nat) (cut : Int) (hs ds cd : List Int) (B : List Bk) (pr sp : List ByteArray) : Heap := (1, cyC false 2 4 5 6 np cut) :: (2, calC false 3) :: (3, tmM false hn hs) :: (4, cyP false np pr) :: (6, tmM false nc cd) :: bksH 5 7 8 9 np m ds B sp
def maO (cut : Int) : SV → Heap → Nat → Prop := if cut < 0 ∨ 86400 < cut then isOut (.tup [.nptr, .int .i64 4]) [] 1 else isOut (.tup [.ptr 1 0 0 0, .int .i64 0]) (cyH 3 0 0 0 cut [] [] [] [] p3 p3) 10
theorem law_made (cut : Int) : FC Try.prog 1 12 [.int .i64 cut] [] (maO cut) := by
  have c1 := cal_NewN
  unfold holO at c1
  rw [if_pos (by rfl)] at c1
  have c2 := cy_New cut p3 3 rfl
  unfold cnO cnE at c2
  rw [p3_err, p3_sort] at c2
  unfold maO
  by_cases h : cut < 0 ∨ 86400 < cut
  · rw [if_pos h, if_neg (by decide)] at c2
    rw [if_pos h]
    refine fc_of mixed T_ok Try.func12 rfl (by kernel_rfl) (by kernel_rfl) (by kernel_rfl) ?_
    repeat' ((conv => whnf); first | refine vcall_o (l := [0]) (c1) ?_ | refine vcall_o (l := [0, 2, 4]) (c2) ?_ | ((first | apply br_dec | apply br_ndec) <;> intro h <;> try (exfalso; (try dsimp only at h); omega)) | ((first | apply br_seq | apply br_nseq | apply br_not | apply br_intro) <;> intro h) | refine cond_a ?_)
    all_goals (conv => whnf)
    all_goals first
      | exact ret_out (l := [0]) rfl rfl trivial allRw_nil
      | (exfalso; omega)
      | trace_state
  · rw [if_neg h, if_pos rfl] at c2
    rw [if_neg h]
    refine fc_of mixed T_ok Try.func12 rfl (by kernel_rfl) (by kernel_rfl) (by kernel_rfl) ?_
    repeat' ((conv => whnf); first | refine vcall_o (l := [0]) (c1) ?_ | refine vcall_o (l := [0, 2, 4]) (c2) ?_ | ((first | apply br_dec | apply br_ndec) <;> intro h <;> try (exfalso; (try dsimp only at h); omega)) | ((first | apply br_seq | apply br_nseq | apply br_not | apply br_intro) <;> intro h) | refine cond_a ?_)
    all_goals (conv => whnf)
    all_goals first
      | (exfalso; omega)
      | exact ret_out (l := [0, 5, 2, 3, 6, 7, 8, 9, 10, 11]) rfl rfl ⟨rfl, rfl, rfl, rfl, rfl, rfl, rfl, rfl, rfl, trivial⟩ (allRw_cons (allRw_cons (allRw_cons (allRw_cons (allRw_cons bks_rw)))))
      | trace_state
/-- The example: a movement goes behind a closed cycle. -/
def k5 : Bk := ⟨3, p3, 1, [sUsd], [[-5, 5, 0, 0, 0, 0, 0, 0, 0, 0, 0, 0, 0, 0, 0, 0]], [0], 1⟩
def l5 : List Px := [⟨⟨#[97]⟩, -5, sUsd⟩, ⟨⟨#[98]⟩, 5, sUsd⟩]
theorem k0_mvE : mvE k0 ⟨#[97]⟩ ⟨#[98]⟩ sUsd 5 = 0 := by kernel_rfl
theorem k0_mv : k0.mv ⟨#[97]⟩ ⟨#[98]⟩ sUsd 5 = k5 := by kernel_rfl
theorem k0_I : BkI k0 4503599627370496 := by
  have h := (nwB_I p3_err).up (B' := 4503599627370496) (by decide)
  rwa [p3_bk] at h
theorem k5_I : BkI k5 4503599627370496 := by rw [← k0_mv]; exact mv_I k0_I _ _ _ _
theorem k5_list : k5.list = l5 := by
  unfold Bk.list
  rw [show sortS k5.cs = [sUsd] from one_sort sUsd]
  kernel_rfl
theorem nx_two : nxI [] 2 = 4 := by
  rw [nxI_no (by decide) (by decide), show (2 : Int) + 1 = 3 from rfl, nxI_no (by decide) (by decide), show (3 : Int) + 1 = 4 from rfl, nxI_yes (by decide) (by decide)]
theorem nx_one : nxI [] 1 = 1 := nxI_yes (by decide) (by decide)
theorem mvD_one : mvD [] [1] 1 = 4 := by
  have e : ∀ k, mvF [] [1] (k + 1 + 1) 1 = 4 := by
    intro k
    simp only [mvF]
    rw [if_neg (by decide), if_pos (by decide), show (1 : Int) + 1 = 2 from rfl, nx_two, if_neg (by decide), if_neg (by decide)]
  unfold mvD
  exact e 99999
theorem law_awake : Pure Try.prog 5 [] (.bool true) := by
  have c1 := law_made 3600
  unfold maO at c1
  rw [if_neg (by decide)] at c1
  have c2 := cy_Of 3 0 3600 [] rfl 3599
  rw [show ofV (ofI [] 3600 3599) = .tup [.int .i64 0, .int .i64 0] from by rfl] at c2
  have c3 := cy_Of 3 0 3600 [] rfl 3600
  have e3 : ofI [] 3600 3600 = 1 := by
    unfold ofI
    rw [if_neg (by decide), if_neg (by decide), show dayI 3600 + 1 = 1 from rfl, nx_one]
  rw [e3, show ofV 1 = .tup [.int .i64 1, .int .i64 0] from by rfl] at c3
  have hb0 : BksI [] [] 0 3 p3 := ⟨rfl, rfl, List.nodup_nil, fun i h => by omega⟩
  have c4 := cy_Close (hs := []) (cd := []) hb0 rfl rfl (by decide) 3600 1
  have e4 : clE [] [] [] 1 = 0 := by
    unfold clE
    rw [if_neg (by decide), if_neg (by simp), if_neg (by simp [openS, sortI])]
  unfold clO at c4
  rw [e4, if_pos rfl, show posL [] [] 1 = [] from rfl] at c4
  have c5 := cy_Move (np := 3) (hs := []) (cd := [1]) (pr := p3) (by rw [p3_sort]; exact hb0) rfl rfl rfl p3_err 3600 3600 ⟨#[97]⟩ ⟨#[98]⟩ sUsd 5
  have hO : mvO 3 0 [] [] [1] [] p3 4 ⟨#[97]⟩ ⟨#[98]⟩ sUsd 5 = isOut (.tup [.int .i64 4, .int .i64 0]) (bksH 5 10 11 12 3 1 [4] [k5] p3) 13 := by
    have hat : bkAt [] [] p3 4 = k0 := p3_bk
    rw [mvO_new (m := 0) (by decide) (by rw [hat]; exact k0_mvE) (by simp) rfl, hat, k0_mv, p3_sort]; rfl
  rw [e3, mvD_one, hO] at c5
  have hb5 : BksI [4] [k5] 1 3 p3 := ⟨rfl, rfl, by simp, fun i h => by
    obtain rfl : i = 0 := by omega
    exact ⟨k5_I, rfl, rfl, by decide⟩⟩
  have c6 := cy_Positions hb5 3600 4
  rw [show posL [4] [k5] 4 = l5 from by unfold posL; rw [if_pos (by simp)]; exact k5_list] at c6
  unfold mvH at c5
  rw [p3_sort] at c5
  refine fc_of mixed T_ok Try.func5 rfl (by kernel_rfl) (by kernel_rfl) (by kernel_rfl) ?_
  repeat' ((conv => whnf); first | refine vcall_o (l := [0]) (c1) ?_ | refine vcall_o (l := [0, 1, 2, 3, 4, 5, 6, 7, 8, 9]) (c2) ?_ | refine vcall_o (l := [0, 1, 2, 3, 4, 5, 6, 7, 8, 9]) (c3) ?_ | refine vcall_o (l := [0, 1, 2, 3, 4, 5, 6, 7, 8, 9]) (c4) ?_ | refine vcall_o (l := [0, 1, 2, 3, 4, 5, 6, 7, 8, 9]) (c5) ?_ | refine vcall_o (l := [0, 1, 2, 3, 4, 5, 6, 11, 12, 13]) (c6) ?_ | ((first | apply br_dec | apply br_ndec) <;> intro h <;> try (exfalso; (try dsimp only at h); omega)) | ((first | apply br_seq | apply br_nseq | apply br_not | apply br_intro) <;> intro h) | refine cond_a ?_)
  all_goals (conv => whnf)
  all_goals first
    | exact ret_pure rfl
    | trace_state
end Go.Proofs.Ytkdjnmcaifejjaa

/- The cycle of a time: the reference's calendar, and the law. -/
namespace Go.Proofs.Ytkdjnmcaifejjaa
open Go.RowKit Go.Sy
attribute [local irreducible] vcall vloop vcallD retP sortI
set_option maxRecDepth 100000
set_option linter.unusedVariables false
set_option linter.unusedSimpArgs false

theorem r03_IsDate (d : Int) : Pure Try.prog 19 [.int .i64 d] (.bool (isD d)) := by
  unfold isD
  by_cases h1 : 0 ≤ d <;> by_cases h2 : d ≤ 99999
  all_goals simp only [h1, h2, decide_true, decide_false, Bool.and_true, Bool.and_false, Bool.true_and, Bool.false_and]
  all_goals refine fc_of mixed T_ok Try.func19 rfl (by kernel_rfl) (by kernel_rfl) (by kernel_rfl) ?_
  all_goals repeat' ((conv => whnf); first | ((first | apply br_dec | apply br_ndec) <;> intro h <;> try (exfalso; (try dsimp only at h); omega)) | ((first | apply br_seq | apply br_nseq | apply br_not | apply br_intro) <;> intro h) | refine cond_a ?_)
  all_goals (conv => whnf)
  all_goals first
    | exact ret_pure rfl
    | exact ret_pure (congrArg SV.bool (by simp; omega))
    | (exfalso; omega)
    | trace_state
theorem r03_Weekday (d : Int) : Pure Try.prog 25 [.int .i64 d] (.int .i64 (wkI d)) := by
  have c := r03_IsDate d
  unfold wkI
  cases h : isD d with
  | true =>
    have hd := isD_yes.1 h
    rw [h] at c
    rw [if_pos rfl]
    refine fc_of mixed T_ok Try.func25 rfl (by kernel_rfl) (by kernel_rfl) (by kernel_rfl) ?_
    repeat' ((conv => whnf); first | (refine vcall_pure (c) rfl rfl rfl ?_) | (refine vcallD_pure (c) rfl rfl rfl ?_) | ((first | apply br_dec | apply br_ndec) <;> intro h <;> try (exfalso; (try dsimp only at h); omega)) | ((first | apply br_seq | apply br_nseq | apply br_not | apply br_intro) <;> intro h) | refine cond_a ?_)
    all_goals (conv => whnf)
    all_goals first
      | exact ret_pure (congrArg (SV.int .i64) (by rw [w64_in (n := d + 3) (by omega) (by omega), tmod_pos (by omega)]))
      | (exfalso; omega)
      | trace_state
  | false =>
    rw [h] at c
    rw [if_neg (by simp)]
    refine fc_of mixed T_ok Try.func25 rfl (by kernel_rfl) (by kernel_rfl) (by kernel_rfl) ?_
    repeat' ((conv => whnf); first | (refine vcall_pure (c) rfl rfl rfl ?_) | (refine vcallD_pure (c) rfl rfl rfl ?_) | ((first | apply br_dec | apply br_ndec) <;> intro h <;> try (exfalso; (try dsimp only at h); omega)) | ((first | apply br_seq | apply br_nseq | apply br_not | apply br_intro) <;> intro h) | refine cond_a ?_)
    all_goals (conv => whnf)
    all_goals first
      | exact ret_pure rfl
      | (exfalso; omega)
      | trace_state
theorem r03_Day (t : Int) : Pure Try.prog 10 [.int .i64 t] (.tup [.int .i64 (dayI t), .int .i64 (secI t)]) := by
  have c := r03_IsDate (t / 86400)
  unfold dayI secI
  by_cases h1 : 0 ≤ t
  · by_cases h2 : t ≤ 1099511627776
    · have e1 : IntKind.i64.wrap (t.tdiv 86400) = t / 86400 := by rw [tdiv_pos h1, w64_in (by omega) (by omega)]
      have e2 : t.tmod 86400 = t % 86400 := tmod_pos h1
      cases h3 : isD (t / 86400) with
      | true =>
        have hk : okT t = true := okT_yes.2 ⟨h1, h2, h3⟩
        rw [h3] at c
        rw [if_pos hk, if_pos hk]
        refine fc_of mixed T_ok Try.func10 rfl (by kernel_rfl) (by kernel_rfl) (by kernel_rfl) ?_
        repeat' ((conv => whnf); first | (simp only [e1]) | (refine vcall_pure (c) rfl rfl rfl ?_) | (refine vcallD_pure (c) rfl rfl rfl ?_) | ((first | apply br_dec | apply br_ndec) <;> intro h <;> try (exfalso; (try dsimp only at h); omega)) | ((first | apply br_seq | apply br_nseq | apply br_not | apply br_intro) <;> intro h) | refine cond_a ?_)
        all_goals (conv => whnf)
        all_goals (try simp only [e2])
        all_goals first
          | exact ret_pure rfl
          | (exfalso; omega)
          | trace_state
      | false =>
        have hk : ¬ okT t = true := fun q => by have := (okT_yes.1 q).2.2; rw [h3] at this; cases this
        rw [h3] at c
        rw [if_neg hk, if_neg hk]
        refine fc_of mixed T_ok Try.func10 rfl (by kernel_rfl) (by kernel_rfl) (by kernel_rfl) ?_
        repeat' ((conv => whnf); first | (simp only [e1]) | (refine vcall_pure (c) rfl rfl rfl ?_) | (refine vcallD_pure (c) rfl rfl rfl ?_) | ((first | apply br_dec | apply br_ndec) <;> intro h <;> try (exfalso; (try dsimp only at h); omega)) | ((first | apply br_seq | apply br_nseq | apply br_not | apply br_intro) <;> intro h) | refine cond_a ?_)
        all_goals (conv => whnf)
        all_goals first
          | exact ret_pure rfl
          | (exfalso; omega)
          | trace_state
    · have hk : ¬ okT t = true := fun q => h2 (okT_yes.1 q).2.1
      rw [if_neg hk, if_neg hk]
      refine fc_of mixed T_ok Try.func10 rfl (by kernel_rfl) (by kernel_rfl) (by kernel_rfl) ?_
      repeat' ((conv => whnf); first | ((first | apply br_dec | apply br_ndec) <;> intro h <;> try (exfalso; (try dsimp only at h); omega)) | ((first | apply br_seq | apply br_nseq | apply br_not | apply br_intro) <;> intro h) | refine cond_a ?_)
      all_goals (conv => whnf)
      all_goals first
        | exact ret_pure rfl
        | (exfalso; omega)
        | trace_state
  · have hk : ¬ okT t = true := fun q => h1 (okT_yes.1 q).1
    rw [if_neg hk, if_neg hk]
    refine fc_of mixed T_ok Try.func10 rfl (by kernel_rfl) (by kernel_rfl) (by kernel_rfl) ?_
    repeat' ((conv => whnf); first | ((first | apply br_dec | apply br_ndec) <;> intro h <;> try (exfalso; (try dsimp only at h); omega)) | ((first | apply br_seq | apply br_nseq | apply br_not | apply br_intro) <;> intro h) | refine cond_a ?_)
    all_goals (conv => whnf)
    all_goals first
      | exact ret_pure rfl
      | (exfalso; omega)
      | trace_state
abbrev rcC (ro : Bool) (h n : Nat) : Option HB := some (.one ro (.cells [.sl h 0 0 n]))
abbrev inB (n : Nat) (l : List Int) : Option HB := some (.one true (.cols n [.sc (.ints .i64 l)]))
def r3O (l : List Int) (n : Nat) : SV → Heap → Nat → Prop := if holE l n = 0 then isOut (.tup [.ptr 2 0 0 0, .int .i64 0]) [(2, rcC false 1 n)] 3 else isOut (.tup [.nptr, .int .i64 (holE l n)]) [] 2
theorem r03_New (l : List Int) (n : Nat) (hn : n ≤ maxLen) : FC Try.prog 2 7 [.sl 1 0 0 n] [(1, inB n l)] (r3O l n) := by
  have eM : maxLen = 9223372036854775807 := rfl
  unfold r3O holE
  by_cases h4 : 400 < n
  · rw [if_pos h4, if_neg (by decide)]
    refine fc_of mixed T_ok Try.func7 rfl (by kernel_rfl) (by kernel_rfl) (by kernel_rfl) ?_
    repeat' ((conv => whnf); first | ((first | apply br_dec | apply br_ndec) <;> intro h <;> try (exfalso; (try dsimp only at h); omega)) | ((first | apply br_seq | apply br_nseq | apply br_not | apply br_intro) <;> intro h) | refine cond_a ?_)
    all_goals (conv => whnf)
    all_goals first
      | exact ret_out (l := [0, 1]) rfl rfl trivial allRw_nil
      | (exfalso; omega)
      | trace_state
  rw [if_neg h4]
  refine fc_of mixed T_ok Try.func7 rfl (by kernel_rfl) (by kernel_rfl) (by kernel_rfl) ?_
  repeat' ((conv => whnf); first | ((first | apply br_dec | apply br_ndec) <;> intro h <;> try (exfalso; (try dsimp only at h); omega)) | ((first | apply br_seq | apply br_nseq | apply br_not | apply br_intro) <;> intro h) | refine cond_a ?_)
  all_goals (conv => whnf)
  all_goals first
    | (exfalso; omega)
    | skip
  refine vloop_lp (fun k : Nat => ⟨[(0, .sl 1 0 0 n), (4, .int .i64 k)], [(1, inB n l)], 2⟩) (fun k => k ≤ n ∧ holK l k = true) (fun k => n - k) 0 [0, 1] [] ⟨rfl, ⟨rfl, rfl, trivial⟩, ⟨rfl, trivial⟩⟩ ⟨Nat.zero_le _, rfl⟩ ?_
  rintro k ⟨hk, hh⟩
  by_cases hk2 : k < n
  · have c := r03_IsDate (l.getD k 0)
    cases hb : isD (l.getD k 0) with
    | false =>
      rw [hb] at c
      rw [if_neg (by rw [if_neg (by rw [holK_stop hb n hk2]; simp)]; decide), if_neg (by rw [holK_stop hb n hk2]; simp)]
      repeat' ((conv => whnf); first | (refine vcall_pure (c) rfl rfl rfl ?_) | (refine vcallD_pure (c) rfl rfl rfl ?_) | ((first | apply br_dec | apply br_ndec) <;> intro h <;> try (exfalso; (try dsimp only at h); omega)) | ((first | apply br_seq | apply br_nseq | apply br_not | apply br_intro) <;> intro h) | refine cond_a ?_)
      all_goals (conv => whnf)
      all_goals first
        | exact ret_out (l := [0, 1]) rfl rfl trivial allRw_nil
        | (exfalso; omega)
        | trace_state
    | true =>
      rw [hb] at c
      have hh2 : holK l (k + 1) = true := by simp only [holK, hh, hb, Bool.and_true]
      repeat' ((conv => whnf); first | (refine vcall_pure (c) rfl rfl rfl ?_) | (refine vcallD_pure (c) rfl rfl rfl ?_) | ((first | apply br_dec | apply br_ndec) <;> intro h <;> try (exfalso; (try dsimp only at h); omega)) | ((first | apply br_seq | apply br_nseq | apply br_not | apply br_intro) <;> intro h) | refine cond_a ?_)
      all_goals (conv => whnf)
      all_goals first
        | exact ⟨k + 1, [0, 1], [], ⟨hk2, hh2⟩, (show n - (k + 1) < n - k by omega), ⟨rfl, ⟨rfl, congrArg (fun z => some (SV.int .i64 z)) (i64_succ (by omega)), trivial⟩, ⟨rfl, trivial⟩⟩⟩
        | (exfalso; omega)
        | trace_state
  · have e : k = n := by omega
    subst e
    rw [if_pos (by rw [if_pos hh])]
    repeat' ((conv => whnf); first | ((first | apply br_dec | apply br_ndec) <;> intro h <;> try (exfalso; (try dsimp only at h); omega)) | ((first | apply br_seq | apply br_nseq | apply br_not | apply br_intro) <;> intro h) | refine cond_a ?_)
    all_goals (conv => whnf)
    all_goals first
      | exact ret_out (l := [0, 1, 2]) rfl rfl ⟨rfl, trivial⟩ (allRw_cons allRw_nil)
      | (exfalso; omega)
      | trace_state
theorem take_mem {l : List Int} {x : Int} : ∀ {k : Nat}, k ≤ l.length → (¬ ∃ i, i < k ∧ l.getD i 0 = x) → ¬ x ∈ l.take k
  | k, hk, h, hx => by
    obtain ⟨i, hi, e⟩ := List.getElem_of_mem hx
    rw [List.length_take] at hi
    rw [List.getElem_take] at e
    exact h ⟨i, by omega, by rw [List.getD, List.getElem?_eq_getElem (by omega)]; exact e⟩
theorem r03_Business (l : List Int) (n : Nat) (hl : l.length = n) (hn : n ≤ 100000) (d : Int) : FC Try.prog 3 11 [.ptr 1 0 0 0, .int .i64 d] [(1, rcC true 2 n), (2, inB n l)] (isOut (.bool (busB l d)) [] 3) := by
  have c1 := r03_IsDate d
  have c2 := r03_Weekday d
  unfold busB
  cases h : isD d with
  | false =>
    rw [h] at c1
    rw [Bool.false_and]
    refine fc_of mixed T_ok Try.func11 rfl (by kernel_rfl) (by kernel_rfl) (by kernel_rfl) ?_
    repeat' ((conv => whnf); first | (refine vcall_pure (c1) rfl rfl rfl ?_) | (refine vcallD_pure (c1) rfl rfl rfl ?_) | (refine vcall_pure (c2) rfl rfl rfl ?_) | (refine vcallD_pure (c2) rfl rfl rfl ?_) | ((first | apply br_dec | apply br_ndec) <;> intro h <;> try (exfalso; (try dsimp only at h); omega)) | ((first | apply br_seq | apply br_nseq | apply br_not | apply br_intro) <;> intro h) | refine cond_a ?_)
    all_goals (conv => whnf)
    all_goals first
      | exact ret_out (l := [0, 1, 2]) rfl rfl trivial allRw_nil
      | (exfalso; omega)
      | trace_state
  | true =>
    have hd := isD_yes.1 h
    unfold wkI at c2
    rw [if_pos h] at c2
    rw [h] at c1
    rw [Bool.true_and]
    by_cases q : (d + 3) % 7 < 5
    · rw [decide_eq_true q, Bool.true_and]
      refine fc_of mixed T_ok Try.func11 rfl (by kernel_rfl) (by kernel_rfl) (by kernel_rfl) ?_
      repeat' ((conv => whnf); first | (refine vcall_pure (c1) rfl rfl rfl ?_) | (refine vcallD_pure (c1) rfl rfl rfl ?_) | (refine vcall_pure (c2) rfl rfl rfl ?_) | (refine vcallD_pure (c2) rfl rfl rfl ?_) | ((first | apply br_dec | apply br_ndec) <;> intro h <;> try (exfalso; (try dsimp only at h); omega)) | ((first | apply br_seq | apply br_nseq | apply br_not | apply br_intro) <;> intro h) | refine cond_a ?_)
      all_goals (conv => whnf)
      all_goals first
        | (exfalso; omega)
        | skip
      refine vloop_lp (fun k : Nat => ⟨[(0, .ptr 1 0 0 0), (1, .int .i64 d), (5, .int .i64 k)], [(1, rcC true 2 n), (2, inB n l)], 3⟩) (fun k => k ≤ n ∧ ∀ i, i < k → l.getD i 0 ≠ d) (fun k => n - k) 0 [0, 1, 2] [] ⟨rfl, ⟨rfl, rfl, rfl, trivial⟩, ⟨rfl, rfl, trivial⟩⟩ ⟨Nat.zero_le _, fun i hi => by omega⟩ ?_
      rintro k ⟨hk, hi⟩
      by_cases hk2 : k < n
      · by_cases e : l.getD k 0 = d
        · have hm : d ∈ l := by
            rw [← e, List.getD, List.getElem?_eq_getElem (by omega)]; exact List.getElem_mem _
          rw [decide_eq_true hm]
          repeat' ((conv => whnf); first | ((first | apply br_dec | apply br_ndec) <;> intro h <;> try (exfalso; (try dsimp only at h); omega)) | ((first | apply br_seq | apply br_nseq | apply br_not | apply br_intro) <;> intro h) | refine cond_a ?_)
          all_goals (conv => whnf)
          all_goals first
            | exact ret_out (l := [0, 1, 2]) rfl rfl trivial allRw_nil
            | (exfalso; first | omega | contradiction)
            | trace_state
        · have hi2 : ∀ i, i < k + 1 → l.getD i 0 ≠ d := fun i hx => by
            by_cases w : i = k
            · rw [w]; exact e
            · exact hi i (by omega)
          repeat' ((conv => whnf); first | ((first | apply br_dec | apply br_ndec) <;> intro h <;> try (exfalso; (try dsimp only at h); omega)) | ((first | apply br_seq | apply br_nseq | apply br_not | apply br_intro) <;> intro h) | refine cond_a ?_)
          all_goals (conv => whnf)
          all_goals first
            | exact ⟨k + 1, [0, 1, 2], [], ⟨hk2, hi2⟩, (show n - (k + 1) < n - k by omega), ⟨rfl, ⟨rfl, rfl, congrArg (fun z => some (SV.int .i64 z)) (i64_succ (by omega)), trivial⟩, ⟨rfl, rfl, trivial⟩⟩⟩
            | (exfalso; first | omega | contradiction)
            | trace_state
      · have hm : ¬ d ∈ l := by
          have := take_mem (l := l) (x := d) (k := k) (by omega) (fun ⟨i, h1, h2⟩ => hi i h1 h2)
          rwa [List.take_of_length_le (by omega)] at this
        rw [decide_eq_false hm]
        repeat' ((conv => whnf); first | ((first | apply br_dec | apply br_ndec) <;> intro h <;> try (exfalso; (try dsimp only at h); omega)) | ((first | apply br_seq | apply br_nseq | apply br_not | apply br_intro) <;> intro h) | refine cond_a ?_)
        all_goals (conv => whnf)
        all_goals first
          | exact ret_out (l := [0, 1, 2]) rfl rfl trivial allRw_nil
          | (exfalso; omega)
          | trace_state
    · rw [decide_eq_false q, Bool.false_and]
      refine fc_of mixed T_ok Try.func11 rfl (by kernel_rfl) (by kernel_rfl) (by kernel_rfl) ?_
      repeat' ((conv => whnf); first | (refine vcall_pure (c1) rfl rfl rfl ?_) | (refine vcallD_pure (c1) rfl rfl rfl ?_) | (refine vcall_pure (c2) rfl rfl rfl ?_) | (refine vcallD_pure (c2) rfl rfl rfl ?_) | ((first | apply br_dec | apply br_ndec) <;> intro h <;> try (exfalso; (try dsimp only at h); omega)) | ((first | apply br_seq | apply br_nseq | apply br_not | apply br_intro) <;> intro h) | refine cond_a ?_)
      all_goals (conv => whnf)
      all_goals first
        | exact ret_out (l := [0, 1, 2]) rfl rfl trivial allRw_nil
        | (exfalso; omega)
        | trace_state
/-- Not all Mondays and Tuesdays of a year are holidays. -/
theorem len_sub : ∀ (L l : List Int), L.Nodup → (∀ x ∈ L, x ∈ l) → L.length ≤ l.length
  | [], l, _, _ => Nat.zero_le _
  | x :: L, l, hd, h => by
    obtain ⟨h1, h2⟩ := List.nodup_cons.1 hd
    have hx := h x (List.mem_cons_self)
    have := len_sub L (l.erase x) h2 (fun y hy => (List.mem_erase_of_ne (fun e : y = x => h1 (e ▸ hy))).2 (h y (List.mem_cons_of_mem _ hy)))
    rw [List.length_erase_of_mem hx] at this
    have := List.length_pos_of_mem hx
    simp only [List.length_cons]
    omega
theorem nx_found {l : List Int} (hl : l.length ≤ 100) {s : Int} (hs : 0 ≤ s) (hs2 : s ≤ 99590) : ¬ nxI l s < 0 := by
  intro hx
  have hgap : ∀ i, s ≤ i → busB l i = false := fun i hi => nxI_gap hs hi (.inl hx)
  obtain ⟨a, ha1, ha2, ha3⟩ : ∃ a : Int, s ≤ a ∧ a ≤ s + 6 ∧ (a + 3) % 7 = 0 := ⟨s + (-(s + 3)) % 7, by omega, by omega, by omega⟩
  have hin : ∀ k : Nat, k < 101 → a + 7 * ((k / 2 : Nat) : Int) + ((k % 2 : Nat) : Int) ∈ l := by
    intro k hk
    have h1 := hgap (a + 7 * ((k / 2 : Nat) : Int) + ((k % 2 : Nat) : Int)) (by omega)
    unfold busB at h1
    rw [isD_yes.2 (by omega), Bool.true_and, decide_eq_true (by omega), Bool.true_and] at h1
    simpa using h1
  have := len_sub ((List.range 101).map (fun k : Nat => a + 7 * ((k / 2 : Nat) : Int) + ((k % 2 : Nat) : Int))) l (by
    rw [List.Nodup, List.pairwise_map]
    refine List.Pairwise.imp ?_ (List.pairwise_lt_range)
    intro i j hij e
    omega) (fun x hx => by
    obtain ⟨k, hk, rfl⟩ := List.mem_map.1 hx
    exact hin k (List.mem_range.1 hk))
  rw [List.length_map, List.length_range] at this
  omega
theorem ofI_dd (l : List Int) (cut t : Int) : ofI (ddS l) cut t = ofI l cut t := by
  unfold ofI
  rw [nxI_dd, busB_dd]
end Go.Proofs.Ytkdjnmcaifejjaa

/- The law: the cycle of a time is that of its day, or of the next later business day. -/
namespace Go.Proofs.Ytkdjnmcaifejjaa
open Go.RowKit Go.Sy
attribute [local irreducible] vcall vloop vcallD retP sortI
set_option maxRecDepth 100000
set_option linter.unusedVariables false
set_option linter.unusedSimpArgs false

theorem of_no {l : List Int} {cut t : Int} (hl : l.length ≤ 100) (h : ofI l cut t < 0) : dayI t < 0 ∨ 99589 < dayI t := by
  unfold ofI at h
  split at h
  · rename_i q; exact .inl q
  · rename_i q
    have hd := dayI_ok q
    split at h
    · omega
    · by_cases w : dayI t ≤ 99589
      · exact absurd h (nx_found hl (by omega) (by omega))
      · exact .inr (by omega)
theorem of_yes {l : List Int} {cut t : Int} (h : ¬ ofI l cut t < 0) : 0 ≤ dayI t ∧ dayI t ≤ ofI l cut t ∧ ofI l cut t ≤ 99999 ∧ busB l (ofI l cut t) = true ∧ (ofI l cut t = dayI t → secI t < cut) ∧ ∀ i, dayI t ≤ i → i < ofI l cut t → busB l i = false ∨ (i = dayI t ∧ ¬ secI t < cut) := by
  unfold ofI at h ⊢
  by_cases q : dayI t < 0
  · rw [if_pos q] at h; omega
  · have hd := dayI_ok q
    rw [if_neg q] at h ⊢
    by_cases w : busB l (dayI t) = true ∧ secI t < cut
    · rw [if_pos w] at h ⊢
      exact ⟨by omega, Int.le_refl _, by omega, w.1, fun _ => w.2, fun i h1 h2 => by omega⟩
    · rw [if_neg w] at h ⊢
      have hx := nxI_ok h
      refine ⟨by omega, by omega, hx.2.1, hx.2.2, fun e => by omega, fun i h1 h2 => ?_⟩
      by_cases e : i = dayI t
      · subst e
        cases hb : busB l (dayI t) with
        | false => exact .inl rfl
        | true => exact .inr ⟨rfl, fun z => w ⟨hb, z⟩⟩
      · exact .inl (nxI_gap (by omega) (by omega) (.inr h2))
set_option maxHeartbeats 1000000 in
theorem law_Times (l : List Int) (n : Nat) (hl : l.length = n) (hn : n ≤ maxLen) (cut t : Int) : FC Try.prog 2 3 [.sl 1 0 0 n, .int .i64 cut, .int .i64 t] [(1, inB n l)] (isOut (.bool true) [] 2) := by
  have eM : maxLen = 9223372036854775807 := rfl
  have haw := law_awake
  by_cases h1 : 100 < n
  · refine fc_of mixed T_ok Try.func3 rfl (by kernel_rfl) (by kernel_rfl) (by kernel_rfl) ?_
    repeat' ((conv => whnf); first | (refine vcall_pure (haw) rfl rfl rfl ?_) | (refine vcallD_pure (haw) rfl rfl rfl ?_) | ((first | apply br_dec | apply br_ndec) <;> intro h <;> try (exfalso; (try dsimp only at h); omega)) | ((first | apply br_seq | apply br_nseq | apply br_not | apply br_intro) <;> intro h) | refine cond_a ?_)
    all_goals (conv => whnf)
    all_goals first
      | exact ret_out (l := [0, 1]) rfl rfl trivial allRw_nil
      | (exfalso; omega)
      | trace_state
  have c1 := cal_New l n hl
  have c2 := r03_New l n hn
  unfold holO at c1
  unfold r3O at c2
  by_cases hE : holE l n = 0
  · rw [if_pos hE] at c1 c2
    have c3 := cy_NewN cut
    unfold cnO cnE at c3
    rw [show nwErr [] = 0 from rfl] at c3
    by_cases hc : cut < 0 ∨ 86400 < cut
    · rw [if_pos hc, if_neg (by decide)] at c3
      by_cases hc1 : cut < 0
      · refine fc_of mixed T_ok Try.func3 rfl (by kernel_rfl) (by kernel_rfl) (by kernel_rfl) ?_
        repeat' ((conv => whnf); first | (refine vcall_pure (haw) rfl rfl rfl ?_) | (refine vcallD_pure (haw) rfl rfl rfl ?_) | refine vcall_o (l := [0, 1]) (c1) ?_ | refine vcall_o (l := [0, 1]) (c2) ?_ | refine vcall_o (l := [0, 2]) (c3) ?_ | ((first | apply br_dec | apply br_ndec) <;> intro h <;> try (exfalso; (try dsimp only at h); omega)) | ((first | apply br_seq | apply br_nseq | apply br_not | apply br_intro) <;> intro h) | refine cond_a ?_)
        all_goals (conv => whnf)
        all_goals first
          | exact ret_out (l := [0, 1]) rfl rfl trivial allRw_nil
          | (exfalso; omega)
          | trace_state
      · refine fc_of mixed T_ok Try.func3 rfl (by kernel_rfl) (by kernel_rfl) (by kernel_rfl) ?_
        repeat' ((conv => whnf); first | (refine vcall_pure (haw) rfl rfl rfl ?_) | (refine vcallD_pure (haw) rfl rfl rfl ?_) | refine vcall_o (l := [0, 1]) (c1) ?_ | refine vcall_o (l := [0, 1]) (c2) ?_ | refine vcall_o (l := [0, 2]) (c3) ?_ | ((first | apply br_dec | apply br_ndec) <;> intro h <;> try (exfalso; (try dsimp only at h); omega)) | ((first | apply br_seq | apply br_nseq | apply br_not | apply br_intro) <;> intro h) | refine cond_a ?_)
        all_goals (conv => whnf)
        all_goals first
          | exact ret_out (l := [0, 1]) rfl rfl trivial allRw_nil
          | (exfalso; omega)
          | trace_state
    · rw [if_neg hc, if_pos rfl] at c3
      have c4 := cy_Of 0 (ddS l).length cut (ddS l) rfl t
      rw [ofI_dd] at c4
      have c5 := r03_Day t
      have hno := of_no (l := l) (cut := cut) (t := t) (by omega)
      have hye := of_yes (l := l) (cut := cut) (t := t)
      generalize ofI l cut t = X at *
      generalize dayI t = D at *
      generalize secI t = S at *
      unfold ofV at c4
      by_cases hX : X < 0
      · rw [if_pos hX] at c4
        have hd := hno hX
        clear hno hye
        by_cases hD : D < 0
        · refine fc_of mixed T_ok Try.func3 rfl (by kernel_rfl) (by kernel_rfl) (by kernel_rfl) ?_
          repeat' ((conv => whnf); first | (refine vcall_pure (haw) rfl rfl rfl ?_) | (refine vcallD_pure (haw) rfl rfl rfl ?_) | (refine vcall_pure (c5) rfl rfl rfl ?_) | (refine vcallD_pure (c5) rfl rfl rfl ?_) | refine vcall_o (l := [0, 1]) (c1) ?_ | refine vcall_o (l := [0, 1]) (c2) ?_ | refine vcall_o (l := [0, 2]) (c3) ?_ | refine vcall_o (l := [0, 6, 2, 3, 7, 8, 9, 10, 11, 12]) (c4) ?_ | ((first | apply br_dec | apply br_ndec) <;> intro h <;> try (exfalso; (try dsimp only at h); omega)) | ((first | apply br_seq | apply br_nseq | apply br_not | apply br_intro) <;> intro h) | refine cond_a ?_)
          all_goals (conv => whnf)
          all_goals first
            | exact ret_out (l := [0, 1]) rfl rfl trivial allRw_nil
            | (exfalso; omega)
            | trace_state
        · refine fc_of mixed T_ok Try.func3 rfl (by kernel_rfl) (by kernel_rfl) (by kernel_rfl) ?_
          repeat' ((conv => whnf); first | (refine vcall_pure (haw) rfl rfl rfl ?_) | (refine vcallD_pure (haw) rfl rfl rfl ?_) | (refine vcall_pure (c5) rfl rfl rfl ?_) | (refine vcallD_pure (c5) rfl rfl rfl ?_) | refine vcall_o (l := [0, 1]) (c1) ?_ | refine vcall_o (l := [0, 1]) (c2) ?_ | refine vcall_o (l := [0, 2]) (c3) ?_ | refine vcall_o (l := [0, 6, 2, 3, 7, 8, 9, 10, 11, 12]) (c4) ?_ | ((first | apply br_dec | apply br_ndec) <;> intro h <;> try (exfalso; (try dsimp only at h); omega)) | ((first | apply br_seq | apply br_nseq | apply br_not | apply br_intro) <;> intro h) | refine cond_a ?_)
          all_goals (conv => whnf)
          all_goals first
            | exact ret_out (l := [0, 1]) rfl rfl trivial allRw_nil
            | (exfalso; omega)
            | trace_state
      · rw [if_neg hX] at c4
        obtain ⟨p1, p2, p3, p4, p5, p6⟩ := hye hX
        clear hno hye
        have c6 := r03_Business l n hl (by omega) X
        rw [p4] at c6
        obtain ⟨a, ea⟩ := Int.eq_ofNat_of_zero_le p1
        subst ea
        have p5' : ¬ X = (a : Int) ∨ S < cut := by
          by_cases e : X = (a : Int)
          · exact .inr (p5 e)
          · exact .inl e
        clear p5
        obtain ⟨x, ex⟩ := Int.eq_ofNat_of_zero_le (show 0 ≤ X by omega)
        subst ex
        refine fc_of mixed T_ok Try.func3 rfl (by kernel_rfl) (by kernel_rfl) (by kernel_rfl) ?_
        repeat' ((conv => whnf); first | (refine vcall_pure (haw) rfl rfl rfl ?_) | (refine vcallD_pure (haw) rfl rfl rfl ?_) | (refine vcall_pure (c5) rfl rfl rfl ?_) | (refine vcallD_pure (c5) rfl rfl rfl ?_) | refine vcall_o (l := [0, 1]) (c1) ?_ | refine vcall_o (l := [0, 1]) (c2) ?_ | refine vcall_o (l := [0, 2]) (c3) ?_ | refine vcall_o (l := [0, 6, 2, 3, 7, 8, 9, 10, 11, 12]) (c4) ?_ | refine vcall_o (l := [0, 4, 1]) (c6) ?_ | refine vcallD_o (l := [0, 4, 1]) (c6) ?_ | ((first | apply br_dec | apply br_ndec) <;> intro h <;> try (exfalso; (try dsimp only at h); omega)) | ((first | apply br_seq | apply br_nseq | apply br_not | apply br_intro) <;> intro h) | refine cond_a ?_)
        all_goals (conv => whnf)
        all_goals first
          | (exfalso; omega)
          | skip
        all_goals refine vloop_lp (fun k : Nat => ⟨[(1, .int .i64 cut), (9, .ptr 2 0 0 0), (13, .int .i64 x), (15, .int .i64 a), (16, .int .i64 S), (17, .int .i64 k)], [(1, inB n l), (2, rcC false 1 n)], 3⟩) (fun k => a ≤ k ∧ k ≤ x) (fun k => x - k) a [0, 1, 4] [] ⟨rfl, ⟨rfl, rfl, rfl, rfl, rfl, rfl, trivial⟩, ⟨rfl, rfl, trivial⟩⟩ ⟨Nat.le_refl _, by omega⟩ ?_
        all_goals (
          rintro k ⟨hk1, hk2⟩
          have c7 := r03_Business l n hl (by omega) k
          have e500 : IntKind.i64.wrap ((a : Int) + 500) = (a : Int) + 500 := w64_in (by omega) (by omega)
          by_cases hk : k < x
          · have p7 := p6 k (by omega) (by omega)
            by_cases hb : busB l k = false
            · rw [hb] at c7
              repeat' ((conv => whnf); first | (refine vcall_pure (haw) rfl rfl rfl ?_) | (refine vcallD_pure (haw) rfl rfl rfl ?_) | (simp only [e500]) | refine vcall_o (l := [0, 2, 1]) (c7) ?_ | refine vcallD_o (l := [0, 2, 1]) (c7) ?_ | ((first | apply br_dec | apply br_ndec) <;> intro h <;> try (exfalso; (try dsimp only at h); omega)) | ((first | apply br_seq | apply br_nseq | apply br_not | apply br_intro) <;> intro h) | refine cond_a ?_)
              all_goals (conv => whnf)
              all_goals first
                | exact ret_out (l := [0, 1]) rfl rfl trivial allRw_nil
                | exact ⟨k + 1, [0, 1, 2], [], ⟨by omega, hk⟩, (show x - (k + 1) < x - k by omega), ⟨rfl, ⟨rfl, rfl, rfl, rfl, rfl, congrArg (fun z => some (SV.int .i64 z)) (i64_succ (by omega)), trivial⟩, ⟨rfl, rfl, trivial⟩⟩⟩
                | (exfalso; omega)
                | trace_state
            · obtain ⟨p8, p9⟩ := p7.resolve_left hb
              rw [show busB l (k : Int) = true from by revert hb; cases busB l (k : Int) <;> simp] at c7
              repeat' ((conv => whnf); first | (refine vcall_pure (haw) rfl rfl rfl ?_) | (refine vcallD_pure (haw) rfl rfl rfl ?_) | (simp only [e500]) | refine vcall_o (l := [0, 2, 1]) (c7) ?_ | refine vcallD_o (l := [0, 2, 1]) (c7) ?_ | ((first | apply br_dec | apply br_ndec) <;> intro h <;> try (exfalso; (try dsimp only at h); omega)) | ((first | apply br_seq | apply br_nseq | apply br_not | apply br_intro) <;> intro h) | refine cond_a ?_)
              all_goals (conv => whnf)
              all_goals first
                | exact ret_out (l := [0, 1]) rfl rfl trivial allRw_nil
                | exact ⟨k + 1, [0, 1, 2], [], ⟨by omega, hk⟩, (show x - (k + 1) < x - k by omega), ⟨rfl, ⟨rfl, rfl, rfl, rfl, rfl, congrArg (fun z => some (SV.int .i64 z)) (i64_succ (by omega)), trivial⟩, ⟨rfl, rfl, trivial⟩⟩⟩
                | (exfalso; omega)
                | trace_state
          · repeat' ((conv => whnf); first | (refine vcall_pure (haw) rfl rfl rfl ?_) | (refine vcallD_pure (haw) rfl rfl rfl ?_) | (simp only [e500]) | ((first | apply br_dec | apply br_ndec) <;> intro h <;> try (exfalso; (try dsimp only at h); omega)) | ((first | apply br_seq | apply br_nseq | apply br_not | apply br_intro) <;> intro h) | refine cond_a ?_)
            all_goals (conv => whnf)
            all_goals first
              | exact ret_out (l := [0, 1]) rfl rfl trivial allRw_nil
              | (exfalso; omega)
              | trace_state)
  · rw [if_neg hE] at c1 c2
    generalize holE l n = e at *
    refine fc_of mixed T_ok Try.func3 rfl (by kernel_rfl) (by kernel_rfl) (by kernel_rfl) ?_
    repeat' ((conv => whnf); first | (refine vcall_pure (haw) rfl rfl rfl ?_) | (refine vcallD_pure (haw) rfl rfl rfl ?_) | refine vcall_o (l := [0, 1]) (c1) ?_ | refine vcall_o (l := [0, 1]) (c2) ?_ | ((first | apply br_dec | apply br_ndec) <;> intro h <;> try (exfalso; (try dsimp only at h); omega)) | ((first | apply br_seq | apply br_nseq | apply br_not | apply br_intro) <;> intro h) | refine cond_a ?_)
    all_goals (conv => whnf)
    all_goals first
      | exact ret_out (l := [0, 1]) rfl rfl trivial allRw_nil
      | (exfalso; omega)
      | trace_state
end Go.Proofs.Ytkdjnmcaifejjaa

