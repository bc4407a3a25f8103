/- Several texts in one: XNtA, XNtB, XNetSe. -/
import Derived.Test.YtmibjgblhaohiaaNetB
/- Plain facts: what the transfers of a settlement come to. No program in sight. -/
namespace Go.Proofs.Ytmibjgblhaohiaa
open Go.RowKit Go.Sy
set_option linter.unusedVariables false
set_option linter.unusedSimpArgs false

/-- A sum over rows, over transfers. -/
def smB (φ : Ps → Int) : List Ps → Int
  | [] => 0
  | x :: l => φ x + smB φ l
def smT (ψ : Tx → Int) : List Tx → Int
  | [] => 0
  | x :: l => ψ x + smT ψ l
theorem smB_append (φ : Ps → Int) (A B : List Ps) : smB φ (A ++ B) = smB φ A + smB φ B := by
  induction A with
  | nil => simp [smB]
  | cons x A ih => simp only [List.cons_append, smB, ih, Int.add_assoc]
theorem smT_append (ψ : Tx → Int) (A B : List Tx) : smT ψ (A ++ B) = smT ψ A + smT ψ B := by
  induction A with
  | nil => simp [smT]
  | cons x A ih => simp only [List.cons_append, smT, ih, Int.add_assoc]
theorem smB_perm (φ : Ps → Int) {A B : List Ps} (h : A.Perm B) : smB φ A = smB φ B := by
  induction h with
  | nil => rfl
  | cons x _ ih => simp only [smB, ih]
  | swap x y l => simp only [smB]; omega
  | trans _ _ ih1 ih2 => exact ih1.trans ih2
theorem smB_nz {φ : Ps → Int} (h : ∀ r : Ps, r.a = 0 → φ r = 0) : ∀ l, smB φ (nz l) = smB φ l
  | [] => rfl
  | x :: l => by
    by_cases h0 : x.a = 0
    · rw [nz_cons0 h0, smB_nz h l]; simp only [smB]; rw [h x h0]; omega
    · rw [nz_cons1 h0]; simp only [smB]; rw [smB_nz h l]
theorem smB_nonneg {φ : Ps → Int} (h : ∀ r, 0 ≤ φ r) : ∀ l, 0 ≤ smB φ l
  | [] => Int.le_refl _
  | x :: l => by have := smB_nonneg h l; have := h x; simp only [smB]; omega
theorem smB_take {φ : Ps → Int} {L : List Ps} {k : Nat} (hk : k < L.length) : smB φ (L.take (k + 1)) = smB φ (L.take k) + φ (L.getD k ps0) := by
  rw [take_getD hk, smB_append]; simp [smB]
theorem takeT_getD {T : List Tx} {k : Nat} (hk : k < T.length) : T.take (k + 1) = T.take k ++ [T.getD k tx0] := by
  rw [List.take_succ_eq_append_getElem hk, List.getD, List.getElem?_eq_getElem hk]; rfl
theorem smT_take {ψ : Tx → Int} {T : List Tx} {k : Nat} (hk : k < T.length) : smT ψ (T.take (k + 1)) = smT ψ (T.take k) + ψ (T.getD k tx0) := by
  rw [takeT_getD hk, smT_append]; simp [smT]
theorem smB_addA (φ : Ps → Int) (d : Int) : ∀ (A : List Ps) (i : Nat), i < A.length → smB φ (addA A i d) = smB φ A + (φ { A.getD i ps0 with a := (A.getD i ps0).a + d } - φ (A.getD i ps0))
  | [], i, h => by simp at h
  | x :: A, 0, h => by
    show φ { x with a := x.a + d } + smB φ A = φ x + smB φ A + (φ { x with a := x.a + d } - φ x)
    omega
  | x :: A, i + 1, h => by
    have ih := smB_addA φ d A i (by simpa using h)
    show φ x + smB φ (addA A i d) = φ x + smB φ A + (φ { A.getD i ps0 with a := (A.getD i ps0).a + d } - φ (A.getD i ps0))
    rw [ih]; omega
theorem smB_add2 (φ : Ps → Int) {A : List Ps} {i j : Nat} (u v : Int) (hi : i < A.length) (hj : j < A.length) (hne : i ≠ j) : smB φ (addA (addA A i u) j v) = smB φ A + (φ { A.getD i ps0 with a := (A.getD i ps0).a + u } - φ (A.getD i ps0)) + (φ { A.getD j ps0 with a := (A.getD j ps0).a + v } - φ (A.getD j ps0)) := by
  rw [smB_addA φ v _ _ (by rw [addA_len]; exact hj), smB_addA φ u _ _ hi, addA_get u hi j, if_neg (fun q => hne q.symm)]
theorem smB_step (φ : Ps → Int) (h0 : ∀ r : Ps, r.a = 0 → φ r = 0) {R : List Ps} {d e : Nat} {x : Tx} (hS : StepK R d e x) (hD : Dist R) : smB φ (nz (upd R x)) = smB φ R + (φ { R.getD d ps0 with a := (R.getD d ps0).a + x.a } - φ (R.getD d ps0)) + (φ { R.getD e ps0 with a := (R.getD e ps0).a + -x.a } - φ (R.getD e ps0)) := by
  rw [smB_nz h0, ← add_upd hD hS.d1 hS.e1 hS.ne hS.dk hS.ek, smB_add2 φ _ _ hS.d1 hS.e1 hS.ne]
theorem smB_two {φ : Ps → Int} (hn : ∀ r, 0 ≤ φ r) (h0 : ∀ r : Ps, r.a = 0 → φ r = 0) {A : List Ps} {i j : Nat} (hi : i < A.length) (hj : j < A.length) (hne : i ≠ j) : φ (A.getD i ps0) + φ (A.getD j ps0) ≤ smB φ A := by
  have h := smB_add2 φ (-(A.getD i ps0).a) (-(A.getD j ps0).a) hi hj hne
  rw [h0 { A.getD i ps0 with a := (A.getD i ps0).a + -(A.getD i ps0).a } (by dsimp only; omega), h0 { A.getD j ps0 with a := (A.getD j ps0).a + -(A.getD j ps0).a } (by dsimp only; omega)] at h
  have := smB_nonneg hn (addA (addA A i (-(A.getD i ps0).a)) j (-(A.getD j ps0).a))
  omega
/-- What a row counts in a sum: who is not zero in a currency, what is owed there, what one owes, what one is owed. -/
def fPt (c : ByteArray) (r : Ps) : Int := if r.c = c ∧ r.a ≠ 0 then 1 else 0
def fSu (c : ByteArray) (r : Ps) : Int := if r.c = c then max 0 r.a else 0
def fNg (c p : ByteArray) (r : Ps) : Int := if r.c = c ∧ r.p = p then max 0 (-r.a) else 0
def fPo (c p : ByteArray) (r : Ps) : Int := if r.c = c ∧ r.p = p then max 0 r.a else 0
def gTr (c : ByteArray) (x : Tx) : Int := if x.c = c then 1 else 0
def gAm (c : ByteArray) (x : Tx) : Int := if x.c = c then x.a else 0
def gPa (c p : ByteArray) (x : Tx) : Int := if x.c = c ∧ x.f = p then x.a else 0
def gGo (c p : ByteArray) (x : Tx) : Int := if x.c = c ∧ x.t = p then x.a else 0
theorem fPt0 (c : ByteArray) (r : Ps) (h : r.a = 0) : fPt c r = 0 := by unfold fPt; rw [if_neg (fun q => q.2 h)]
theorem fSu0 (c : ByteArray) (r : Ps) (h : r.a = 0) : fSu c r = 0 := by unfold fSu; rw [h]; split <;> rfl
theorem fNg0 (c p : ByteArray) (r : Ps) (h : r.a = 0) : fNg c p r = 0 := by unfold fNg; rw [h]; split <;> rfl
theorem fPo0 (c p : ByteArray) (r : Ps) (h : r.a = 0) : fPo c p r = 0 := by unfold fPo; rw [h]; split <;> rfl
theorem fPt_nn (c : ByteArray) (r : Ps) : 0 ≤ fPt c r := by unfold fPt; split <;> omega
/-- What is true of the transfers that settle rows. -/
structure SeQ (R : List Ps) (X : List Tx) : Prop where
  am : ∀ x ∈ X, 1 ≤ x.a ∧ x.a ≤ 4503599627370496 ∧ mchk x.a x.c = 0 ∧ x.f ≠ x.t
  tr : ∀ c, smT (gTr c) X = 0 ∨ smT (gTr c) X < smB (fPt c) R
  su : ∀ c, smT (gAm c) X = smB (fSu c) R
  pa : ∀ c p, smT (gPa c p) X = smB (fNg c p) R
  go : ∀ c p, smT (gGo c p) X = smB (fPo c p) R
theorem step_SeQ {R : List Ps} {X : List Tx} {d e : Nat} {x : Tx} (hS : StepK R d e x) (hI : RfI R) (h : SeQ (nz (upd R x)) X) : SeQ R (x :: X) := by
  have hD := asc_dist hI.asc
  obtain ⟨k1, k2⟩ := hS.dk
  obtain ⟨k3, k4⟩ := hS.ek
  have hdn := hS.dn
  have hep := hS.ep
  have ham := hS.am
  have o1 := hI.ok _ (mem_getD.2 ⟨d, hS.d1, rfl⟩)
  have o2 := hI.ok _ (mem_getD.2 ⟨e, hS.e1, rfl⟩)
  have b1 := (mchk_bd o1.2).2
  have b2 := (mchk_bd o2.2).2
  have hne : x.f ≠ x.t := by
    intro q
    exact hS.ne (dist_getD hD hS.d1 hS.e1 ⟨k1.trans (q.trans k3.symm), k2.trans k4.symm⟩)
  refine ⟨?_, fun c => ?_, fun c => ?_, fun c p => ?_, fun c p => ?_⟩
  · intro y hy
    rcases List.mem_cons.1 hy with rfl | hy
    · exact ⟨by omega, by omega, by rw [← k2]; exact mchk_of o1.2 ⟨by omega, by omega⟩, hne⟩
    · exact h.am y hy
  · have h1 := smB_step (fPt c) (fPt0 c) hS hD
    have h2 := h.tr c
    have h3 := smB_nonneg (fPt_nn c) (nz (upd R x))
    have h4 := smB_two (fPt_nn c) (fPt0 c) hS.d1 hS.e1 hS.ne
    simp only [smT]
    unfold fPt gTr at *
    simp only [k2, k4] at h1 h4
    by_cases hc : x.c = c
    · rw [if_pos (show x.c = c ∧ (R.getD d ps0).a ≠ 0 from ⟨hc, by omega⟩), if_pos (show x.c = c ∧ (R.getD e ps0).a ≠ 0 from ⟨hc, by omega⟩)] at h4 h1
      rw [if_pos hc]
      by_cases hx : -(R.getD d ps0).a ≤ (R.getD e ps0).a
      · rw [if_neg (show ¬ (x.c = c ∧ (R.getD d ps0).a + x.a ≠ 0) from fun q => q.2 (by omega))] at h1
        split at h1 <;> omega
      · rw [if_neg (show ¬ (x.c = c ∧ (R.getD e ps0).a + -x.a ≠ 0) from fun q => q.2 (by omega))] at h1
        split at h1 <;> omega
    · rw [if_neg (fun q => hc q.1), if_neg (fun q => hc q.1), if_neg (fun q => hc q.1), if_neg (fun q => hc q.1)] at h1
      rw [if_neg hc]
      omega
  · have h1 := smB_step (fSu c) (fSu0 c) hS hD
    have h2 := h.su c
    simp only [smT]
    unfold fSu gAm at *
    simp only [k2, k4] at h1
    split <;> rename_i q
    · rw [if_pos q, if_pos q, if_pos q, if_pos q] at h1; omega
    · rw [if_neg q, if_neg q, if_neg q, if_neg q] at h1; omega
  · have h1 := smB_step (fNg c p) (fNg0 c p) hS hD
    have h2 := h.pa c p
    simp only [smT]
    unfold fNg gPa at *
    simp only [k1, k2, k3, k4] at h1
    by_cases q1 : x.c = c ∧ x.f = p
    · have q2 : ¬ (x.c = c ∧ x.t = p) := fun q => hne (q1.2.trans q.2.symm)
      rw [if_pos q1, if_pos q1, if_neg q2, if_neg q2] at h1
      rw [if_pos q1]; omega
    · rw [if_neg q1, if_neg q1] at h1
      rw [if_neg q1]
      split at h1 <;> omega
  · have h1 := smB_step (fPo c p) (fPo0 c p) hS hD
    have h2 := h.go c p
    simp only [smT]
    unfold fPo gGo at *
    simp only [k1, k2, k3, k4] at h1
    by_cases q1 : x.c = c ∧ x.t = p
    · have q2 : ¬ (x.c = c ∧ x.f = p) := fun q => hne (q.2.trans q1.2.symm)
      rw [if_pos q1, if_pos q1, if_neg q2, if_neg q2] at h1
      rw [if_pos q1]; omega
    · rw [if_neg q1, if_neg q1] at h1
      rw [if_neg q1]
      split at h1 <;> omega
theorem PS_SeQ {R : List Ps} {T T' : List Tx} (h : PS R T T') : RfI R → ∃ X, T' = T ++ X ∧ SeQ R X := by
  refine PS_rec (M := fun R T T' => RfI R → ∃ X, T' = T ++ X ∧ SeQ R X) (fun T _ => ⟨[], by simp, ⟨fun x hx => by simp at hx, fun c => .inl rfl, fun c => rfl, fun c p => rfl, fun c p => rfl⟩⟩) (fun R T T' d e x hS hn ih hI => ?_) h
  obtain ⟨X, e1, hQ⟩ := ih (step_RfI hS.toStepK hI)
  exact ⟨x :: X, by rw [e1]; simp, step_SeQ hS.toStepK hI hQ⟩
theorem SeQ_congr {R L : List Ps} {X : List Tx} (hp : R.Perm (nz L)) (h : SeQ R X) : SeQ L X :=
  ⟨h.am, fun c => by rw [← smB_nz (fPt0 c) L, ← smB_perm _ hp]; exact h.tr c, fun c => by rw [← smB_nz (fSu0 c) L, ← smB_perm _ hp]; exact h.su c, fun c p => by rw [← smB_nz (fNg0 c p) L, ← smB_perm _ hp]; exact h.pa c p, fun c p => by rw [← smB_nz (fPo0 c p) L, ← smB_perm _ hp]; exact h.go c p⟩
theorem seT_SeQ {L : List Ps} (h : ckP L = 0) (hl : L.length ≤ 400) : SeQ L (seT L) := by
  obtain ⟨X, e, hQ⟩ := PS_SeQ (seT_PS h) (RfI_of (ckP_zero h).1 hl)
  rw [List.nil_append] at e
  rw [e]
  exact SeQ_congr ((srt_perm L).filter _) hQ
/-- One row alone counts for a place. -/
theorem smB_row {φ : Ps → Int} {p c : ByteArray} (hφ : ∀ r : Ps, ¬ (r.c = c ∧ r.p = p) → φ r = 0) : ∀ {L : List Ps}, Dist L → ∀ {i : Nat}, i < L.length → (L.getD i ps0).c = c → (L.getD i ps0).p = p → smB φ L = φ (L.getD i ps0)
  | [], _, i, h, _, _ => by simp at h
  | x :: L, hD, 0, h, hc, hp => by
    have h0 : smB φ L = 0 := by
      have : ∀ y ∈ L, φ y = 0 := fun y hy => hφ y fun q => (List.pairwise_cons.1 hD).1 y hy ⟨hp.trans q.2.symm, hc.trans q.1.symm⟩
      clear hD h hc hp
      induction L with
      | nil => rfl
      | cons z L ih => simp only [smB]; rw [this z (by simp), ih (fun y hy => this y (by simp [hy]))]; rfl
    show φ x + smB φ L = φ x
    omega
  | x :: L, hD, i + 1, h, hc, hp => by
    have ih := smB_row hφ (List.pairwise_cons.1 hD).2 (i := i) (by simpa using h) hc hp
    have hx : φ x = 0 := hφ x fun q => (List.pairwise_cons.1 hD).1 (L.getD i ps0) (mem_getD.2 ⟨i, by simpa using h, rfl⟩) ⟨q.2.trans hp.symm, q.1.trans hc.symm⟩
    show φ x + smB φ L = φ (L.getD i ps0)
    omega
theorem voK_sum {T : List Tx} {c : ByteArray} (h : ∀ x ∈ T, 1 ≤ x.a ∧ x.a ≤ 4503599627370496 ∧ mchk x.a x.c = 0 ∧ x.f ≠ x.t) : ∀ k, k ≤ T.length → voK T c k = min (smT (gAm c) (T.take k)) 4503599627370496
  | 0, _ => rfl
  | k + 1, hk => by
    have ih := voK_sum (c := c) h k (by omega)
    have hx := h (T.getD k tx0) (by rw [List.getD, List.getElem?_eq_getElem (by omega)]; exact List.getElem_mem _)
    rw [smT_take (by omega)]
    simp only [voK]
    unfold gAm at *
    by_cases hc : (T.getD k tx0).c = c
    · rw [if_pos ⟨hx.2.2.1, by omega, hc⟩, if_pos hc, ih]; omega
    · rw [if_neg (fun q => hc q.2.2), if_neg hc, ih, Int.add_zero]
theorem apK_cons {L : List Ps} {x : Tx} {X : List Tx} (h : apE L x = 0) : ∀ k, apK L (x :: X) (k + 1) = apK (apN L x) X k
  | 0 => by
    show (if (0 : Int) ≠ 0 then _ else (apE L x, apN L x)) = (0, apN L x)
    rw [if_neg (by simp), h]
  | k + 1 => by
    have ih := apK_cons (X := X) h k
    have e1 : apK L (x :: X) (k + 2) = if (apK L (x :: X) (k + 1)).1 ≠ 0 then apK L (x :: X) (k + 1) else (apE (apK L (x :: X) (k + 1)).2 (X.getD k tx0), apN (apK L (x :: X) (k + 1)).2 (X.getD k tx0)) := rfl
    rw [e1, ih]; rfl
/-- The transfers settle any rows of which these are the ones that are not zero. -/
theorem PS_ap {R : List Ps} {T T' : List Tx} (h : PS R T T') : ∀ L : List Ps, Dist L → (∀ x ∈ L, nmB x.p = true ∧ mchk x.a x.c = 0) → (nz L).Perm R → ∃ X, T' = T ++ X ∧ (apK L X X.length).1 = 0 ∧ nz (apK L X X.length).2 = [] := by
  refine PS_rec (M := fun R T T' => ∀ L : List Ps, Dist L → (∀ x ∈ L, nmB x.p = true ∧ mchk x.a x.c = 0) → (nz L).Perm R → ∃ X, T' = T ++ X ∧ (apK L X X.length).1 = 0 ∧ nz (apK L X X.length).2 = []) (fun T L hD hok hp => ⟨[], by simp, rfl, List.perm_nil.1 hp⟩) (fun R T T' d e x hS hn ih L hD hok hp => ?_) h
  have hin : ∀ r, r ∈ R → r ∈ L := fun r hr => (nz_mem.1 (hp.symm.subset hr)).1
  obtain ⟨d', g1, g2⟩ := mem_getD.1 (hin _ (mem_getD.2 ⟨d, hS.d1, rfl⟩))
  obtain ⟨e', g3, g4⟩ := mem_getD.1 (hin _ (mem_getD.2 ⟨e, hS.e1, rfl⟩))
  have hdn := hS.dn
  have hep := hS.ep
  have hK : StepK L d' e' x := ⟨g1, g3, fun q => by subst q; rw [← g2] at hdn; rw [← g4] at hep; omega, by rw [g2]; exact hS.dk, by rw [g4]; exact hS.ek, by rw [g2]; exact hdn, by rw [g4]; exact hep, by rw [g2, g4]; exact hS.am⟩
  have hE := step_E hK hD hok
  have hN := (step_N hK hD).1
  have hp2 : (nz (upd L x)).Perm (nz (upd R x)) := by
    rw [nz_upd]
    · exact (hp.map (updF x)).filter _
    · intro r hr hz
      rintro ⟨q1, q2⟩
      obtain ⟨j, hj, rfl⟩ := mem_getD.1 hr
      rcases q2 with q2 | q2
      · have := dist_getD hD hj hK.d1 ⟨q2.trans hK.dk.1.symm, q1.trans hK.dk.2.symm⟩
        have := hK.dn
        subst j; omega
      · have := dist_getD hD hj hK.e1 ⟨q2.trans hK.ek.1.symm, q1.trans hK.ek.2.symm⟩
        have := hK.ep
        subst j; omega
  obtain ⟨X, e1, e2, e3⟩ := ih (upd L x) (upd_dist x hD) (upd_ok hK hD hok) hp2
  refine ⟨x :: X, by rw [e1]; simp, ?_, ?_⟩
  · rw [List.length_cons, apK_cons hE, hN]; exact e2
  · rw [List.length_cons, apK_cons hE, hN]; exact e3
theorem seT_va {L : List Ps} (h : ckP L = 0) (hl : L.length ≤ 400) : vaB L (seT L) = true := by
  obtain ⟨h1, h2⟩ := ckP_zero h
  have hok : ∀ x ∈ L, nmB x.p = true ∧ mchk x.a x.c = 0 := fun x hx => by
    obtain ⟨j, hj, rfl⟩ := mem_getD.1 hx
    have := erP_zero ((sgP_zero h1).2 j hj)
    exact ⟨this.1, this.2.1⟩
  obtain ⟨X, e, a1, a2⟩ := PS_ap (seT_PS h) L (sgP_dist h1) hok ((srt_perm L).symm.filter _)
  rw [List.nil_append] at e
  have hQ := seT_SeQ h hl
  rw [e] at hQ ⊢
  have he : apErr L X = 0 := by unfold apErr; rw [if_neg (fun q => q h1)]; exact a1
  unfold vaB
  rw [decide_eq_true_iff]
  refine ⟨h, fun j hj => ?_, he, ?_⟩
  · have := hQ.am (X.getD j tx0) (by rw [List.getD, List.getElem?_eq_getElem hj]; exact List.getElem_mem _)
    exact ⟨this.2.2.2, this.1⟩
  · unfold apRes
    rw [if_neg (fun q => q he), a2]
    exact congrArg List.length (srt_of (m := []) (List.Perm.refl _) List.Pairwise.nil)
end Go.Proofs.Ytmibjgblhaohiaa

/- The law NettingSettles, on rows. -/
namespace Go.Proofs.Ytmibjgblhaohiaa
open Go.RowKit Go.Sy
attribute [local irreducible] vcall vloop vcallD retP
set_option maxRecDepth 100000
set_option linter.unusedVariables false
set_option linter.unusedSimpArgs false

theorem smB_bd {φ : Ps → Int} {L : List Ps} (h : ∀ j, j < L.length → 0 ≤ φ (L.getD j ps0) ∧ φ (L.getD j ps0) ≤ 4503599627370496) : ∀ k : Nat, k ≤ L.length → 0 ≤ smB φ (L.take k) ∧ smB φ (L.take k) ≤ 4503599627370496 * (k : Int)
  | 0, _ => by simp [smB]
  | k + 1, hk => by
    have ih := smB_bd h k (by omega)
    have := h k (by omega)
    rw [smB_take (by omega)]
    omega
theorem smT_bd {ψ : Tx → Int} {T : List Tx} (h : ∀ j, j < T.length → 0 ≤ ψ (T.getD j tx0) ∧ ψ (T.getD j tx0) ≤ 4503599627370496) : ∀ k : Nat, k ≤ T.length → 0 ≤ smT ψ (T.take k) ∧ smT ψ (T.take k) ≤ 4503599627370496 * (k : Int)
  | 0, _ => by simp [smT]
  | k + 1, hk => by
    have ih := smT_bd h k (by omega)
    have := h k (by omega)
    rw [smT_take (by omega)]
    omega
theorem fSu_bd {r : Ps} (c : ByteArray) (h : inT r.a) : 0 ≤ fSu c r ∧ fSu c r ≤ 4503599627370496 := by unfold fSu; split <;> omega
theorem fPt_bd {r : Ps} (c : ByteArray) : 0 ≤ fPt c r ∧ fPt c r ≤ 4503599627370496 := by unfold fPt; split <;> omega
theorem getT_mem {T : List Tx} {j : Nat} (h : j < T.length) (_ : j < T.length) : T.getD j tx0 ∈ T := by
  rw [List.getD, List.getElem?_eq_getElem h]; exact List.getElem_mem _
abbrev AmOk (x : Tx) : Prop := 1 ≤ x.a ∧ x.a ≤ 4503599627370496 ∧ mchk x.a x.c = 0 ∧ x.f ≠ x.t
theorem gPa_bd {x : Tx} (c p : ByteArray) (h : AmOk x) : 0 ≤ gPa c p x ∧ gPa c p x ≤ 4503599627370496 := by
  obtain ⟨h1, h2, _⟩ := h
  unfold gPa; split <;> omega
theorem gGo_bd {x : Tx} (c p : ByteArray) (h : AmOk x) : 0 ≤ gGo c p x ∧ gGo c p x ≤ 4503599627370496 := by
  obtain ⟨h1, h2, _⟩ := h
  unfold gGo; split <;> omega
theorem gTr_bd {x : Tx} (c : ByteArray) : 0 ≤ gTr c x ∧ gTr c x ≤ 4503599627370496 := by unfold gTr; split <;> omega
set_option maxHeartbeats 1600000 in
theorem law_Settles (L : List Ps) (n : Nat) (hn : L.length = n) : FC Try.prog 2 5 [.sl 1 0 0 n] [(1, some (.one true (psB n (pcOf L))))] (isOut (.bool true) [] 2) := by
  have c0 := law_smallN L n hn
  have cw := law_awake
  by_cases hs : smL L []
  · rw [decide_eq_true hs] at c0
    have h1 := hs.1.1
    have c1 := net_Settle L n hn (by omega)
    have c2 := net_Check L n hn (by omega)
    unfold seOut at c1
    by_cases he : ckP L ≠ 0
    · rw [if_pos he] at c1
      generalize ckP L = er at *
      refine fc_of mixed T_ok Try.func5 rfl (by kernel_rfl) (by kernel_rfl) (by kernel_rfl) ?_
      repeat' ((conv => whnf); first | (refine vcall_out (l :=  [0, 1]) (c0 ) ⟨rfl, rfl, rfl, rfl, (by (repeat' (first | exact trivial | exact GB_wf | exact fun _ _ => rfl | constructor)); first | done | fail), (by (repeat' (first | exact trivial | exact GB_fits rfl | constructor)); first | done | fail)⟩ ?_) | (refine vcall_out (l :=  [0, 1]) (c1 ) ⟨rfl, rfl, rfl, rfl, (by (repeat' (first | exact trivial | exact GB_wf | exact fun _ _ => rfl | constructor)); first | done | fail), (by (repeat' (first | exact trivial | exact GB_fits rfl | constructor)); first | done | fail)⟩ ?_) | (refine vcall_out (l :=  [0, 1]) (c2 ) ⟨rfl, rfl, rfl, rfl, (by (repeat' (first | exact trivial | exact GB_wf | exact fun _ _ => rfl | constructor)); first | done | fail), (by (repeat' (first | exact trivial | exact GB_fits rfl | constructor)); first | done | fail)⟩ ?_) | (refine vcallD_out (l :=  [0, 1]) (c2 ) ⟨rfl, rfl, rfl, rfl, (by (repeat' (first | exact trivial | exact GB_wf | exact fun _ _ => rfl | constructor)); first | done | fail), (by (repeat' (first | exact trivial | exact GB_fits rfl | constructor)); first | done | fail)⟩ ?_) | (refine vcall_pure (cw) rfl rfl rfl ?_) | (refine vcallD_pure (cw) rfl rfl rfl ?_) | (refine br_dec (fun h => ?_) (fun h => ?_) <;> try (exfalso; (try dsimp only at h); omega)) | (refine br_ndec (fun h => ?_) (fun h => ?_) <;> try (exfalso; (try dsimp only at h); omega)) | refine br_seq (fun h => ?_) (fun h => ?_) | refine br_nseq (fun h => ?_) (fun h => ?_) | refine br_not (fun h => ?_) (fun h => ?_) | refine br_intro (fun h => ?_) (fun h => ?_) | refine cond_intro rfl ?_ | (refine cond_intro ⟨rfl, ?_⟩ ?_; (first | omega | (dsimp only; omega) | decide)) | (refine cond_intro ?_ ?_; (first | omega | (dsimp only; omega) | decide | (simp only [Nat.add_zero, Int.toNat_natCast, *]; omega))))
      all_goals (conv => whnf)
      all_goals first
        | exact ret_out (l := [0, 1]) rfl rfl trivial allRw_nil
        | (exfalso; first | omega | contradiction)
        | trace_state
    · rw [if_neg he] at c1
      have he0 := Classical.not_not.1 he
      rw [he0] at c2
      have hl := seT_len he0 (by omega)
      have hQ := seT_SeQ he0 (by omega)
      have hV := seT_va he0 (by omega)
      have c3 := fun c => net_Volume (seT L) c (seT L).length rfl (by omega)
      have c4 := net_Valid L (seT L) n (seT L).length hn rfl (by omega) (by omega)
      rw [hV] at c4
      have hvo := fun c => voK_sum (c := c) hQ.am (seT L).length (Nat.le_refl _)
      have hbd := sgP_bd (ckP_zero he0).1
      have hDi := sgP_dist (ckP_zero he0).1
      generalize hm : (seT L).length = m at *
      generalize seT L = T at *
      refine fc_of mixed T_ok Try.func5 rfl (by kernel_rfl) (by kernel_rfl) (by kernel_rfl) ?_
      repeat' ((conv => whnf); first | (refine vcall_out (l :=  [0, 1]) (c0 ) ⟨rfl, rfl, rfl, rfl, (by (repeat' (first | exact trivial | exact GB_wf | exact fun _ _ => rfl | constructor)); first | done | fail), (by (repeat' (first | exact trivial | exact GB_fits rfl | constructor)); first | done | fail)⟩ ?_) | (refine vcall_out (l :=  [0, 1]) (c1 ) ⟨rfl, rfl, rfl, rfl, (by (repeat' (first | exact trivial | exact GB_wf | exact fun _ _ => rfl | constructor)); first | done | fail), (by (repeat' (first | exact trivial | exact GB_fits rfl | constructor)); first | done | fail)⟩ ?_) | (refine vcall_out (l :=  [0, 1]) (c2 ) ⟨rfl, rfl, rfl, rfl, (by (repeat' (first | exact trivial | exact GB_wf | exact fun _ _ => rfl | constructor)); first | done | fail), (by (repeat' (first | exact trivial | exact GB_fits rfl | constructor)); first | done | fail)⟩ ?_) | (refine vcallD_out (l :=  [0, 1]) (c2 ) ⟨rfl, rfl, rfl, rfl, (by (repeat' (first | exact trivial | exact GB_wf | exact fun _ _ => rfl | constructor)); first | done | fail), (by (repeat' (first | exact trivial | exact GB_fits rfl | constructor)); first | done | fail)⟩ ?_) | (refine vcall_pure (cw) rfl rfl rfl ?_) | (refine vcallD_pure (cw) rfl rfl rfl ?_) | (refine br_dec (fun h => ?_) (fun h => ?_) <;> try (exfalso; (try dsimp only at h); omega)) | (refine br_ndec (fun h => ?_) (fun h => ?_) <;> try (exfalso; (try dsimp only at h); omega)) | refine br_seq (fun h => ?_) (fun h => ?_) | refine br_nseq (fun h => ?_) (fun h => ?_) | refine br_not (fun h => ?_) (fun h => ?_) | refine br_intro (fun h => ?_) (fun h => ?_) | refine cond_intro rfl ?_ | (refine cond_intro ⟨rfl, ?_⟩ ?_; (first | omega | (dsimp only; omega) | decide)) | (refine cond_intro ?_ ?_; (first | omega | (dsimp only; omega) | decide | (simp only [Nat.add_zero, Int.toNat_natCast, *]; omega))))
      all_goals (conv => whnf)
      refine vloop_lp (fun i : Nat => ⟨[(0, .sl 1 0 0 n), (3, .sl 2 0 0 m), (5, .int .i64 i)], [(1, some (.one true (psB n (pcOf L)))), (2, some (.one false (txB m (tcOf T))))], 3⟩) (fun i => i ≤ n) (fun i => n - i) 0 [0, 1, 3] [] ⟨rfl, ⟨rfl, rfl, rfl, trivial⟩, ⟨rfl, rfl, trivial⟩⟩ (Nat.zero_le _) ?_
      intro i hi
      by_cases hi2 : i < n
      · generalize hcc : (pcOf L).c.getD i ⟨#[]⟩ = c at *
        repeat' ((conv => whnf); first | (refine br_dec (fun h => ?_) (fun h => ?_) <;> try (exfalso; (try dsimp only at h); omega)) | (refine br_ndec (fun h => ?_) (fun h => ?_) <;> try (exfalso; (try dsimp only at h); omega)) | refine br_seq (fun h => ?_) (fun h => ?_) | refine br_nseq (fun h => ?_) (fun h => ?_) | refine br_not (fun h => ?_) (fun h => ?_) | refine br_intro (fun h => ?_) (fun h => ?_) | refine cond_intro rfl ?_ | (refine cond_intro ⟨rfl, ?_⟩ ?_; (first | omega | (dsimp only; omega) | decide)) | (refine cond_intro ?_ ?_; (first | omega | (dsimp only; omega) | decide | (simp only [Nat.add_zero, Int.toNat_natCast, *]; omega))))
        all_goals (conv => whnf)
        all_goals (try simp only [toNat0] at *)
        all_goals first
          | (exfalso; omega)
          | skip
        refine vloop_lp (fun k : Nat => ⟨[(0, .sl 1 0 0 n), (3, .sl 2 0 0 m), (5, .int .i64 i), (6, .int .i64 0), (7, .int .i64 0), (8, .int .i64 (smB (fSu c) (L.take k))), (9, .int .i64 (smB (fPt c) (L.take k))), (10, .int .i64 0), (11, .int .i64 k)], [(1, some (.one true (psB n (pcOf L)))), (2, some (.one false (txB m (tcOf T))))], 3⟩) (fun k => k ≤ n) (fun k => n - k) 0 [0, 1, 2] [] ⟨rfl, ⟨rfl, rfl, rfl, rfl, rfl, rfl, rfl, rfl, rfl, trivial⟩, ⟨rfl, rfl, trivial⟩⟩ (Nat.zero_le _) ?_
        intro k hk
        by_cases hk2 : k < n
        · have t8 := smB_take (φ := fSu c) (L := L) (k := k) (by omega)
          have t9 := smB_take (φ := fPt c) (L := L) (k := k) (by omega)
          have u8 := smB_bd (φ := fSu c) (L := L) (fun j hj => fSu_bd c (hbd j hj)) k (by omega)
          have u9 := smB_bd (φ := fPt c) (L := L) (fun j hj => fPt_bd c) k (by omega)
          have hbk := hbd k (by omega)
          rw [← (atP L k).2.1] at hbk
          have f8 : fSu c (L.getD k ps0) = if (pcOf L).c.getD k ⟨#[]⟩ = c then max 0 ((pcOf L).a.getD k 0) else 0 := by rw [(atP L k).2.1, (atP L k).2.2]; rfl
          have f9 : fPt c (L.getD k ps0) = if (pcOf L).c.getD k ⟨#[]⟩ = c ∧ (pcOf L).a.getD k 0 ≠ 0 then 1 else 0 := by rw [(atP L k).2.1, (atP L k).2.2]; rfl
          rw [f8] at t8
          rw [f9] at t9
          generalize smB (fSu c) (L.take k) = s8 at *
          generalize smB (fPt c) (L.take k) = s9 at *
          generalize hs8 : smB (fSu c) (L.take (k + 1)) = s8n at *
          generalize hs9 : smB (fPt c) (L.take (k + 1)) = s9n at *
          by_cases q1 : (pcOf L).c.getD k ⟨#[]⟩ = (pcOf L).c.getD i ⟨#[]⟩
          · by_cases q2 : (pcOf L).a.getD k 0 = 0
            · rw [if_pos (q1.trans hcc), q2] at t8
              rw [if_neg (fun q => q.2 q2)] at t9
              have e8 : (some (SV.int .i64 s8) : Option SV) = some (SV.int .i64 s8n) := congrArg (fun z => some (SV.int .i64 z)) (by omega)
              have e9 : (some (SV.int .i64 s9) : Option SV) = some (SV.int .i64 s9n) := congrArg (fun z => some (SV.int .i64 z)) (by omega)
              repeat' ((conv => whnf); first | (refine br_dec (fun h => ?_) (fun h => ?_) <;> try (exfalso; (try dsimp only at h); omega)) | (refine br_ndec (fun h => ?_) (fun h => ?_) <;> try (exfalso; (try dsimp only at h); omega)) | refine br_seq (fun h => ?_) (fun h => ?_) | refine br_nseq (fun h => ?_) (fun h => ?_) | refine br_not (fun h => ?_) (fun h => ?_) | refine br_intro (fun h => ?_) (fun h => ?_) | refine cond_intro rfl ?_ | (refine cond_intro ⟨rfl, ?_⟩ ?_; (first | omega | (dsimp only; omega) | decide)) | (refine cond_intro ?_ ?_; (first | omega | (dsimp only; omega) | decide | (simp only [Nat.add_zero, Int.toNat_natCast, *]; omega))))
              all_goals (conv => whnf)
              all_goals (try simp only [toNat0] at *)
              all_goals first
                | (exfalso; first | omega | contradiction)
                | exact ⟨k + 1, [0, 1, 2], [], hk2, (show n - (k + 1) < n - k by omega), ⟨rfl, ⟨rfl, rfl, rfl, rfl, rfl, e8.trans (congrArg (fun z => some (SV.int .i64 z)) hs8.symm), e9.trans (congrArg (fun z => some (SV.int .i64 z)) hs9.symm), rfl, congrArg (fun z => some (SV.int .i64 z)) (i64_succ (by omega)), trivial⟩, ⟨rfl, rfl, trivial⟩⟩⟩
                | trace_state
            · rw [if_pos (q1.trans hcc)] at t8
              rw [if_pos ⟨q1.trans hcc, q2⟩] at t9
              have e8 : (some (SV.int .i64 (IntKind.i64.wrap (s8 + max 0 ((pcOf L).a.getD k 0)))) : Option SV) = some (SV.int .i64 s8n) := congrArg (fun z => some (SV.int .i64 z)) (by rw [w64_in (by omega) (by omega)]; exact t8.symm)
              have e9 : (some (SV.int .i64 (IntKind.i64.wrap (s9 + 1))) : Option SV) = some (SV.int .i64 s9n) := congrArg (fun z => some (SV.int .i64 z)) (by rw [w64_in (by omega) (by omega)]; exact t9.symm)
              repeat' ((conv => whnf); first | (refine br_dec (fun h => ?_) (fun h => ?_) <;> try (exfalso; (try dsimp only at h); omega)) | (refine br_ndec (fun h => ?_) (fun h => ?_) <;> try (exfalso; (try dsimp only at h); omega)) | refine br_seq (fun h => ?_) (fun h => ?_) | refine br_nseq (fun h => ?_) (fun h => ?_) | refine br_not (fun h => ?_) (fun h => ?_) | refine br_intro (fun h => ?_) (fun h => ?_) | refine cond_intro rfl ?_ | (refine cond_intro ⟨rfl, ?_⟩ ?_; (first | omega | (dsimp only; omega) | decide)) | (refine cond_intro ?_ ?_; (first | omega | (dsimp only; omega) | decide | (simp only [Nat.add_zero, Int.toNat_natCast, *]; omega))))
              all_goals (conv => whnf)
              all_goals (try simp only [toNat0] at *)
              all_goals first
                | (exfalso; first | omega | contradiction)
                | exact ⟨k + 1, [0, 1, 2], [], hk2, (show n - (k + 1) < n - k by omega), ⟨rfl, ⟨rfl, rfl, rfl, rfl, rfl, e8.trans (congrArg (fun z => some (SV.int .i64 z)) hs8.symm), e9.trans (congrArg (fun z => some (SV.int .i64 z)) hs9.symm), rfl, congrArg (fun z => some (SV.int .i64 z)) (i64_succ (by omega)), trivial⟩, ⟨rfl, rfl, trivial⟩⟩⟩
                | trace_state
          · rw [if_neg (fun q => q1 (q.trans hcc.symm))] at t8
            rw [if_neg (fun q => q1 (q.1.trans hcc.symm))] at t9
            have e8 : (some (SV.int .i64 s8) : Option SV) = some (SV.int .i64 s8n) := congrArg (fun z => some (SV.int .i64 z)) (by omega)
            have e9 : (some (SV.int .i64 s9) : Option SV) = some (SV.int .i64 s9n) := congrArg (fun z => some (SV.int .i64 z)) (by omega)
            repeat' ((conv => whnf); first | (refine br_dec (fun h => ?_) (fun h => ?_) <;> try (exfalso; (try dsimp only at h); omega)) | (refine br_ndec (fun h => ?_) (fun h => ?_) <;> try (exfalso; (try dsimp only at h); omega)) | refine br_seq (fun h => ?_) (fun h => ?_) | refine br_nseq (fun h => ?_) (fun h => ?_) | refine br_not (fun h => ?_) (fun h => ?_) | refine br_intro (fun h => ?_) (fun h => ?_) | refine cond_intro rfl ?_ | (refine cond_intro ⟨rfl, ?_⟩ ?_; (first | omega | (dsimp only; omega) | decide)) | (refine cond_intro ?_ ?_; (first | omega | (dsimp only; omega) | decide | (simp only [Nat.add_zero, Int.toNat_natCast, *]; omega))))
            all_goals (conv => whnf)
            all_goals (try simp only [toNat0] at *)
            all_goals first
              | (exfalso; first | omega | contradiction)
              | exact ⟨k + 1, [0, 1, 2], [], hk2, (show n - (k + 1) < n - k by omega), ⟨rfl, ⟨rfl, rfl, rfl, rfl, rfl, e8.trans (congrArg (fun z => some (SV.int .i64 z)) hs8.symm), e9.trans (congrArg (fun z => some (SV.int .i64 z)) hs9.symm), rfl, congrArg (fun z => some (SV.int .i64 z)) (i64_succ (by omega)), trivial⟩, ⟨rfl, rfl, trivial⟩⟩⟩
              | trace_state
        · have e : k = n := by omega
          subst e
          repeat' ((conv => whnf); first | (refine br_dec (fun h => ?_) (fun h => ?_) <;> try (exfalso; (try dsimp only at h); omega)) | (refine br_ndec (fun h => ?_) (fun h => ?_) <;> try (exfalso; (try dsimp only at h); omega)) | refine br_seq (fun h => ?_) (fun h => ?_) | refine br_nseq (fun h => ?_) (fun h => ?_) | refine br_not (fun h => ?_) (fun h => ?_) | refine br_intro (fun h => ?_) (fun h => ?_) | refine cond_intro rfl ?_ | (refine cond_intro ⟨rfl, ?_⟩ ?_; (first | omega | (dsimp only; omega) | decide)) | (refine cond_intro ?_ ?_; (first | omega | (dsimp only; omega) | decide | (simp only [Nat.add_zero, Int.toNat_natCast, *]; omega))))
          all_goals (conv => whnf)
          all_goals (try simp only [toNat0] at *)
          all_goals first
            | (exfalso; first | omega | contradiction)
            | skip
          generalize hpp : (pcOf L).p.getD i ⟨#[]⟩ = p at *
          refine vloop_lp (fun j : Nat => ⟨[(0, .sl 1 0 0 k), (3, .sl 2 0 0 m), (5, .int .i64 i), (6, .int .i64 (smT (gPa c p) (T.take j))), (7, .int .i64 (smT (gGo c p) (T.take j))), (8, .int .i64 (smB (fSu c) (L.take k))), (9, .int .i64 (smB (fPt c) (L.take k))), (10, .int .i64 (smT (gTr c) (T.take j))), (12, .int .i64 j)], [(1, some (.one true (psB k (pcOf L)))), (2, some (.one false (txB m (tcOf T))))], 3⟩) (fun j => j ≤ m) (fun j => m - j) 0 [0, 1, 2] [] ⟨rfl, ⟨rfl, rfl, rfl, rfl, rfl, rfl, rfl, rfl, rfl, trivial⟩, ⟨rfl, rfl, trivial⟩⟩ (Nat.zero_le _) ?_
          intro j hj
          by_cases hj2 : j < m
          · have t6 := smT_take (ψ := gPa c p) (T := T) (k := j) (by omega)
            have t7 := smT_take (ψ := gGo c p) (T := T) (k := j) (by omega)
            have t10 := smT_take (ψ := gTr c) (T := T) (k := j) (by omega)
            have hab := fun x hx => hQ.am (T.getD x tx0) (getT_mem (show x < T.length by omega) hx)
            have u6 := smT_bd (ψ := gPa c p) (T := T) (fun x hx => gPa_bd c p (hab x hx)) j (by omega)
            have u7 := smT_bd (ψ := gGo c p) (T := T) (fun x hx => gGo_bd c p (hab x hx)) j (by omega)
            have u10 := smT_bd (ψ := gTr c) (T := T) (fun x hx => gTr_bd c) j (by omega)
            have hab2 := hab j (by omega)
            have v6 : gPa c p (T.getD j tx0) = if (tcOf T).c.getD j ⟨#[]⟩ = c ∧ (tcOf T).f.getD j ⟨#[]⟩ = p then (tcOf T).a.getD j 0 else 0 := by rw [(atT T j).1, (atT T j).2.2.1, (atT T j).2.2.2]; rfl
            have v7 : gGo c p (T.getD j tx0) = if (tcOf T).c.getD j ⟨#[]⟩ = c ∧ (tcOf T).t.getD j ⟨#[]⟩ = p then (tcOf T).a.getD j 0 else 0 := by rw [(atT T j).2.1, (atT T j).2.2.1, (atT T j).2.2.2]; rfl
            have v10 : gTr c (T.getD j tx0) = if (tcOf T).c.getD j ⟨#[]⟩ = c then 1 else 0 := by rw [(atT T j).2.2.2]; rfl
            rw [← (atT T j).2.2.1] at hab2
            rw [v6] at t6
            rw [v7] at t7
            rw [v10] at t10
            obtain ⟨w1, w2, _, _⟩ := hab2
            clear hab
            generalize smT (gPa c p) (T.take j) = s6 at *
            generalize smT (gGo c p) (T.take j) = s7 at *
            generalize smT (gTr c) (T.take j) = s10 at *
            generalize hs6 : smT (gPa c p) (T.take (j + 1)) = n6 at *
            generalize hs7 : smT (gGo c p) (T.take (j + 1)) = n7 at *
            generalize hs10 : smT (gTr c) (T.take (j + 1)) = n10 at *
            by_cases q1 : (tcOf T).c.getD j ⟨#[]⟩ = (pcOf L).c.getD i ⟨#[]⟩
            · by_cases q2 : (tcOf T).f.getD j ⟨#[]⟩ = (pcOf L).p.getD i ⟨#[]⟩
              · by_cases q3 : (tcOf T).t.getD j ⟨#[]⟩ = (pcOf L).p.getD i ⟨#[]⟩
                · rw [if_pos ⟨q1.trans hcc, q2.trans hpp⟩] at t6
                  rw [if_pos ⟨q1.trans hcc, q3.trans hpp⟩] at t7
                  rw [if_pos (q1.trans hcc)] at t10
                  have e6 : (some (SV.int .i64 (IntKind.i64.wrap (s6 + (tcOf T).a.getD j 0))) : Option SV) = some (SV.int .i64 n6) := congrArg (fun z => some (SV.int .i64 z)) (by rw [w64_in (by omega) (by omega)]; omega)
                  have e7 : (some (SV.int .i64 (IntKind.i64.wrap (s7 + (tcOf T).a.getD j 0))) : Option SV) = some (SV.int .i64 n7) := congrArg (fun z => some (SV.int .i64 z)) (by rw [w64_in (by omega) (by omega)]; omega)
                  have e10 : (some (SV.int .i64 (IntKind.i64.wrap (s10 + 1))) : Option SV) = some (SV.int .i64 n10) := congrArg (fun z => some (SV.int .i64 z)) (by rw [w64_in (by omega) (by omega)]; omega)
                  repeat' ((conv => whnf); first | (refine br_dec (fun h => ?_) (fun h => ?_) <;> try (exfalso; (try dsimp only at h); omega)) | (refine br_ndec (fun h => ?_) (fun h => ?_) <;> try (exfalso; (try dsimp only at h); omega)) | refine br_seq (fun h => ?_) (fun h => ?_) | refine br_nseq (fun h => ?_) (fun h => ?_) | refine br_not (fun h => ?_) (fun h => ?_) | refine br_intro (fun h => ?_) (fun h => ?_) | refine cond_intro rfl ?_ | (refine cond_intro ⟨rfl, ?_⟩ ?_; (first | omega | (dsimp only; omega) | decide)) | (refine cond_intro ?_ ?_; (first | omega | (dsimp only; omega) | decide | (simp only [Nat.add_zero, Int.toNat_natCast, *]; omega))))
                  all_goals (conv => whnf)
                  all_goals (try simp only [toNat0] at *)
                  all_goals first
                    | (exfalso; first | omega | contradiction)
                    | exact ⟨j + 1, [0, 1, 2], [], hj2, (show m - (j + 1) < m - j by omega), ⟨rfl, ⟨rfl, rfl, rfl, e6.trans (congrArg (fun z => some (SV.int .i64 z)) hs6.symm), e7.trans (congrArg (fun z => some (SV.int .i64 z)) hs7.symm), rfl, rfl, e10.trans (congrArg (fun z => some (SV.int .i64 z)) hs10.symm), congrArg (fun z => some (SV.int .i64 z)) (i64_succ (by omega)), trivial⟩, ⟨rfl, rfl, trivial⟩⟩⟩
                    | trace_state
                · rw [if_pos ⟨q1.trans hcc, q2.trans hpp⟩] at t6
                  rw [if_neg (fun q => q3 (q.2.trans hpp.symm))] at t7
                  rw [if_pos (q1.trans hcc)] at t10
                  have e6 : (some (SV.int .i64 (IntKind.i64.wrap (s6 + (tcOf T).a.getD j 0))) : Option SV) = some (SV.int .i64 n6) := congrArg (fun z => some (SV.int .i64 z)) (by rw [w64_in (by omega) (by omega)]; omega)
                  have e7 : (some (SV.int .i64 s7) : Option SV) = some (SV.int .i64 n7) := congrArg (fun z => some (SV.int .i64 z)) (by omega)
                  have e10 : (some (SV.int .i64 (IntKind.i64.wrap (s10 + 1))) : Option SV) = some (SV.int .i64 n10) := congrArg (fun z => some (SV.int .i64 z)) (by rw [w64_in (by omega) (by omega)]; omega)
                  repeat' ((conv => whnf); first | (refine br_dec (fun h => ?_) (fun h => ?_) <;> try (exfalso; (try dsimp only at h); omega)) | (refine br_ndec (fun h => ?_) (fun h => ?_) <;> try (exfalso; (try dsimp only at h); omega)) | refine br_seq (fun h => ?_) (fun h => ?_) | refine br_nseq (fun h => ?_) (fun h => ?_) | refine br_not (fun h => ?_) (fun h => ?_) | refine br_intro (fun h => ?_) (fun h => ?_) | refine cond_intro rfl ?_ | (refine cond_intro ⟨rfl, ?_⟩ ?_; (first | omega | (dsimp only; omega) | decide)) | (refine cond_intro ?_ ?_; (first | omega | (dsimp only; omega) | decide | (simp only [Nat.add_zero, Int.toNat_natCast, *]; omega))))
                  all_goals (conv => whnf)
                  all_goals (try simp only [toNat0] at *)
                  all_goals first
                    | (exfalso; first | omega | contradiction)
                    | exact ⟨j + 1, [0, 1, 2], [], hj2, (show m - (j + 1) < m - j by omega), ⟨rfl, ⟨rfl, rfl, rfl, e6.trans (congrArg (fun z => some (SV.int .i64 z)) hs6.symm), e7.trans (congrArg (fun z => some (SV.int .i64 z)) hs7.symm), rfl, rfl, e10.trans (congrArg (fun z => some (SV.int .i64 z)) hs10.symm), congrArg (fun z => some (SV.int .i64 z)) (i64_succ (by omega)), trivial⟩, ⟨rfl, rfl, trivial⟩⟩⟩
                    | trace_state
              · by_cases q3 : (tcOf T).t.getD j ⟨#[]⟩ = (pcOf L).p.getD i ⟨#[]⟩
                · rw [if_neg (fun q => q2 (q.2.trans hpp.symm))] at t6
                  rw [if_pos ⟨q1.trans hcc, q3.trans hpp⟩] at t7
                  rw [if_pos (q1.trans hcc)] at t10
                  have e6 : (some (SV.int .i64 s6) : Option SV) = some (SV.int .i64 n6) := congrArg (fun z => some (SV.int .i64 z)) (by omega)
                  have e7 : (some (SV.int .i64 (IntKind.i64.wrap (s7 + (tcOf T).a.getD j 0))) : Option SV) = some (SV.int .i64 n7) := congrArg (fun z => some (SV.int .i64 z)) (by rw [w64_in (by omega) (by omega)]; omega)
                  have e10 : (some (SV.int .i64 (IntKind.i64.wrap (s10 + 1))) : Option SV) = some (SV.int .i64 n10) := congrArg (fun z => some (SV.int .i64 z)) (by rw [w64_in (by omega) (by omega)]; omega)
                  repeat' ((conv => whnf); first | (refine br_dec (fun h => ?_) (fun h => ?_) <;> try (exfalso; (try dsimp only at h); omega)) | (refine br_ndec (fun h => ?_) (fun h => ?_) <;> try (exfalso; (try dsimp only at h); omega)) | refine br_seq (fun h => ?_) (fun h => ?_) | refine br_nseq (fun h => ?_) (fun h => ?_) | refine br_not (fun h => ?_) (fun h => ?_) | refine br_intro (fun h => ?_) (fun h => ?_) | refine cond_intro rfl ?_ | (refine cond_intro ⟨rfl, ?_⟩ ?_; (first | omega | (dsimp only; omega) | decide)) | (refine cond_intro ?_ ?_; (first | omega | (dsimp only; omega) | decide | (simp only [Nat.add_zero, Int.toNat_natCast, *]; omega))))
                  all_goals (conv => whnf)
                  all_goals (try simp only [toNat0] at *)
                  all_goals first
                    | (exfalso; first | omega | contradiction)
                    | exact ⟨j + 1, [0, 1, 2], [], hj2, (show m - (j + 1) < m - j by omega), ⟨rfl, ⟨rfl, rfl, rfl, e6.trans (congrArg (fun z => some (SV.int .i64 z)) hs6.symm), e7.trans (congrArg (fun z => some (SV.int .i64 z)) hs7.symm), rfl, rfl, e10.trans (congrArg (fun z => some (SV.int .i64 z)) hs10.symm), congrArg (fun z => some (SV.int .i64 z)) (i64_succ (by omega)), trivial⟩, ⟨rfl, rfl, trivial⟩⟩⟩
                    | trace_state
                · rw [if_neg (fun q => q2 (q.2.trans hpp.symm))] at t6
                  rw [if_neg (fun q => q3 (q.2.trans hpp.symm))] at t7
                  rw [if_pos (q1.trans hcc)] at t10
                  have e6 : (some (SV.int .i64 s6) : Option SV) = some (SV.int .i64 n6) := congrArg (fun z => some (SV.int .i64 z)) (by omega)
                  have e7 : (some (SV.int .i64 s7) : Option SV) = some (SV.int .i64 n7) := congrArg (fun z => some (SV.int .i64 z)) (by omega)
                  have e10 : (some (SV.int .i64 (IntKind.i64.wrap (s10 + 1))) : Option SV) = some (SV.int .i64 n10) := congrArg (fun z => some (SV.int .i64 z)) (by rw [w64_in (by omega) (by omega)]; omega)
                  repeat' ((conv => whnf); first | (refine br_dec (fun h => ?_) (fun h => ?_) <;> try (exfalso; (try dsimp only at h); omega)) | (refine br_ndec (fun h => ?_) (fun h => ?_) <;> try (exfalso; (try dsimp only at h); omega)) | refine br_seq (fun h => ?_) (fun h => ?_) | refine br_nseq (fun h => ?_) (fun h => ?_) | refine br_not (fun h => ?_) (fun h => ?_) | refine br_intro (fun h => ?_) (fun h => ?_) | refine cond_intro rfl ?_ | (refine cond_intro ⟨rfl, ?_⟩ ?_; (first | omega | (dsimp only; omega) | decide)) | (refine cond_intro ?_ ?_; (first | omega | (dsimp only; omega) | decide | (simp only [Nat.add_zero, Int.toNat_natCast, *]; omega))))
                  all_goals (conv => whnf)
                  all_goals (try simp only [toNat0] at *)
                  all_goals first
                    | (exfalso; first | omega | contradiction)
                    | exact ⟨j + 1, [0, 1, 2], [], hj2, (show m - (j + 1) < m - j by omega), ⟨rfl, ⟨rfl, rfl, rfl, e6.trans (congrArg (fun z => some (SV.int .i64 z)) hs6.symm), e7.trans (congrArg (fun z => some (SV.int .i64 z)) hs7.symm), rfl, rfl, e10.trans (congrArg (fun z => some (SV.int .i64 z)) hs10.symm), congrArg (fun z => some (SV.int .i64 z)) (i64_succ (by omega)), trivial⟩, ⟨rfl, rfl, trivial⟩⟩⟩
                    | trace_state
            · rw [if_neg (fun q => q1 (q.1.trans hcc.symm))] at t6
              rw [if_neg (fun q => q1 (q.1.trans hcc.symm))] at t7
              rw [if_neg (fun q => q1 (q.trans hcc.symm))] at t10
              have e6 : (some (SV.int .i64 s6) : Option SV) = some (SV.int .i64 n6) := congrArg (fun z => some (SV.int .i64 z)) (by omega)
              have e7 : (some (SV.int .i64 s7) : Option SV) = some (SV.int .i64 n7) := congrArg (fun z => some (SV.int .i64 z)) (by omega)
              have e10 : (some (SV.int .i64 s10) : Option SV) = some (SV.int .i64 n10) := congrArg (fun z => some (SV.int .i64 z)) (by omega)
              repeat' ((conv => whnf); first | (refine br_dec (fun h => ?_) (fun h => ?_) <;> try (exfalso; (try dsimp only at h); omega)) | (refine br_ndec (fun h => ?_) (fun h => ?_) <;> try (exfalso; (try dsimp only at h); omega)) | refine br_seq (fun h => ?_) (fun h => ?_) | refine br_nseq (fun h => ?_) (fun h => ?_) | refine br_not (fun h => ?_) (fun h => ?_) | refine br_intro (fun h => ?_) (fun h => ?_) | refine cond_intro rfl ?_ | (refine cond_intro ⟨rfl, ?_⟩ ?_; (first | omega | (dsimp only; omega) | decide)) | (refine cond_intro ?_ ?_; (first | omega | (dsimp only; omega) | decide | (simp only [Nat.add_zero, Int.toNat_natCast, *]; omega))))
              all_goals (conv => whnf)
              all_goals (try simp only [toNat0] at *)
              all_goals first
                | (exfalso; first | omega | contradiction)
                | exact ⟨j + 1, [0, 1, 2], [], hj2, (show m - (j + 1) < m - j by omega), ⟨rfl, ⟨rfl, rfl, rfl, e6.trans (congrArg (fun z => some (SV.int .i64 z)) hs6.symm), e7.trans (congrArg (fun z => some (SV.int .i64 z)) hs7.symm), rfl, rfl, e10.trans (congrArg (fun z => some (SV.int .i64 z)) hs10.symm), congrArg (fun z => some (SV.int .i64 z)) (i64_succ (by omega)), trivial⟩, ⟨rfl, rfl, trivial⟩⟩⟩
                | trace_state
          · have e2 : j = m := by omega
            subst e2
            have eT : T.take j = T := by rw [← hm, List.take_length]
            have eL : L.take k = L := by rw [← hn, List.take_length]
            have r10 := hQ.tr c
            have r6 := hQ.pa c p
            have r7 := hQ.go c p
            have r8 := hQ.su c
            have hik : i < L.length := by omega
            have ec : (L.getD i ps0).c = c := (atP L i).2.2.symm.trans hcc
            have ep : (L.getD i ps0).p = p := (atP L i).1.symm.trans hpp
            rw [smB_row (φ := fNg c p) (fun r q => by unfold fNg; rw [if_neg q]) hDi hik ec ep] at r6
            rw [smB_row (φ := fPo c p) (fun r q => by unfold fPo; rw [if_neg q]) hDi hik ec ep] at r7
            unfold fNg at r6
            unfold fPo at r7
            rw [if_pos ⟨ec, ep⟩, ← (atP L i).2.1] at r6 r7
            have hbi := hbd i hik
            rw [← (atP L i).2.1] at hbi
            have hv := hvo c
            rw [eT, r8] at hv
            rw [eT, eL]
            have e0 : IntKind.i64.wrap (0 - (pcOf L).a.getD i 0) = -(pcOf L).a.getD i 0 := by rw [w64_in (by omega) (by omega)]; omega
            generalize smT (gPa c p) T = s6 at *
            generalize smT (gGo c p) T = s7 at *
            generalize smB (fSu c) L = s8 at *
            generalize smB (fPt c) L = s9 at *
            generalize smT (gTr c) T = s10 at *
            rw [← hcc] at hv
            repeat' ((conv => whnf); first | (refine vcall_out (l :=  [0, 2]) (c3 _ ) ⟨rfl, rfl, rfl, rfl, (by (repeat' (first | exact trivial | exact GB_wf | exact fun _ _ => rfl | constructor)); first | done | fail), (by (repeat' (first | exact trivial | exact GB_fits rfl | constructor)); first | done | fail)⟩ ?_) | (refine vcallD_out (l :=  [0, 2]) (c3 _ ) ⟨rfl, rfl, rfl, rfl, (by (repeat' (first | exact trivial | exact GB_wf | exact fun _ _ => rfl | constructor)); first | done | fail), (by (repeat' (first | exact trivial | exact GB_fits rfl | constructor)); first | done | fail)⟩ ?_) | (refine br_dec (fun h => ?_) (fun h => ?_) <;> try (exfalso; (try dsimp only at h); omega)) | (refine br_ndec (fun h => ?_) (fun h => ?_) <;> try (exfalso; (try dsimp only at h); omega)) | refine br_seq (fun h => ?_) (fun h => ?_) | refine br_nseq (fun h => ?_) (fun h => ?_) | refine br_not (fun h => ?_) (fun h => ?_) | refine br_intro (fun h => ?_) (fun h => ?_) | refine cond_intro rfl ?_ | (refine cond_intro ⟨rfl, ?_⟩ ?_; (first | omega | (dsimp only; omega) | decide)) | (refine cond_intro ?_ ?_; (first | omega | (dsimp only; omega) | decide | (simp only [Nat.add_zero, Int.toNat_natCast, *]; omega))))
            all_goals (conv => whnf)
            all_goals (try simp only [toNat0] at *)
            all_goals first
              | (exfalso; first | omega | contradiction)
              | exact ⟨i + 1, [0, 1, 2], [], hi2, (show k - (i + 1) < k - i by omega), ⟨rfl, ⟨rfl, rfl, congrArg (fun z => some (SV.int .i64 z)) (i64_succ (by omega)), trivial⟩, ⟨rfl, rfl, trivial⟩⟩⟩
              | trace_state
      · have e : i = n := by omega
        subst e
        repeat' ((conv => whnf); first | (refine vcall_out (l :=  [0, 1, 2]) (c4 ) ⟨rfl, rfl, rfl, rfl, (by (repeat' (first | exact trivial | exact GB_wf | exact fun _ _ => rfl | constructor)); first | done | fail), (by (repeat' (first | exact trivial | exact GB_fits rfl | constructor)); first | done | fail)⟩ ?_) | (refine vcallD_out (l :=  [0, 1, 2]) (c4 ) ⟨rfl, rfl, rfl, rfl, (by (repeat' (first | exact trivial | exact GB_wf | exact fun _ _ => rfl | constructor)); first | done | fail), (by (repeat' (first | exact trivial | exact GB_fits rfl | constructor)); first | done | fail)⟩ ?_) | (refine vcall_pure (cw) rfl rfl rfl ?_) | (refine vcallD_pure (cw) rfl rfl rfl ?_) | (refine br_dec (fun h => ?_) (fun h => ?_) <;> try (exfalso; (try dsimp only at h); omega)) | (refine br_ndec (fun h => ?_) (fun h => ?_) <;> try (exfalso; (try dsimp only at h); omega)) | refine br_seq (fun h => ?_) (fun h => ?_) | refine br_nseq (fun h => ?_) (fun h => ?_) | refine br_not (fun h => ?_) (fun h => ?_) | refine br_intro (fun h => ?_) (fun h => ?_) | refine cond_intro rfl ?_ | (refine cond_intro ⟨rfl, ?_⟩ ?_; (first | omega | (dsimp only; omega) | decide)) | (refine cond_intro ?_ ?_; (first | omega | (dsimp only; omega) | decide | (simp only [Nat.add_zero, Int.toNat_natCast, *]; omega))))
        all_goals (conv => whnf)
        all_goals first
          | exact ret_out (l := [0, 1]) rfl rfl trivial allRw_nil
          | (exfalso; omega)
          | trace_state
  · rw [decide_eq_false hs] at c0
    refine fc_of mixed T_ok Try.func5 rfl (by kernel_rfl) (by kernel_rfl) (by kernel_rfl) ?_
    repeat' ((conv => whnf); first | (refine vcall_out (l :=  [0, 1]) (c0 ) ⟨rfl, rfl, rfl, rfl, (by (repeat' (first | exact trivial | exact GB_wf | exact fun _ _ => rfl | constructor)); first | done | fail), (by (repeat' (first | exact trivial | exact GB_fits rfl | constructor)); first | done | fail)⟩ ?_) | (refine vcall_pure (cw) rfl rfl rfl ?_) | (refine vcallD_pure (cw) rfl rfl rfl ?_) | (refine br_dec (fun h => ?_) (fun h => ?_) <;> try (exfalso; (try dsimp only at h); omega)) | (refine br_ndec (fun h => ?_) (fun h => ?_) <;> try (exfalso; (try dsimp only at h); omega)) | refine br_seq (fun h => ?_) (fun h => ?_) | refine br_nseq (fun h => ?_) (fun h => ?_) | refine br_not (fun h => ?_) (fun h => ?_) | refine br_intro (fun h => ?_) (fun h => ?_) | refine cond_intro rfl ?_ | (refine cond_intro ⟨rfl, ?_⟩ ?_; (first | omega | (dsimp only; omega) | decide)) | (refine cond_intro ?_ ?_; (first | omega | (dsimp only; omega) | decide | (simp only [Nat.add_zero, Int.toNat_natCast, *]; omega))))
    all_goals (conv => whnf)
    all_goals first
      | exact ret_out (l := [0, 1]) rfl rfl trivial allRw_nil
      | trace_state
end Go.Proofs.Ytmibjgblhaohiaa

/- The law NettingSettles: the transfers settle the positions; for all arguments. -/
namespace Go.Proofs.Ytmibjgblhaohiaa
open Go.RowKit Go.Sy
set_option linter.unusedVariables false

theorem nettingSettles_fc (l0 : Nat) (hl0 : l0 ≤ maxLen) (q0_0 : List ByteArray) (eq0_0 : q0_0.length = l0) (wq0_0 : ∀ x ∈ q0_0, x.size ≤ maxLen) (q0_1 : List Int) (eq0_1 : q0_1.length = l0) (wq0_1 : ∀ x ∈ q0_1, (Lit.int .i64 x).wf = true) (q0_2 : List ByteArray) (eq0_2 : q0_2.length = l0) (wq0_2 : ∀ x ∈ q0_2, x.size ≤ maxLen) :
    FC Try.prog 2 5 [.sl 1 0 0 l0] [(1, some (.one true (.cols l0 [.sc (.strs q0_0), .sc (.ints .i64 q0_1), .sc (.strs q0_2)])))] (isOut (.bool true) [] 2) := by
  obtain ⟨L, hL, eL⟩ := mkPs q0_0 q0_1 q0_2 l0 eq0_0 eq0_1 eq0_2
  have h := law_Settles L l0 hL
  unfold psB at h
  rw [eL] at h
  exact h
end Go.Proofs.Ytmibjgblhaohiaa

