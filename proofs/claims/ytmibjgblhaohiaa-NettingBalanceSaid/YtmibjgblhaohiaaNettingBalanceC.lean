/- Several texts in one: XNtA, XNtE, XNtF, XNetBa. -/
import Derived.Test.YtmibjgblhaohiaaNetB
/- Plain facts: what the transfers of a settlement come to. No program in sight. -/
namespace Go.Proofs.Ytmibjgblhaohiaa
open Go.RowKit Go.Sy
set_option linter.unusedVariables false
set_option linter.unusedSimpArgs false

/-- A sum over rows, over transfers. -/
def smB (φ : Ps → Int) : List Ps → Int
  | [] => 0
  | x :: l => φ x + smB φ l
def smT (ψ : Tx → Int) : List Tx → Int
  | [] => 0
  | x :: l => ψ x + smT ψ l
theorem smB_append (φ : Ps → Int) (A B : List Ps) : smB φ (A ++ B) = smB φ A + smB φ B := by
  induction A with
  | nil => simp [smB]
  | cons x A ih => simp only [List.cons_append, smB, ih, Int.add_assoc]
theorem smT_append (ψ : Tx → Int) (A B : List Tx) : smT ψ (A ++ B) = smT ψ A + smT ψ B := by
  induction A with
  | nil => simp [smT]
  | cons x A ih => simp only [List.cons_append, smT, ih, Int.add_assoc]
theorem smB_perm (φ : Ps → Int) {A B : List Ps} (h : A.Perm B) : smB φ A = smB φ B := by
  induction h with
  | nil => rfl
  | cons x _ ih => simp only [smB, ih]
  | swap x y l => simp only [smB]; omega
  | trans _ _ ih1 ih2 => exact ih1.trans ih2
theorem smB_nz {φ : Ps → Int} (h : ∀ r : Ps, r.a = 0 → φ r = 0) : ∀ l, smB φ (nz l) = smB φ l
  | [] => rfl
  | x :: l => by
    by_cases h0 : x.a = 0
    · rw [nz_cons0 h0, smB_nz h l]; simp only [smB]; rw [h x h0]; omega
    · rw [nz_cons1 h0]; simp only [smB]; rw [smB_nz h l]
theorem smB_nonneg {φ : Ps → Int} (h : ∀ r, 0 ≤ φ r) : ∀ l, 0 ≤ smB φ l
  | [] => Int.le_refl _
  | x :: l => by have := smB_nonneg h l; have := h x; simp only [smB]; omega
theorem smB_take {φ : Ps → Int} {L : List Ps} {k : Nat} (hk : k < L.length) : smB φ (L.take (k + 1)) = smB φ (L.take k) + φ (L.getD k ps0) := by
  rw [take_getD hk, smB_append]; simp [smB]
theorem takeT_getD {T : List Tx} {k : Nat} (hk : k < T.length) : T.take (k + 1) = T.take k ++ [T.getD k tx0] := by
  rw [List.take_succ_eq_append_getElem hk, List.getD, List.getElem?_eq_getElem hk]; rfl
theorem smT_take {ψ : Tx → Int} {T : List Tx} {k : Nat} (hk : k < T.length) : smT ψ (T.take (k + 1)) = smT ψ (T.take k) + ψ (T.getD k tx0) := by
  rw [takeT_getD hk, smT_append]; simp [smT]
theorem smB_addA (φ : Ps → Int) (d : Int) : ∀ (A : List Ps) (i : Nat), i < A.length → smB φ (addA A i d) = smB φ A + (φ { A.getD i ps0 with a := (A.getD i ps0).a + d } - φ (A.getD i ps0))
  | [], i, h => by simp at h
  | x :: A, 0, h => by
    show φ { x with a := x.a + d } + smB φ A = φ x + smB φ A + (φ { x with a := x.a + d } - φ x)
    omega
  | x :: A, i + 1, h => by
    have ih := smB_addA φ d A i (by simpa using h)
    show φ x + smB φ (addA A i d) = φ x + smB φ A + (φ { A.getD i ps0 with a := (A.getD i ps0).a + d } - φ (A.getD i ps0))
    rw [ih]; omega
theorem smB_add2 (φ : Ps → Int) {A : List Ps} {i j : Nat} (u v : Int) (hi : i < A.length) (hj : j < A.length) (hne : i ≠ j) : smB φ (addA (addA A i u) j v) = smB φ A + (φ { A.getD i ps0 with a := (A.getD i ps0).a + u } - φ (A.getD i ps0)) + (φ { A.getD j ps0 with a := (A.getD j ps0).a + v } - φ (A.getD j ps0)) := by
  rw [smB_addA φ v _ _ (by rw [addA_len]; exact hj), smB_addA φ u _ _ hi, addA_get u hi j, if_neg (fun q => hne q.symm)]
theorem smB_step (φ : Ps → Int) (h0 : ∀ r : Ps, r.a = 0 → φ r = 0) {R : List Ps} {d e : Nat} {x : Tx} (hS : StepK R d e x) (hD : Dist R) : smB φ (nz (upd R x)) = smB φ R + (φ { R.getD d ps0 with a := (R.getD d ps0).a + x.a } - φ (R.getD d ps0)) + (φ { R.getD e ps0 with a := (R.getD e ps0).a + -x.a } - φ (R.getD e ps0)) := by
  rw [smB_nz h0, ← add_upd hD hS.d1 hS.e1 hS.ne hS.dk hS.ek, smB_add2 φ _ _ hS.d1 hS.e1 hS.ne]
theorem smB_two {φ : Ps → Int} (hn : ∀ r, 0 ≤ φ r) (h0 : ∀ r : Ps, r.a = 0 → φ r = 0) {A : List Ps} {i j : Nat} (hi : i < A.length) (hj : j < A.length) (hne : i ≠ j) : φ (A.getD i ps0) + φ (A.getD j ps0) ≤ smB φ A := by
  have h := smB_add2 φ (-(A.getD i ps0).a) (-(A.getD j ps0).a) hi hj hne
  rw [h0 { A.getD i ps0 with a := (A.getD i ps0).a + -(A.getD i ps0).a } (by dsimp only; omega), h0 { A.getD j ps0 with a := (A.getD j ps0).a + -(A.getD j ps0).a } (by dsimp only; omega)] at h
  have := smB_nonneg hn (addA (addA A i (-(A.getD i ps0).a)) j (-(A.getD j ps0).a))
  omega
/-- What a row counts in a sum: who is not zero in a currency, what is owed there, what one owes, what one is owed. -/
def fPt (c : ByteArray) (r : Ps) : Int := if r.c = c ∧ r.a ≠ 0 then 1 else 0
def fSu (c : ByteArray) (r : Ps) : Int := if r.c = c then max 0 r.a else 0
def fNg (c p : ByteArray) (r : Ps) : Int := if r.c = c ∧ r.p = p then max 0 (-r.a) else 0
def fPo (c p : ByteArray) (r : Ps) : Int := if r.c = c ∧ r.p = p then max 0 r.a else 0
def gTr (c : ByteArray) (x : Tx) : Int := if x.c = c then 1 else 0
def gAm (c : ByteArray) (x : Tx) : Int := if x.c = c then x.a else 0
def gPa (c p : ByteArray) (x : Tx) : Int := if x.c = c ∧ x.f = p then x.a else 0
def gGo (c p : ByteArray) (x : Tx) : Int := if x.c = c ∧ x.t = p then x.a else 0
theorem fPt0 (c : ByteArray) (r : Ps) (h : r.a = 0) : fPt c r = 0 := by unfold fPt; rw [if_neg (fun q => q.2 h)]
theorem fSu0 (c : ByteArray) (r : Ps) (h : r.a = 0) : fSu c r = 0 := by unfold fSu; rw [h]; split <;> rfl
theorem fNg0 (c p : ByteArray) (r : Ps) (h : r.a = 0) : fNg c p r = 0 := by unfold fNg; rw [h]; split <;> rfl
theorem fPo0 (c p : ByteArray) (r : Ps) (h : r.a = 0) : fPo c p r = 0 := by unfold fPo; rw [h]; split <;> rfl
theorem fPt_nn (c : ByteArray) (r : Ps) : 0 ≤ fPt c r := by unfold fPt; split <;> omega
/-- What is true of the transfers that settle rows. -/
structure SeQ (R : List Ps) (X : List Tx) : Prop where
  am : ∀ x ∈ X, 1 ≤ x.a ∧ x.a ≤ 4503599627370496 ∧ mchk x.a x.c = 0 ∧ x.f ≠ x.t
  tr : ∀ c, smT (gTr c) X = 0 ∨ smT (gTr c) X < smB (fPt c) R
  su : ∀ c, smT (gAm c) X = smB (fSu c) R
  pa : ∀ c p, smT (gPa c p) X = smB (fNg c p) R
  go : ∀ c p, smT (gGo c p) X = smB (fPo c p) R
theorem step_SeQ {R : List Ps} {X : List Tx} {d e : Nat} {x : Tx} (hS : StepK R d e x) (hI : RfI R) (h : SeQ (nz (upd R x)) X) : SeQ R (x :: X) := by
  have hD := asc_dist hI.asc
  obtain ⟨k1, k2⟩ := hS.dk
  obtain ⟨k3, k4⟩ := hS.ek
  have hdn := hS.dn
  have hep := hS.ep
  have ham := hS.am
  have o1 := hI.ok _ (mem_getD.2 ⟨d, hS.d1, rfl⟩)
  have o2 := hI.ok _ (mem_getD.2 ⟨e, hS.e1, rfl⟩)
  have b1 := (mchk_bd o1.2).2
  have b2 := (mchk_bd o2.2).2
  have hne : x.f ≠ x.t := by
    intro q
    exact hS.ne (dist_getD hD hS.d1 hS.e1 ⟨k1.trans (q.trans k3.symm), k2.trans k4.symm⟩)
  refine ⟨?_, fun c => ?_, fun c => ?_, fun c p => ?_, fun c p => ?_⟩
  · intro y hy
    rcases List.mem_cons.1 hy with rfl | hy
    · exact ⟨by omega, by omega, by rw [← k2]; exact mchk_of o1.2 ⟨by omega, by omega⟩, hne⟩
    · exact h.am y hy
  · have h1 := smB_step (fPt c) (fPt0 c) hS hD
    have h2 := h.tr c
    have h3 := smB_nonneg (fPt_nn c) (nz (upd R x))
    have h4 := smB_two (fPt_nn c) (fPt0 c) hS.d1 hS.e1 hS.ne
    simp only [smT]
    unfold fPt gTr at *
    simp only [k2, k4] at h1 h4
    by_cases hc : x.c = c
    · rw [if_pos (show x.c = c ∧ (R.getD d ps0).a ≠ 0 from ⟨hc, by omega⟩), if_pos (show x.c = c ∧ (R.getD e ps0).a ≠ 0 from ⟨hc, by omega⟩)] at h4 h1
      rw [if_pos hc]
      by_cases hx : -(R.getD d ps0).a ≤ (R.getD e ps0).a
      · rw [if_neg (show ¬ (x.c = c ∧ (R.getD d ps0).a + x.a ≠ 0) from fun q => q.2 (by omega))] at h1
        split at h1 <;> omega
      · rw [if_neg (show ¬ (x.c = c ∧ (R.getD e ps0).a + -x.a ≠ 0) from fun q => q.2 (by omega))] at h1
        split at h1 <;> omega
    · rw [if_neg (fun q => hc q.1), if_neg (fun q => hc q.1), if_neg (fun q => hc q.1), if_neg (fun q => hc q.1)] at h1
      rw [if_neg hc]
      omega
  · have h1 := smB_step (fSu c) (fSu0 c) hS hD
    have h2 := h.su c
    simp only [smT]
    unfold fSu gAm at *
    simp only [k2, k4] at h1
    split <;> rename_i q
    · rw [if_pos q, if_pos q, if_pos q, if_pos q] at h1; omega
    · rw [if_neg q, if_neg q, if_neg q, if_neg q] at h1; omega
  · have h1 := smB_step (fNg c p) (fNg0 c p) hS hD
    have h2 := h.pa c p
    simp only [smT]
    unfold fNg gPa at *
    simp only [k1, k2, k3, k4] at h1
    by_cases q1 : x.c = c ∧ x.f = p
    · have q2 : ¬ (x.c = c ∧ x.t = p) := fun q => hne (q1.2.trans q.2.symm)
      rw [if_pos q1, if_pos q1, if_neg q2, if_neg q2] at h1
      rw [if_pos q1]; omega
    · rw [if_neg q1, if_neg q1] at h1
      rw [if_neg q1]
      split at h1 <;> omega
  · have h1 := smB_step (fPo c p) (fPo0 c p) hS hD
    have h2 := h.go c p
    simp only [smT]
    unfold fPo gGo at *
    simp only [k1, k2, k3, k4] at h1
    by_cases q1 : x.c = c ∧ x.t = p
    · have q2 : ¬ (x.c = c ∧ x.f = p) := fun q => hne (q.2.trans q1.2.symm)
      rw [if_pos q1, if_pos q1, if_neg q2, if_neg q2] at h1
      rw [if_pos q1]; omega
    · rw [if_neg q1, if_neg q1] at h1
      rw [if_neg q1]
      split at h1 <;> omega
theorem PS_SeQ {R : List Ps} {T T' : List Tx} (h : PS R T T') : RfI R → ∃ X, T' = T ++ X ∧ SeQ R X := by
  refine PS_rec (M := fun R T T' => RfI R → ∃ X, T' = T ++ X ∧ SeQ R X) (fun T _ => ⟨[], by simp, ⟨fun x hx => by simp at hx, fun c => .inl rfl, fun c => rfl, fun c p => rfl, fun c p => rfl⟩⟩) (fun R T T' d e x hS hn ih hI => ?_) h
  obtain ⟨X, e1, hQ⟩ := ih (step_RfI hS.toStepK hI)
  exact ⟨x :: X, by rw [e1]; simp, step_SeQ hS.toStepK hI hQ⟩
theorem SeQ_congr {R L : List Ps} {X : List Tx} (hp : R.Perm (nz L)) (h : SeQ R X) : SeQ L X :=
  ⟨h.am, fun c => by rw [← smB_nz (fPt0 c) L, ← smB_perm _ hp]; exact h.tr c, fun c => by rw [← smB_nz (fSu0 c) L, ← smB_perm _ hp]; exact h.su c, fun c p => by rw [← smB_nz (fNg0 c p) L, ← smB_perm _ hp]; exact h.pa c p, fun c p => by rw [← smB_nz (fPo0 c p) L, ← smB_perm _ hp]; exact h.go c p⟩
theorem seT_SeQ {L : List Ps} (h : ckP L = 0) (hl : L.length ≤ 400) : SeQ L (seT L) := by
  obtain ⟨X, e, hQ⟩ := PS_SeQ (seT_PS h) (RfI_of (ckP_zero h).1 hl)
  rw [List.nil_append] at e
  rw [e]
  exact SeQ_congr ((srt_perm L).filter _) hQ
/-- One row alone counts for a place. -/
theorem smB_row {φ : Ps → Int} {p c : ByteArray} (hφ : ∀ r : Ps, ¬ (r.c = c ∧ r.p = p) → φ r = 0) : ∀ {L : List Ps}, Dist L → ∀ {i : Nat}, i < L.length → (L.getD i ps0).c = c → (L.getD i ps0).p = p → smB φ L = φ (L.getD i ps0)
  | [], _, i, h, _, _ => by simp at h
  | x :: L, hD, 0, h, hc, hp => by
    have h0 : smB φ L = 0 := by
      have : ∀ y ∈ L, φ y = 0 := fun y hy => hφ y fun q => (List.pairwise_cons.1 hD).1 y hy ⟨hp.trans q.2.symm, hc.trans q.1.symm⟩
      clear hD h hc hp
      induction L with
      | nil => rfl
      | cons z L ih => simp only [smB]; rw [this z (by simp), ih (fun y hy => this y (by simp [hy]))]; rfl
    show φ x + smB φ L = φ x
    omega
  | x :: L, hD, i + 1, h, hc, hp => by
    have ih := smB_row hφ (List.pairwise_cons.1 hD).2 (i := i) (by simpa using h) hc hp
    have hx : φ x = 0 := hφ x fun q => (List.pairwise_cons.1 hD).1 (L.getD i ps0) (mem_getD.2 ⟨i, by simpa using h, rfl⟩) ⟨q.2.trans hp.symm, q.1.trans hc.symm⟩
    show φ x + smB φ L = φ (L.getD i ps0)
    omega
theorem voK_sum {T : List Tx} {c : ByteArray} (h : ∀ x ∈ T, 1 ≤ x.a ∧ x.a ≤ 4503599627370496 ∧ mchk x.a x.c = 0 ∧ x.f ≠ x.t) : ∀ k, k ≤ T.length → voK T c k = min (smT (gAm c) (T.take k)) 4503599627370496
  | 0, _ => rfl
  | k + 1, hk => by
    have ih := voK_sum (c := c) h k (by omega)
    have hx := h (T.getD k tx0) (by rw [List.getD, List.getElem?_eq_getElem (by omega)]; exact List.getElem_mem _)
    rw [smT_take (by omega)]
    simp only [voK]
    unfold gAm at *
    by_cases hc : (T.getD k tx0).c = c
    · rw [if_pos ⟨hx.2.2.1, by omega, hc⟩, if_pos hc, ih]; omega
    · rw [if_neg (fun q => hc q.2.2), if_neg hc, ih, Int.add_zero]
theorem apK_cons {L : List Ps} {x : Tx} {X : List Tx} (h : apE L x = 0) : ∀ k, apK L (x :: X) (k + 1) = apK (apN L x) X k
  | 0 => by
    show (if (0 : Int) ≠ 0 then _ else (apE L x, apN L x)) = (0, apN L x)
    rw [if_neg (by simp), h]
  | k + 1 => by
    have ih := apK_cons (X := X) h k
    have e1 : apK L (x :: X) (k + 2) = if (apK L (x :: X) (k + 1)).1 ≠ 0 then apK L (x :: X) (k + 1) else (apE (apK L (x :: X) (k + 1)).2 (X.getD k tx0), apN (apK L (x :: X) (k + 1)).2 (X.getD k tx0)) := rfl
    rw [e1, ih]; rfl
/-- The transfers settle any rows of which these are the ones that are not zero. -/
theorem PS_ap {R : List Ps} {T T' : List Tx} (h : PS R T T') : ∀ L : List Ps, Dist L → (∀ x ∈ L, nmB x.p = true ∧ mchk x.a x.c = 0) → (nz L).Perm R → ∃ X, T' = T ++ X ∧ (apK L X X.length).1 = 0 ∧ nz (apK L X X.length).2 = [] := by
  refine PS_rec (M := fun R T T' => ∀ L : List Ps, Dist L → (∀ x ∈ L, nmB x.p = true ∧ mchk x.a x.c = 0) → (nz L).Perm R → ∃ X, T' = T ++ X ∧ (apK L X X.length).1 = 0 ∧ nz (apK L X X.length).2 = []) (fun T L hD hok hp => ⟨[], by simp, rfl, List.perm_nil.1 hp⟩) (fun R T T' d e x hS hn ih L hD hok hp => ?_) h
  have hin : ∀ r, r ∈ R → r ∈ L := fun r hr => (nz_mem.1 (hp.symm.subset hr)).1
  obtain ⟨d', g1, g2⟩ := mem_getD.1 (hin _ (mem_getD.2 ⟨d, hS.d1, rfl⟩))
  obtain ⟨e', g3, g4⟩ := mem_getD.1 (hin _ (mem_getD.2 ⟨e, hS.e1, rfl⟩))
  have hdn := hS.dn
  have hep := hS.ep
  have hK : StepK L d' e' x := ⟨g1, g3, fun q => by subst q; rw [← g2] at hdn; rw [← g4] at hep; omega, by rw [g2]; exact hS.dk, by rw [g4]; exact hS.ek, by rw [g2]; exact hdn, by rw [g4]; exact hep, by rw [g2, g4]; exact hS.am⟩
  have hE := step_E hK hD hok
  have hN := (step_N hK hD).1
  have hp2 : (nz (upd L x)).Perm (nz (upd R x)) := by
    rw [nz_upd]
    · exact (hp.map (updF x)).filter _
    · intro r hr hz
      rintro ⟨q1, q2⟩
      obtain ⟨j, hj, rfl⟩ := mem_getD.1 hr
      rcases q2 with q2 | q2
      · have := dist_getD hD hj hK.d1 ⟨q2.trans hK.dk.1.symm, q1.trans hK.dk.2.symm⟩
        have := hK.dn
        subst j; omega
      · have := dist_getD hD hj hK.e1 ⟨q2.trans hK.ek.1.symm, q1.trans hK.ek.2.symm⟩
        have := hK.ep
        subst j; omega
  obtain ⟨X, e1, e2, e3⟩ := ih (upd L x) (upd_dist x hD) (upd_ok hK hD hok) hp2
  refine ⟨x :: X, by rw [e1]; simp, ?_, ?_⟩
  · rw [List.length_cons, apK_cons hE, hN]; exact e2
  · rw [List.length_cons, apK_cons hE, hN]; exact e3
theorem seT_va {L : List Ps} (h : ckP L = 0) (hl : L.length ≤ 400) : vaB L (seT L) = true := by
  obtain ⟨h1, h2⟩ := ckP_zero h
  have hok : ∀ x ∈ L, nmB x.p = true ∧ mchk x.a x.c = 0 := fun x hx => by
    obtain ⟨j, hj, rfl⟩ := mem_getD.1 hx
    have := erP_zero ((sgP_zero h1).2 j hj)
    exact ⟨this.1, this.2.1⟩
  obtain ⟨X, e, a1, a2⟩ := PS_ap (seT_PS h) L (sgP_dist h1) hok ((srt_perm L).symm.filter _)
  rw [List.nil_append] at e
  have hQ := seT_SeQ h hl
  rw [e] at hQ ⊢
  have he : apErr L X = 0 := by unfold apErr; rw [if_neg (fun q => q h1)]; exact a1
  unfold vaB
  rw [decide_eq_true_iff]
  refine ⟨h, fun j hj => ?_, he, ?_⟩
  · have := hQ.am (X.getD j tx0) (by rw [List.getD, List.getElem?_eq_getElem hj]; exact List.getElem_mem _)
    exact ⟨this.2.2.2, this.1⟩
  · unfold apRes
    rw [if_neg (fun q => q he), a2]
    exact congrArg List.length (srt_of (m := []) (List.Perm.refl _) List.Pairwise.nil)
end Go.Proofs.Ytmibjgblhaohiaa

/- Plain facts: what transfers do to sums, and transfers back. No program in sight. -/
namespace Go.Proofs.Ytmibjgblhaohiaa
open Go.RowKit Go.Sy
set_option linter.unusedVariables false
set_option linter.unusedSimpArgs false

/-- A count of rows that is linear in their amounts. -/
def LinF (φ : Ps → Int) : Prop := ∀ (p c : ByteArray) (a b : Int), φ ⟨p, a + b, c⟩ = φ ⟨p, a, c⟩ + φ ⟨p, b, c⟩
theorem lin0 {φ : Ps → Int} (h : LinF φ) (p c : ByteArray) : φ ⟨p, 0, c⟩ = 0 := by have := h p c 0 0; rw [show (0 : Int) + 0 = 0 from rfl] at this; omega
theorem linN {φ : Ps → Int} (h : LinF φ) (p c : ByteArray) (a : Int) : φ ⟨p, -a, c⟩ = -φ ⟨p, a, c⟩ := by
  have := h p c a (-a)
  rw [show a + -a = 0 by omega, lin0 h] at this; omega
def fCu (c : ByteArray) (r : Ps) : Int := if r.c = c then r.a else 0
def fAm (c p : ByteArray) (r : Ps) : Int := if r.c = c ∧ r.p = p then r.a else 0
theorem fCu_lin (c : ByteArray) : LinF (fCu c) := by intro p c' a b; unfold fCu; dsimp only; split <;> omega
theorem fAm_lin (c p : ByteArray) : LinF (fAm c p) := by intro p' c' a b; unfold fAm; dsimp only; split <;> omega
theorem fCu0 (c : ByteArray) (r : Ps) (h : r.a = 0) : fCu c r = 0 := by unfold fCu; rw [h]; split <;> rfl
theorem fAm0 (c p : ByteArray) (r : Ps) (h : r.a = 0) : fAm c p r = 0 := by unfold fAm; rw [h]; split <;> rfl
theorem smB_mvR {φ : Ps → Int} (h : LinF φ) (R : List Ps) (p c : ByteArray) (d : Int) : smB φ (mvR R p c d) = smB φ R + φ ⟨p, d, c⟩ := by
  have hle := ixL_le p c R
  by_cases hi : ixL R p c < R.length
  · have hat := ixL_at p c R hi
    have e : mvR R p c d = addA R (ixL R p c) d := by
      unfold mvR mvN addA
      rw [putL_lt hi]
      congr 1
      obtain ⟨h1, h2⟩ := hat
      generalize R.getD (ixL R p c) ps0 = r at *
      rw [← h1, ← h2]
    rw [e, smB_addA φ d _ _ hi]
    have := h (R.getD (ixL R p c) ps0).p (R.getD (ixL R p c) ps0).c (R.getD (ixL R p c) ps0).a d
    rw [hat.1, hat.2] at this
    have e2 : R.getD (ixL R p c) ps0 = ⟨p, (R.getD (ixL R p c) ps0).a, c⟩ := by
      obtain ⟨h1, h2⟩ := hat
      generalize R.getD (ixL R p c) ps0 = r at *
      obtain ⟨rp, ra, rc⟩ := r
      dsimp only at h1 h2
      rw [h1, h2]
    rw [e2]
    dsimp only
    rw [this]; omega
  · unfold mvR mvN
    rw [putL_new (show R.length = ixL R p c by omega), smB_append, List.getD, List.getElem?_eq_none (by omega)]
    show smB φ R + (φ ⟨p, 0 + d, c⟩ + 0) = _
    rw [Int.zero_add, Int.add_zero]
def dF2 (φ : Ps → Int) (x : Tx) : Int := φ ⟨x.f, x.a, x.c⟩ + φ ⟨x.t, -x.a, x.c⟩
theorem smB_apN {φ : Ps → Int} (h : LinF φ) (R : List Ps) (x : Tx) : smB φ (apN R x) = smB φ R + dF2 φ x := by
  unfold apN dF2
  rw [smB_mvR h, smB_mvR h]; omega
theorem smB_apK {φ : Ps → Int} (h : LinF φ) {L : List Ps} {T : List Tx} : ∀ k, k ≤ T.length → (apK L T k).1 = 0 → smB φ (apK L T k).2 = smB φ L + smT (dF2 φ) (T.take k)
  | 0, _, _ => by simp [apK, smT]
  | k + 1, hk, he => by
    have h0 := apK_zero he k (by omega)
    rw [apK_step h0, smT_take (by omega)]
    dsimp only
    rw [smB_apN h, smB_apK h k (by omega) h0]; omega
theorem dF2_cu (c : ByteArray) (x : Tx) : dF2 (fCu c) x = 0 := by unfold dF2 fCu; dsimp only; split <;> omega
theorem smT_zero {ψ : Tx → Int} (h : ∀ x, ψ x = 0) : ∀ T, smT ψ T = 0
  | [] => rfl
  | x :: T => by simp only [smT]; rw [h x, smT_zero h T]; rfl
/-- A place's amount. -/
theorem am_ix {R : List Ps} (hD : Dist R) (p c : ByteArray) : (R.getD (ixL R p c) ps0).a = smB (fAm c p) R := by
  have hle := ixL_le p c R
  by_cases hi : ixL R p c < R.length
  · have hat := ixL_at p c R hi
    rw [smB_row (φ := fAm c p) (fun r q => by unfold fAm; rw [if_neg q]) hD hi hat.1 hat.2]
    unfold fAm; rw [if_pos hat]
  · have hno : ∀ r ∈ R, fAm c p r = 0 := by
      intro r hr
      unfold fAm
      rw [if_neg]
      exact fun q => hi ((ixL_lt_iff p c R).2 ⟨r, hr, q.1, q.2⟩)
    rw [List.getD, List.getElem?_eq_none (by omega)]
    clear hi hle hD
    induction R with
    | nil => rfl
    | cons x R ih => simp only [smB]; rw [hno x (by simp), ← ih (fun r hr => hno r (by simp [hr]))]; rfl
theorem am_mem {R : List Ps} (hD : Dist R) {x : Ps} : x ∈ nz R ↔ x.a ≠ 0 ∧ smB (fAm x.c x.p) R = x.a := by
  rw [nz_mem]
  constructor
  · rintro ⟨h1, h2⟩
    obtain ⟨j, hj, rfl⟩ := mem_getD.1 h1
    refine ⟨h2, ?_⟩
    rw [smB_row (φ := fAm (R.getD j ps0).c (R.getD j ps0).p) (fun r q => by unfold fAm; rw [if_neg q]) hD hj rfl rfl]
    unfold fAm; rw [if_pos ⟨rfl, rfl⟩]
  · rintro ⟨h1, h2⟩
    refine ⟨?_, h1⟩
    rw [← am_ix hD] at h2
    by_cases hi : ixL R x.p x.c < R.length
    · have hat := ixL_at x.p x.c R hi
      refine mem_getD.2 ⟨_, hi, ?_⟩
      obtain ⟨q1, q2⟩ := hat
      generalize R.getD (ixL R x.p x.c) ps0 = r at *
      obtain ⟨rp, ra, rc⟩ := r
      obtain ⟨xp, xa, xc⟩ := x
      dsimp only at q1 q2 h2
      rw [q1, q2, h2]
    · rw [List.getD, List.getElem?_eq_none (by omega)] at h2
      exact absurd h2.symm h1
theorem asc_ext : ∀ {l m : List Ps}, Asc l → Asc m → (∀ x, x ∈ l ↔ x ∈ m) → l = m
  | [], [], _, _, _ => rfl
  | [], y :: m, _, _, h => by have := (h y).2 (by simp); simp at this
  | x :: l, [], _, _, h => by have := (h x).1 (by simp); simp at this
  | x :: l, y :: m, hl, hm, h => by
    obtain ⟨l1, l2⟩ := List.pairwise_cons.1 hl
    obtain ⟨m1, m2⟩ := List.pairwise_cons.1 hm
    have e : x = y := by
      rcases List.mem_cons.1 ((h x).1 (by simp)) with q | q
      · exact q
      · rcases List.mem_cons.1 ((h y).2 (by simp)) with q2 | q2
        · exact q2.symm
        · have a1 := l1 y q2
          have a2 := plt_asymm (m1 x q)
          rw [a1] at a2; cases a2
    subst e
    refine congrArg _ (asc_ext l2 m2 fun z => ?_)
    constructor
    · intro hz
      rcases List.mem_cons.1 ((h z).1 (by simp [hz])) with q | q
      · subst q; have := l1 z hz; rw [plt_irrefl] at this; cases this
      · exact q
    · intro hz
      rcases List.mem_cons.1 ((h z).2 (by simp [hz])) with q | q
      · subst q; have := m1 z hz; rw [plt_irrefl] at this; cases this
      · exact q
theorem srt_am {R S : List Ps} (hR : Dist R) (hS : Dist S) (h : ∀ c p, smB (fAm c p) R = smB (fAm c p) S) : srt (nz R) = srt (nz S) := by
  refine asc_ext (srt_asc (nz_dist hR)) (srt_asc (nz_dist hS)) fun x => ?_
  have e1 : x ∈ srt (nz R) ↔ x ∈ nz R := ⟨fun q => (srt_perm _).subset q, fun q => (srt_perm _).symm.subset q⟩
  have e2 : x ∈ srt (nz S) ↔ x ∈ nz S := ⟨fun q => (srt_perm _).subset q, fun q => (srt_perm _).symm.subset q⟩
  rw [e1, e2, am_mem hR, am_mem hS, h]
/-- Transfers back, the last one first. -/
def swT (x : Tx) : Tx := ⟨x.t, x.f, x.a, x.c⟩
def bkT (T : List Tx) : List Tx := T.reverse.map swT
theorem bkT_len (T : List Tx) : (bkT T).length = T.length := by simp [bkT]
theorem dF2_sw {φ : Ps → Int} (h : LinF φ) (x : Tx) : dF2 φ (swT x) = -dF2 φ x := by
  unfold dF2 swT
  dsimp only
  rw [linN h, linN h]; omega
theorem smT_bk {φ : Ps → Int} (h : LinF φ) : ∀ T, smT (dF2 φ) (bkT T) = -smT (dF2 φ) T
  | [] => rfl
  | x :: T => by
    have ih := smT_bk h T
    unfold bkT at *
    rw [List.reverse_cons, List.map_append, smT_append, ih]
    simp only [List.map_cons, List.map_nil, smT]
    rw [dF2_sw h]; omega
/-- Names and currencies of rows. -/
def NmOk (R : List Ps) : Prop := ∀ r ∈ R, nmB r.p = true ∧ curB r.c = true
theorem mvR_nm {R : List Ps} (h : NmOk R) {p c : ByteArray} (hp : nmB p = true) (hc : curB c = true) (d : Int) : NmOk (mvR R p c d) := by
  intro r hr
  unfold mvR putL at hr
  split at hr
  · rcases List.mem_or_eq_of_mem_set hr with q | rfl
    · exact h r q
    · exact ⟨hp, hc⟩
  · rcases List.mem_append.1 hr with q | q
    · exact h r q
    · rw [List.mem_singleton] at q; subst q; exact ⟨hp, hc⟩
theorem apK_nm {L : List Ps} {T : List Tx} (h : NmOk L) : ∀ k, (apK L T k).1 = 0 → NmOk (apK L T k).2
  | 0, _ => h
  | k + 1, he => by
    have h0 := apK_zero he k (by omega)
    have ih := apK_nm h k h0
    rw [apK_step h0] at he ⊢
    obtain ⟨z1, z2, z3, _, _⟩ := apE_zero he
    have hc := (mchk_bd z3).1
    exact mvR_nm (mvR_nm ih z1 hc _) z2 hc _
theorem nm_ok {R : List Ps} (h : NmOk R) (hb : ∀ k, inT (R.getD k ps0).a) : ∀ x ∈ R, nmB x.p = true ∧ mchk x.a x.c = 0 := by
  intro x hx
  have hb2 := bd_iff.1 hb x hx
  refine ⟨(h x hx).1, ?_⟩
  unfold mchk
  rw [if_neg (by rw [(h x hx).2]; simp), if_pos hb2]
abbrev sm40 (n : Int) : Prop := -1099511627776 ≤ n ∧ n ≤ 1099511627776
theorem smB_b40 {c p : ByteArray} : ∀ (L : List Ps), (∀ x ∈ L, sm40 x.a) → -(1099511627776 * (L.length : Int)) ≤ smB (fAm c p) L ∧ smB (fAm c p) L ≤ 1099511627776 * (L.length : Int)
  | [], _ => by simp [smB]
  | x :: L, h => by
    have ih := smB_b40 (c := c) (p := p) L (fun y hy => h y (by simp [hy]))
    have hx := h x (by simp)
    simp only [smB, List.length_cons]
    have : fAm c p x = x.a ∨ fAm c p x = 0 := by unfold fAm; split; exact .inl rfl; exact .inr rfl
    rcases this with q | q <;> rw [q] <;> omega
theorem smT_b40 {c p : ByteArray} : ∀ (T : List Tx), (∀ x ∈ T, sm40 x.a) → -(2199023255552 * (T.length : Int)) ≤ smT (dF2 (fAm c p)) T ∧ smT (dF2 (fAm c p)) T ≤ 2199023255552 * (T.length : Int)
  | [], _ => by simp [smT]
  | x :: T, h => by
    have ih := smT_b40 (c := c) (p := p) T (fun y hy => h y (by simp [hy]))
    have hx := h x (by simp)
    simp only [smT, List.length_cons]
    have : -2199023255552 ≤ dF2 (fAm c p) x ∧ dF2 (fAm c p) x ≤ 2199023255552 := by
      unfold dF2 fAm
      dsimp only
      split <;> split <;> omega
    omega
theorem bk_mem {T : List Tx} {x : Tx} (h : x ∈ bkT T) : ∃ y ∈ T, x = swT y := by
  obtain ⟨y, hy, rfl⟩ := List.mem_map.1 h
  exact ⟨y, List.mem_reverse.1 hy, rfl⟩
theorem apK_tx {L : List Ps} {T : List Tx} (h : (apK L T T.length).1 = 0) : ∀ x ∈ T, nmB x.f = true ∧ nmB x.t = true ∧ mchk x.a x.c = 0 := by
  intro x hx
  obtain ⟨j, hj, rfl⟩ := List.getElem_of_mem hx
  have h0 := apK_zero h j (by omega)
  have h1 := apK_zero h (j + 1) (by omega)
  rw [apK_step h0] at h1
  have := apE_zero h1
  rw [List.getD, List.getElem?_eq_getElem hj] at this
  exact ⟨this.1, this.2.1, this.2.2.1⟩
/-- Transfers of small amounts on rows of small amounts do not fail. -/
theorem apK_small {R : List Ps} {B : List Tx} (hR : RwOk R) (hB : ∀ x ∈ B, nmB x.f = true ∧ nmB x.t = true ∧ mchk x.a x.c = 0 ∧ sm40 x.a) (hA : ∀ c p, -(281474976710656 : Int) ≤ smB (fAm c p) R ∧ smB (fAm c p) R ≤ 281474976710656) (hl : B.length ≤ 64) : ∀ k, k ≤ B.length → (apK R B k).1 = 0
  | 0, _ => rfl
  | k + 1, hk => by
    have h0 := apK_small hR hB hA hl k (by omega)
    rw [apK_step h0]
    dsimp only
    have hok := (apK_ok hR h0).1
    have hx := hB (B.getD k tx0) (by rw [List.getD, List.getElem?_eq_getElem (by omega)]; exact List.getElem_mem _)
    have hs : ∀ c p, -(281474976710656 : Int) - 2199023255552 * 64 ≤ smB (fAm c p) (apK R B k).2 ∧ smB (fAm c p) (apK R B k).2 ≤ 281474976710656 + 2199023255552 * 64 := by
      intro c p
      rw [smB_apK (fAm_lin c p) k (by omega) h0]
      have h1 := hA c p
      have h2 := smT_b40 (c := c) (p := p) (B.take k) (fun x hx => (hB x (List.mem_of_mem_take hx)).2.2.2)
      rw [List.length_take, Nat.min_eq_left (by omega)] at h2
      omega
    generalize B.getD k tx0 = x at *
    generalize (apK R B k).2 = S at *
    obtain ⟨x1, x2, x3, x4⟩ := hx
    have e1 : mvN S x.f x.c x.a = smB (fAm x.c x.f) S + x.a := by unfold mvN; rw [am_ix hok.dist]
    have b1 := hs x.c x.f
    have i1 : inT (mvN S x.f x.c x.a) := ⟨by omega, by omega⟩
    have hok2 := mvR_ok hok x.f x.c i1
    have e2 : mvN (mvR S x.f x.c x.a) x.t x.c (-x.a) = smB (fAm x.c x.t) S + fAm x.c x.t ⟨x.f, x.a, x.c⟩ + -x.a := by unfold mvN; rw [am_ix hok2.dist, smB_mvR (fAm_lin _ _)]
    have b2 := hs x.c x.t
    have b3 : fAm x.c x.t ⟨x.f, x.a, x.c⟩ = x.a ∨ fAm x.c x.t ⟨x.f, x.a, x.c⟩ = 0 := by unfold fAm; split; exact .inl rfl; exact .inr rfl
    have i2 : inT (mvN (mvR S x.f x.c x.a) x.t x.c (-x.a)) := by rw [e2]; rcases b3 with q | q <;> rw [q] <;> exact ⟨by omega, by omega⟩
    unfold apE
    rw [if_neg (by rw [x1, x2]; simp), if_neg (by rw [x3]; simp), if_neg (fun q => q i1), if_neg (fun q => q i2)]
theorem apErr_zero {L : List Ps} {T : List Tx} (h : apErr L T = 0) : sgP L = 0 ∧ (apK L T T.length).1 = 0 := by
  unfold apErr at h
  split at h
  · rename_i q; exact absurd h q
  · rename_i q; exact ⟨Classical.not_not.1 q, h⟩
theorem nm_of {L : List Ps} (h : sgP L = 0) : NmOk L := by
  intro x hx
  obtain ⟨j, hj, rfl⟩ := mem_getD.1 hx
  have := erP_zero ((sgP_zero h).2 j hj)
  exact ⟨this.1, (mchk_bd this.2.1).1⟩
/-- Transfers back restore positions. -/
theorem bk_main {L : List Ps} {T : List Tx} (h : apErr L T = 0) (hL : L.length ≤ 40) (hT : T.length ≤ 60) (h1 : ∀ x ∈ L, sm40 x.a) (h2 : ∀ x ∈ T, sm40 x.a) : apErr L [] = 0 ∧ apErr (apRes L T) (bkT T) = 0 ∧ apRes (apRes L T) (bkT T) = apRes L [] ∧ (apRes L T).length ≤ 160 ∧ (∀ c, sumC (apRes L T) c = sumC L c) ∧ ∀ k, inT ((apRes L T).getD k ps0).a := by
  obtain ⟨g1, g2⟩ := apErr_zero h
  have hLo := sgP_rw g1
  obtain ⟨k1, k2⟩ := apK_ok hLo g2
  have hnm := apK_nm (nm_of g1) _ g2
  have htx := apK_tx g2
  have he0 : apErr L [] = 0 := by
    unfold apErr; rw [if_neg (fun q => q g1)]; rfl
  have hres : apRes L T = srt (nz (apK L T T.length).2) := by unfold apRes; rw [if_neg (fun q => q h)]
  have hres0 : apRes L [] = srt (nz L) := by unfold apRes; rw [if_neg (fun q => q he0)]; rfl
  have hpm : (apRes L T).Perm (nz (apK L T T.length).2) := by rw [hres]; exact srt_perm _
  have hsub : ∀ x ∈ apRes L T, x ∈ (apK L T T.length).2 := fun x hx => (nz_mem.1 (hpm.subset hx)).1
  have hD : Dist (apRes L T) := dist_perm hpm.symm (nz_dist k1.dist)
  have hbd : ∀ k, inT ((apRes L T).getD k ps0).a := bd_iff.2 fun x hx => bd_iff.1 k1.bd x (hsub x hx)
  have hlen : (apRes L T).length ≤ 160 := by
    have a1 := hpm.length_eq
    have a2 := nz_len (apK L T T.length).2
    omega
  have hok : ∀ x ∈ apRes L T, nmB x.p = true ∧ mchk x.a x.c = 0 := nm_ok (fun x hx => hnm x (hsub x hx)) hbd
  have hsg : sgP (apRes L T) = 0 := sgP_of (by omega) hD hok
  have hamR : ∀ c p, smB (fAm c p) (apRes L T) = smB (fAm c p) L + smT (dF2 (fAm c p)) T := by
    intro c p
    rw [smB_perm _ hpm, smB_nz (fAm0 c p), smB_apK (fAm_lin c p) _ (Nat.le_refl _) g2, List.take_length]
  have hbk : ∀ x ∈ bkT T, nmB x.f = true ∧ nmB x.t = true ∧ mchk x.a x.c = 0 ∧ sm40 x.a := by
    intro x hx
    obtain ⟨y, hy, rfl⟩ := bk_mem hx
    have := htx y hy
    exact ⟨this.2.1, this.1, this.2.2, h2 y hy⟩
  have hsm := apK_small (R := apRes L T) (B := bkT T) ⟨hD, hbd⟩ hbk (fun c p => by
    have a1 := smB_b40 (c := c) (p := p) L h1
    have a2 := smT_b40 (c := c) (p := p) T h2
    rw [hamR c p]
    omega) (by rw [bkT_len]; omega) _ (Nat.le_refl _)
  have heb : apErr (apRes L T) (bkT T) = 0 := by
    unfold apErr; rw [if_neg (fun q => q hsg)]; exact hsm
  refine ⟨he0, heb, ?_, hlen, fun c => ?_, hbd⟩
  · rw [hres0]
    have hkb := (apK_ok (L := apRes L T) ⟨hD, hbd⟩ hsm).1
    have hsA : ∀ c p, smB (fAm c p) (apK (apRes L T) (bkT T) (bkT T).length).2 = smB (fAm c p) L := by
      intro c p
      rw [smB_apK (fAm_lin c p) _ (Nat.le_refl _) hsm, List.take_length, smT_bk (fAm_lin c p), hamR c p]; omega
    have hfin := srt_am hkb.dist hLo.dist hsA
    unfold apRes at heb hfin ⊢
    rw [if_neg (fun q => q heb)]
    exact hfin
  · have e : ∀ (M : List Ps), sumC M c = smB (fCu c) M := by
      intro M
      induction M with
      | nil => rfl
      | cons x M ih => simp only [sumC, smB, ih]; rfl
    rw [e, e, smB_perm _ hpm, smB_nz (fCu0 c), smB_apK (fCu_lin c) _ (Nat.le_refl _) g2, smT_zero (dF2_cu c)]; omega
end Go.Proofs.Ytmibjgblhaohiaa

/- The law NettingBalance, on rows. -/
namespace Go.Proofs.Ytmibjgblhaohiaa
open Go.RowKit Go.Sy
attribute [local irreducible] vcall vloop vcallD retP
set_option maxRecDepth 100000
set_option linter.unusedVariables false
set_option linter.unusedSimpArgs false

theorem net_ApplyN (L : List Ps) (n : Nat) (hn : L.length = n) (hl : n ≤ 400) : FC Try.prog 2 10 [.sl 1 0 0 n, .nsl] [(1, some (.one true (psB n (pcOf L))))] (apOut L []) := by
  have h := fc_ext (H' := [(2, some (.one true (txB 0 (tcOf [])))), (1, some (.one true (psB n (pcOf L))))]) (hget_swap (by decide)) (net_Apply L [] n 0 hn rfl hl (by omega))
  exact fc_argnil (n := 2) (args := [.sl 1 0 0 n, .nsl]) (args1 := [.sl 1 0 0 n, .sl 2 0 0 0]) (cs := [.sc (.strs []), .sc (.strs []), .sc (.ints .i64 []), .sc (.strs [])]) rfl (by exact ⟨.inl rfl, .inr ⟨rfl, rfl⟩, trivial⟩) h
theorem bkT_take {T : List Tx} {k : Nat} (hk : k < T.length) : (bkT T).take (k + 1) = (bkT T).take k ++ [swT (T.getD (T.length - 1 - k) tx0)] := by
  have hl := bkT_len T
  rw [List.take_succ_eq_append_getElem (by omega)]
  congr 2
  unfold bkT
  rw [List.getElem_map, List.getElem_reverse, List.getD, List.getElem?_eq_getElem (by omega)]; rfl
theorem rowBk {T Q : List Tx} {k j : Nat} : (some (HB.one false (.cols (k + 1) [.sc (.strs ((tcOf Q).f ++ [(tcOf T).t.getD j ⟨#[]⟩])), .sc (.strs ((tcOf Q).t ++ [(tcOf T).f.getD j ⟨#[]⟩])), .sc (.ints .i64 ((tcOf Q).a ++ [(tcOf T).a.getD j 0])), .sc (.strs ((tcOf Q).c ++ [(tcOf T).c.getD j ⟨#[]⟩]))])) : Option HB) = some (.one false (txB (k + 1) (tcOf (Q ++ [swT (T.getD j tx0)])))) := by
  rw [(atT T j).1, (atT T j).2.1, (atT T j).2.2.1, (atT T j).2.2.2]
  exact rowTx2 (swT (T.getD j tx0))
theorem sumC_col {L : List Ps} {k : Nat} (hk : k < L.length) (c : ByteArray) : sumC (L.take (k + 1)) c = sumC (L.take k) c + if (pcOf L).c.getD k ⟨#[]⟩ = c then (pcOf L).a.getD k 0 else 0 := by
  rw [sumC_step hk, (atP L k).2.1, (atP L k).2.2]
set_option maxHeartbeats 2000000 in
theorem law_Balance (L : List Ps) (T : List Tx) (n m : Nat) (hn : L.length = n) (hm : T.length = m) : FC Try.prog 3 7 [.sl 1 0 0 n, .sl 2 0 0 m] [(1, some (.one true (psB n (pcOf L)))), (2, some (.one true (txB m (tcOf T))))] (isOut (.bool true) [] 3) := by
  have c0 := law_small L T n m hn hm
  have cw := law_awake
  by_cases hs : smL L T
  · rw [decide_eq_true hs] at c0
    have h1 := hs.1.1
    have h2 := hs.1.2
    have c1 := net_ApplyN L n hn (by omega)
    have c2 := net_Apply L T n m hn hm (by omega) (by omega)
    unfold apOut at c1 c2
    refine fc_of mixed T_ok Try.func7 rfl (by kernel_rfl) (by kernel_rfl) (by kernel_rfl) ?_
    repeat' ((conv => whnf); first | (refine vcall_out (l :=  [0, 1, 2]) (c0 ) ⟨rfl, rfl, rfl, rfl, (by (repeat' (first | exact trivial | exact GB_wf | exact fun _ _ => rfl | constructor)); first | done | fail), (by (repeat' (first | exact trivial | exact GB_fits rfl | constructor)); first | done | fail)⟩ ?_) | (refine vcall_pure (cw) rfl rfl rfl ?_) | (refine vcallD_pure (cw) rfl rfl rfl ?_) | (refine br_dec (fun h => ?_) (fun h => ?_) <;> try (exfalso; (try dsimp only at h); omega)) | (refine br_ndec (fun h => ?_) (fun h => ?_) <;> try (exfalso; (try dsimp only at h); omega)) | refine br_seq (fun h => ?_) (fun h => ?_) | refine br_nseq (fun h => ?_) (fun h => ?_) | refine br_not (fun h => ?_) (fun h => ?_) | refine br_intro (fun h => ?_) (fun h => ?_) | refine cond_intro rfl ?_ | (refine cond_intro ⟨rfl, ?_⟩ ?_; (first | omega | (dsimp only; omega) | decide)) | (refine cond_intro ?_ ?_; (first | omega | (dsimp only; omega) | decide | (simp only [Nat.add_zero, Int.toNat_natCast, *]; omega))))
    all_goals (conv => whnf)
    refine vloop_lp (fun i : Nat => ⟨[(0, .sl 1 0 0 n), (1, .sl 2 0 0 m), (5, .int .i64 i)], [(1, some (.one true (psB n (pcOf L)))), (2, some (.one true (txB m (tcOf T))))], 3⟩) (fun i => i ≤ n ∧ ∀ j, j < i → sm40 ((pcOf L).a.getD j 0)) (fun i => n - i) 0 [0, 1, 2] [] ⟨rfl, ⟨rfl, rfl, rfl, trivial⟩, ⟨rfl, rfl, trivial⟩⟩ ⟨Nat.zero_le _, fun j hj => by omega⟩ ?_
    rintro i ⟨hi, hia⟩
    by_cases hi2 : i < n
    · have hnx : sm40 ((pcOf L).a.getD i 0) → ∀ j, j < i + 1 → sm40 ((pcOf L).a.getD j 0) := fun h j hj => by
        by_cases e : j = i
        · subst e; exact h
        · exact hia j (by omega)
      repeat' ((conv => whnf); first | (refine vcall_pure (cw) rfl rfl rfl ?_) | (refine vcallD_pure (cw) rfl rfl rfl ?_) | (refine br_dec (fun h => ?_) (fun h => ?_) <;> try (exfalso; (try dsimp only at h); omega)) | (refine br_ndec (fun h => ?_) (fun h => ?_) <;> try (exfalso; (try dsimp only at h); omega)) | refine br_seq (fun h => ?_) (fun h => ?_) | refine br_nseq (fun h => ?_) (fun h => ?_) | refine br_not (fun h => ?_) (fun h => ?_) | refine br_intro (fun h => ?_) (fun h => ?_) | refine cond_intro rfl ?_ | (refine cond_intro ⟨rfl, ?_⟩ ?_; (first | omega | (dsimp only; omega) | decide)) | (refine cond_intro ?_ ?_; (first | omega | (dsimp only; omega) | decide | (simp only [Nat.add_zero, Int.toNat_natCast, *]; omega))))
      all_goals (conv => whnf)
      all_goals (try simp only [toNat0] at *)
      all_goals first
        | exact ret_out (l := [0, 1, 2]) rfl rfl trivial allRw_nil
        | (exfalso; first | omega | contradiction)
        | exact ⟨i + 1, [0, 1, 2], [], ⟨hi2, hnx ⟨by omega, by omega⟩⟩, (show n - (i + 1) < n - i by omega), ⟨rfl, ⟨rfl, rfl, congrArg (fun z => some (SV.int .i64 z)) (i64_succ (by omega)), trivial⟩, ⟨rfl, rfl, trivial⟩⟩⟩
        | trace_state
    · have e : i = n := by omega
      subst e
      repeat' ((conv => whnf); first | (refine vcall_pure (cw) rfl rfl rfl ?_) | (refine vcallD_pure (cw) rfl rfl rfl ?_) | (refine br_dec (fun h => ?_) (fun h => ?_) <;> try (exfalso; (try dsimp only at h); omega)) | (refine br_ndec (fun h => ?_) (fun h => ?_) <;> try (exfalso; (try dsimp only at h); omega)) | refine br_seq (fun h => ?_) (fun h => ?_) | refine br_nseq (fun h => ?_) (fun h => ?_) | refine br_not (fun h => ?_) (fun h => ?_) | refine br_intro (fun h => ?_) (fun h => ?_) | refine cond_intro rfl ?_ | (refine cond_intro ⟨rfl, ?_⟩ ?_; (first | omega | (dsimp only; omega) | decide)) | (refine cond_intro ?_ ?_; (first | omega | (dsimp only; omega) | decide | (simp only [Nat.add_zero, Int.toNat_natCast, *]; omega))))
      all_goals (conv => whnf)
      rw [w64_in (n := (m : Int) - 1) (by omega) (by omega)]
      refine vloop_lp (fun x : Nat × Nat => ⟨[(0, .sl 1 0 0 i), (1, .sl 2 0 0 m), (6, .sl 3 0 0 x.2), (7, .int .i64 ((x.1 : Int) - 1))], [(1, some (.one true (psB i (pcOf L)))), (2, some (.one true (txB m (tcOf T)))), (3, some (.one false (txB x.2 (tcOf ((bkT T).take x.2)))))], 4⟩) (fun x => x.1 + x.2 = m ∧ ∀ j, x.1 ≤ j → j < m → sm40 ((tcOf T).a.getD j 0)) (fun x => x.1) (m, 0) [0, 1, 2, 3] [.slot 6 [.sc (.strs []), .sc (.strs []), .sc (.ints .i64 []), .sc (.strs [])]] ⟨rfl, ⟨rfl, rfl, rfl, rfl, trivial⟩, ⟨rfl, rfl, rfl, trivial⟩⟩ ⟨rfl, fun j h1 h2 => by dsimp only at h1; omega⟩ ?_
      rintro ⟨j, k⟩ ⟨hjk, hjs⟩
      dsimp only at hjk hjs
      dsimp only
      cases j with
      | succ j =>
        have hE : (((j + 1 : Nat) : Int) - 1) = (j : Int) := by omega
        have hnx : sm40 ((tcOf T).a.getD j 0) → ∀ z, j ≤ z → z < m → sm40 ((tcOf T).a.getD z 0) := fun h z hz hz2 => by
          by_cases e : z = j
          · subst e; exact h
          · exact hjs z (by omega) hz2
        rw [hE]
        have htk := bkT_take (T := T) (k := k) (by omega)
        rw [show T.length - 1 - k = j by omega] at htk
        have hr := rowBk (Q := (bkT T).take k) (T := T) (k := k) (j := j)
        rw [← htk] at hr
        repeat' ((conv => whnf); first | (refine vcall_pure (cw) rfl rfl rfl ?_) | (refine vcallD_pure (cw) rfl rfl rfl ?_) | (refine br_dec (fun h => ?_) (fun h => ?_) <;> try (exfalso; (try dsimp only at h); omega)) | (refine br_ndec (fun h => ?_) (fun h => ?_) <;> try (exfalso; (try dsimp only at h); omega)) | refine br_seq (fun h => ?_) (fun h => ?_) | refine br_nseq (fun h => ?_) (fun h => ?_) | refine br_not (fun h => ?_) (fun h => ?_) | refine br_intro (fun h => ?_) (fun h => ?_) | refine cond_intro rfl ?_ | (refine cond_intro ⟨rfl, ?_⟩ ?_; (first | omega | (dsimp only; omega) | decide)) | (refine cond_intro ?_ ?_; (first | omega | (dsimp only; omega) | decide | (simp only [Nat.add_zero, Int.toNat_natCast, *]; omega))))
        all_goals (conv => whnf)
        all_goals (try simp only [toNat0] at *)
        all_goals first
          | exact ret_out (l := [0, 1, 2]) rfl rfl trivial allRw_nil
          | (exfalso; first | omega | contradiction)
          | exact ⟨(j, k + 1), [0, 1, 2, 5], [], ⟨by dsimp only; omega, hnx ⟨by omega, by omega⟩⟩, Nat.lt_succ_self _, ⟨rfl, ⟨rfl, rfl, rfl, congrArg (fun z => some (SV.int .i64 z)) (w64_in (by omega) (by omega)), trivial⟩, ⟨rfl, rfl, hr, trivial⟩⟩⟩
          | trace_state
      | zero =>
        have ek : k = m := by omega
        subst ek
        have eB : (bkT T).take k = bkT T := by rw [List.take_of_length_le]; rw [bkT_len]; omega
        rw [eB]
        have hL40 : ∀ x ∈ L, sm40 x.a := fun x hx => by
          obtain ⟨z, hz, rfl⟩ := mem_getD.1 hx
          have := hia z (by omega)
          rwa [(atP L z).2.1] at this
        have hT40 : ∀ x ∈ T, sm40 x.a := fun x hx => by
          obtain ⟨z, hz, rfl⟩ := List.getElem_of_mem hx
          have := hjs z (Nat.zero_le _) (by omega)
          rw [(atT T z).2.2.1, List.getD, List.getElem?_eq_getElem hz] at this
          exact this
        by_cases he : apErr L T ≠ 0
        · rw [if_pos he] at c2
          generalize apErr L T = er at *
          by_cases he1 : apErr L [] ≠ 0
          · rw [if_pos he1] at c1
            generalize apErr L [] = er1 at *
            repeat' ((conv => whnf); first | (refine vcall_out (l :=  [0, 1]) (c1 ) ⟨rfl, rfl, rfl, rfl, (by (repeat' (first | exact trivial | exact GB_wf | exact fun _ _ => rfl | constructor)); first | done | fail), (by (repeat' (first | exact trivial | exact GB_fits rfl | constructor)); first | done | fail)⟩ ?_) | (refine vcall_out (l :=  [0, 1, 2]) (c2 ) ⟨rfl, rfl, rfl, rfl, (by (repeat' (first | exact trivial | exact GB_wf | exact fun _ _ => rfl | constructor)); first | done | fail), (by (repeat' (first | exact trivial | exact GB_fits rfl | constructor)); first | done | fail)⟩ ?_) | (refine vcall_pure (cw) rfl rfl rfl ?_) | (refine vcallD_pure (cw) rfl rfl rfl ?_) | (refine br_dec (fun h => ?_) (fun h => ?_) <;> try (exfalso; (try dsimp only at h); omega)) | (refine br_ndec (fun h => ?_) (fun h => ?_) <;> try (exfalso; (try dsimp only at h); omega)) | refine br_seq (fun h => ?_) (fun h => ?_) | refine br_nseq (fun h => ?_) (fun h => ?_) | refine br_not (fun h => ?_) (fun h => ?_) | refine br_intro (fun h => ?_) (fun h => ?_) | refine cond_intro rfl ?_ | (refine cond_intro ⟨rfl, ?_⟩ ?_; (first | omega | (dsimp only; omega) | decide)) | (refine cond_intro ?_ ?_; (first | omega | (dsimp only; omega) | decide | (simp only [Nat.add_zero, Int.toNat_natCast, *]; omega))))
            all_goals (conv => whnf)
            all_goals first
              | exact ret_out (l := [0, 1, 2]) rfl rfl trivial allRw_nil
              | (exfalso; first | omega | contradiction)
              | trace_state
          · rw [if_neg he1] at c1
            generalize (apRes L []).length = r0 at *
            generalize apRes L [] = R0 at *
            repeat' ((conv => whnf); first | (refine vcall_out (l :=  [0, 1]) (c1 ) ⟨rfl, rfl, rfl, rfl, (by (repeat' (first | exact trivial | exact GB_wf | exact fun _ _ => rfl | constructor)); first | done | fail), (by (repeat' (first | exact trivial | exact GB_fits rfl | constructor)); first | done | fail)⟩ ?_) | (refine vcall_out (l :=  [0, 1, 2]) (c2 ) ⟨rfl, rfl, rfl, rfl, (by (repeat' (first | exact trivial | exact GB_wf | exact fun _ _ => rfl | constructor)); first | done | fail), (by (repeat' (first | exact trivial | exact GB_fits rfl | constructor)); first | done | fail)⟩ ?_) | (refine vcall_pure (cw) rfl rfl rfl ?_) | (refine vcallD_pure (cw) rfl rfl rfl ?_) | (refine br_dec (fun h => ?_) (fun h => ?_) <;> try (exfalso; (try dsimp only at h); omega)) | (refine br_ndec (fun h => ?_) (fun h => ?_) <;> try (exfalso; (try dsimp only at h); omega)) | refine br_seq (fun h => ?_) (fun h => ?_) | refine br_nseq (fun h => ?_) (fun h => ?_) | refine br_not (fun h => ?_) (fun h => ?_) | refine br_intro (fun h => ?_) (fun h => ?_) | refine cond_intro rfl ?_ | (refine cond_intro ⟨rfl, ?_⟩ ?_; (first | omega | (dsimp only; omega) | decide)) | (refine cond_intro ?_ ?_; (first | omega | (dsimp only; omega) | decide | (simp only [Nat.add_zero, Int.toNat_natCast, *]; omega))))
            all_goals (conv => whnf)
            all_goals first
              | exact ret_out (l := [0, 1, 2]) rfl rfl trivial allRw_nil
              | (exfalso; first | omega | contradiction)
              | trace_state
        · have he0 := Classical.not_not.1 he
          obtain ⟨b1, b2, b3, b4, b5, b6⟩ := bk_main he0 (by omega) (by omega) hL40 hT40
          have c3 := net_Apply (apRes L T) (bkT T) (apRes L T).length k rfl (by rw [bkT_len]; exact hm) (by omega) (by omega)
          unfold apOut at c3
          rw [if_neg (fun q => q b2), b3] at c3
          rw [if_neg (fun q => q b1)] at c1
          rw [if_neg he] at c2
          have hrl := apRes_len (T := []) (L := L) ⟨⟨by omega, Nat.zero_le _⟩, hs.2.1, fun j hj => by simp at hj⟩
          have c4 := r41_Same (apRes L []) (apRes L []).length hrl
          generalize (apRes L []).length = r0 at *
          generalize apRes L [] = R0 at *
          generalize hr1 : (apRes L T).length = r1 at *
          generalize apRes L T = R1 at *
          repeat' ((conv => whnf); first | (refine vcall_out (l :=  [0, 1]) (c1 ) ⟨rfl, rfl, rfl, rfl, (by (repeat' (first | exact trivial | exact GB_wf | exact fun _ _ => rfl | constructor)); first | done | fail), (by (repeat' (first | exact trivial | exact GB_fits rfl | constructor)); first | done | fail)⟩ ?_) | (refine vcall_out (l :=  [0, 1, 2]) (c2 ) ⟨rfl, rfl, rfl, rfl, (by (repeat' (first | exact trivial | exact GB_wf | exact fun _ _ => rfl | constructor)); first | done | fail), (by (repeat' (first | exact trivial | exact GB_fits rfl | constructor)); first | done | fail)⟩ ?_) | (refine vcall_out (l :=  [0, 6, 3]) (c3 ) ⟨rfl, rfl, rfl, rfl, (by (repeat' (first | exact trivial | exact GB_wf | exact fun _ _ => rfl | constructor)); first | done | fail), (by (repeat' (first | exact trivial | exact GB_fits rfl | constructor)); first | done | fail)⟩ ?_) | (refine vcall_out (l :=  [0, 7, 5]) (c4 ) ⟨rfl, rfl, rfl, rfl, (by (repeat' (first | exact trivial | exact GB_wf | exact fun _ _ => rfl | constructor)); first | done | fail), (by (repeat' (first | exact trivial | exact GB_fits rfl | constructor)); first | done | fail)⟩ ?_) | (refine vcallD_out (l :=  [0, 7, 5]) (c4 ) ⟨rfl, rfl, rfl, rfl, (by (repeat' (first | exact trivial | exact GB_wf | exact fun _ _ => rfl | constructor)); first | done | fail), (by (repeat' (first | exact trivial | exact GB_fits rfl | constructor)); first | done | fail)⟩ ?_) | (refine br_dec (fun h => ?_) (fun h => ?_) <;> try (exfalso; (try dsimp only at h); omega)) | (refine br_ndec (fun h => ?_) (fun h => ?_) <;> try (exfalso; (try dsimp only at h); omega)) | refine br_seq (fun h => ?_) (fun h => ?_) | refine br_nseq (fun h => ?_) (fun h => ?_) | refine br_not (fun h => ?_) (fun h => ?_) | refine br_intro (fun h => ?_) (fun h => ?_) | refine cond_intro rfl ?_ | (refine cond_intro ⟨rfl, ?_⟩ ?_; (first | omega | (dsimp only; omega) | decide)) | (refine cond_intro ?_ ?_; (first | omega | (dsimp only; omega) | decide | (simp only [Nat.add_zero, Int.toNat_natCast, *]; omega))))
          all_goals (conv => whnf)
          all_goals first
            | (exfalso; first | omega | contradiction)
            | skip
          have hbL : ∀ z, z < L.length → -4503599627370496 ≤ (L.getD z ps0).a ∧ (L.getD z ps0).a ≤ 4503599627370496 := fun z hz => by
            have := hL40 _ (mem_getD.2 ⟨z, hz, rfl⟩)
            omega
          have hbR : ∀ z, z < R1.length → -4503599627370496 ≤ (R1.getD z ps0).a ∧ (R1.getD z ps0).a ≤ 4503599627370496 := fun z _ => b6 z
          clear c0 c1 c2 c3 c4 b1 b2 b3
          refine vloop_lp (fun z : Nat => ⟨[(0, .sl 1 0 0 i), (10, .sl 3 0 0 r1), (14, .int .i64 z)], [(1, some (.one true (psB i (pcOf L)))), (3, some (.one false (psB r1 (pcOf R1))))], 4⟩) (fun z => z ≤ i) (fun z => i - z) 0 [0, 1, 2, 6] [] ⟨rfl, ⟨rfl, rfl, rfl, trivial⟩, ⟨rfl, rfl, trivial⟩⟩ (Nat.zero_le _) ?_
          intro z hz
          by_cases hz2 : z < i
          · generalize hcc : (pcOf L).c.getD z ⟨#[]⟩ = c at *
            repeat' ((conv => whnf); first | (refine br_dec (fun h => ?_) (fun h => ?_) <;> try (exfalso; (try dsimp only at h); omega)) | (refine br_ndec (fun h => ?_) (fun h => ?_) <;> try (exfalso; (try dsimp only at h); omega)) | refine br_seq (fun h => ?_) (fun h => ?_) | refine br_nseq (fun h => ?_) (fun h => ?_) | refine br_not (fun h => ?_) (fun h => ?_) | refine br_intro (fun h => ?_) (fun h => ?_) | refine cond_intro rfl ?_ | (refine cond_intro ⟨rfl, ?_⟩ ?_; (first | omega | (dsimp only; omega) | decide)) | (refine cond_intro ?_ ?_; (first | omega | (dsimp only; omega) | decide | (simp only [Nat.add_zero, Int.toNat_natCast, *]; omega))))
            all_goals (conv => whnf)
            all_goals (try simp only [toNat0] at *)
            all_goals first
              | (exfalso; omega)
              | skip
            refine vloop_lp (fun y : Nat => ⟨[(0, .sl 1 0 0 i), (10, .sl 3 0 0 r1), (14, .int .i64 z), (15, .int .i64 (sumC (L.take y) c)), (16, .int .i64 0), (17, .int .i64 y)], [(1, some (.one true (psB i (pcOf L)))), (3, some (.one false (psB r1 (pcOf R1))))], 4⟩) (fun y => y ≤ i) (fun y => i - y) 0 [0, 1, 2, 3] [] ⟨rfl, ⟨rfl, rfl, rfl, rfl, rfl, rfl, trivial⟩, ⟨rfl, rfl, trivial⟩⟩ (Nat.zero_le _) ?_
            intro y hy
            by_cases hy2 : y < i
            · have t1 := sumC_col (L := L) (k := y) (by omega) c
              have u1 := sumC_bd hbL c y (by omega)
              have hbk := hbL y (by omega)
              rw [← (atP L y).2.1] at hbk
              generalize sumC (L.take y) c = s1 at *
              generalize hn1 : sumC (L.take (y + 1)) c = n1 at *
              by_cases q1 : (pcOf L).c.getD y ⟨#[]⟩ = (pcOf L).c.getD z ⟨#[]⟩
              · rw [if_pos (q1.trans hcc)] at t1
                have e1 : (some (SV.int .i64 (IntKind.i64.wrap (s1 + (pcOf L).a.getD y 0))) : Option SV) = some (SV.int .i64 n1) := congrArg (fun z => some (SV.int .i64 z)) (by rw [w64_in (by omega) (by omega)]; omega)
                repeat' ((conv => whnf); first | (refine br_dec (fun h => ?_) (fun h => ?_) <;> try (exfalso; (try dsimp only at h); omega)) | (refine br_ndec (fun h => ?_) (fun h => ?_) <;> try (exfalso; (try dsimp only at h); omega)) | refine br_seq (fun h => ?_) (fun h => ?_) | refine br_nseq (fun h => ?_) (fun h => ?_) | refine br_not (fun h => ?_) (fun h => ?_) | refine br_intro (fun h => ?_) (fun h => ?_) | refine cond_intro rfl ?_ | (refine cond_intro ⟨rfl, ?_⟩ ?_; (first | omega | (dsimp only; omega) | decide)) | (refine cond_intro ?_ ?_; (first | omega | (dsimp only; omega) | decide | (simp only [Nat.add_zero, Int.toNat_natCast, *]; omega))))
                all_goals (conv => whnf)
                all_goals (try simp only [toNat0] at *)
                all_goals first
                  | (exfalso; first | omega | contradiction)
                  | exact ⟨y + 1, [0, 1, 2, 3], [], hy2, (show i - (y + 1) < i - y by omega), ⟨rfl, ⟨rfl, rfl, rfl, e1.trans (congrArg (fun z => some (SV.int .i64 z)) hn1.symm), rfl, congrArg (fun z => some (SV.int .i64 z)) (i64_succ (by omega)), trivial⟩, ⟨rfl, rfl, trivial⟩⟩⟩
                  | trace_state
              · rw [if_neg (fun q => q1 (q.trans hcc.symm))] at t1
                have e1 : (some (SV.int .i64 s1) : Option SV) = some (SV.int .i64 n1) := congrArg (fun z => some (SV.int .i64 z)) (by omega)
                repeat' ((conv => whnf); first | (refine br_dec (fun h => ?_) (fun h => ?_) <;> try (exfalso; (try dsimp only at h); omega)) | (refine br_ndec (fun h => ?_) (fun h => ?_) <;> try (exfalso; (try dsimp only at h); omega)) | refine br_seq (fun h => ?_) (fun h => ?_) | refine br_nseq (fun h => ?_) (fun h => ?_) | refine br_not (fun h => ?_) (fun h => ?_) | refine br_intro (fun h => ?_) (fun h => ?_) | refine cond_intro rfl ?_ | (refine cond_intro ⟨rfl, ?_⟩ ?_; (first | omega | (dsimp only; omega) | decide)) | (refine cond_intro ?_ ?_; (first | omega | (dsimp only; omega) | decide | (simp only [Nat.add_zero, Int.toNat_natCast, *]; omega))))
                all_goals (conv => whnf)
                all_goals (try simp only [toNat0] at *)
                all_goals first
                  | (exfalso; first | omega | contradiction)
                  | exact ⟨y + 1, [0, 1, 2, 3], [], hy2, (show i - (y + 1) < i - y by omega), ⟨rfl, ⟨rfl, rfl, rfl, e1.trans (congrArg (fun z => some (SV.int .i64 z)) hn1.symm), rfl, congrArg (fun z => some (SV.int .i64 z)) (i64_succ (by omega)), trivial⟩, ⟨rfl, rfl, trivial⟩⟩⟩
                  | trace_state
            · have ey : y = i := by omega
              subst ey
              repeat' ((conv => whnf); first | (refine br_dec (fun h => ?_) (fun h => ?_) <;> try (exfalso; (try dsimp only at h); omega)) | (refine br_ndec (fun h => ?_) (fun h => ?_) <;> try (exfalso; (try dsimp only at h); omega)) | refine br_seq (fun h => ?_) (fun h => ?_) | refine br_nseq (fun h => ?_) (fun h => ?_) | refine br_not (fun h => ?_) (fun h => ?_) | refine br_intro (fun h => ?_) (fun h => ?_) | refine cond_intro rfl ?_ | (refine cond_intro ⟨rfl, ?_⟩ ?_; (first | omega | (dsimp only; omega) | decide)) | (refine cond_intro ?_ ?_; (first | omega | (dsimp only; omega) | decide | (simp only [Nat.add_zero, Int.toNat_natCast, *]; omega))))
              all_goals (conv => whnf)
              all_goals first
                | (exfalso; omega)
                | skip
              refine vloop_lp (fun x : Nat => ⟨[(0, .sl 1 0 0 y), (10, .sl 3 0 0 r1), (14, .int .i64 z), (15, .int .i64 (sumC (L.take y) c)), (16, .int .i64 (sumC (R1.take x) c)), (18, .int .i64 x)], [(1, some (.one true (psB y (pcOf L)))), (3, some (.one false (psB r1 (pcOf R1))))], 4⟩) (fun x => x ≤ r1) (fun x => r1 - x) 0 [0, 1, 2, 3] [] ⟨rfl, ⟨rfl, rfl, rfl, rfl, rfl, rfl, trivial⟩, ⟨rfl, rfl, trivial⟩⟩ (Nat.zero_le _) ?_
              intro x hx
              by_cases hx2 : x < r1
              · have t1 := sumC_col (L := R1) (k := x) (by omega) c
                have u1 := sumC_bd hbR c x (by omega)
                have hbk := hbR x (by omega)
                rw [← (atP R1 x).2.1] at hbk
                generalize sumC (R1.take x) c = s1 at *
                generalize hn1 : sumC (R1.take (x + 1)) c = n1 at *
                by_cases q1 : (pcOf R1).c.getD x ⟨#[]⟩ = (pcOf L).c.getD z ⟨#[]⟩
                · rw [if_pos (q1.trans hcc)] at t1
                  have e1 : (some (SV.int .i64 (IntKind.i64.wrap (s1 + (pcOf R1).a.getD x 0))) : Option SV) = some (SV.int .i64 n1) := congrArg (fun z => some (SV.int .i64 z)) (by rw [w64_in (by omega) (by omega)]; omega)
                  repeat' ((conv => whnf); first | (refine br_dec (fun h => ?_) (fun h => ?_) <;> try (exfalso; (try dsimp only at h); omega)) | (refine br_ndec (fun h => ?_) (fun h => ?_) <;> try (exfalso; (try dsimp only at h); omega)) | refine br_seq (fun h => ?_) (fun h => ?_) | refine br_nseq (fun h => ?_) (fun h => ?_) | refine br_not (fun h => ?_) (fun h => ?_) | refine br_intro (fun h => ?_) (fun h => ?_) | refine cond_intro rfl ?_ | (refine cond_intro ⟨rfl, ?_⟩ ?_; (first | omega | (dsimp only; omega) | decide)) | (refine cond_intro ?_ ?_; (first | omega | (dsimp only; omega) | decide | (simp only [Nat.add_zero, Int.toNat_natCast, *]; omega))))
                  all_goals (conv => whnf)
                  all_goals (try simp only [toNat0] at *)
                  all_goals first
                    | (exfalso; first | omega | contradiction)
                    | exact ⟨x + 1, [0, 1, 2, 3], [], hx2, (show r1 - (x + 1) < r1 - x by omega), ⟨rfl, ⟨rfl, rfl, rfl, rfl, e1.trans (congrArg (fun z => some (SV.int .i64 z)) hn1.symm), congrArg (fun z => some (SV.int .i64 z)) (i64_succ (by omega)), trivial⟩, ⟨rfl, rfl, trivial⟩⟩⟩
                    | trace_state
                · rw [if_neg (fun q => q1 (q.trans hcc.symm))] at t1
                  have e1 : (some (SV.int .i64 s1) : Option SV) = some (SV.int .i64 n1) := congrArg (fun z => some (SV.int .i64 z)) (by omega)
                  repeat' ((conv => whnf); first | (refine br_dec (fun h => ?_) (fun h => ?_) <;> try (exfalso; (try dsimp only at h); omega)) | (refine br_ndec (fun h => ?_) (fun h => ?_) <;> try (exfalso; (try dsimp only at h); omega)) | refine br_seq (fun h => ?_) (fun h => ?_) | refine br_nseq (fun h => ?_) (fun h => ?_) | refine br_not (fun h => ?_) (fun h => ?_) | refine br_intro (fun h => ?_) (fun h => ?_) | refine cond_intro rfl ?_ | (refine cond_intro ⟨rfl, ?_⟩ ?_; (first | omega | (dsimp only; omega) | decide)) | (refine cond_intro ?_ ?_; (first | omega | (dsimp only; omega) | decide | (simp only [Nat.add_zero, Int.toNat_natCast, *]; omega))))
                  all_goals (conv => whnf)
                  all_goals (try simp only [toNat0] at *)
                  all_goals first
                    | (exfalso; first | omega | contradiction)
                    | exact ⟨x + 1, [0, 1, 2, 3], [], hx2, (show r1 - (x + 1) < r1 - x by omega), ⟨rfl, ⟨rfl, rfl, rfl, rfl, e1.trans (congrArg (fun z => some (SV.int .i64 z)) hn1.symm), congrArg (fun z => some (SV.int .i64 z)) (i64_succ (by omega)), trivial⟩, ⟨rfl, rfl, trivial⟩⟩⟩
                    | trace_state
              · have ex : x = r1 := by omega
                subst ex
                rw [show L.take y = L by rw [← hn, List.take_length], show R1.take x = R1 by rw [← hr1, List.take_length], b5 c]
                repeat' ((conv => whnf); first | (refine br_dec (fun h => ?_) (fun h => ?_) <;> try (exfalso; (try dsimp only at h); omega)) | (refine br_ndec (fun h => ?_) (fun h => ?_) <;> try (exfalso; (try dsimp only at h); omega)) | refine br_seq (fun h => ?_) (fun h => ?_) | refine br_nseq (fun h => ?_) (fun h => ?_) | refine br_not (fun h => ?_) (fun h => ?_) | refine br_intro (fun h => ?_) (fun h => ?_) | refine cond_intro rfl ?_ | (refine cond_intro ⟨rfl, ?_⟩ ?_; (first | omega | (dsimp only; omega) | decide)) | (refine cond_intro ?_ ?_; (first | omega | (dsimp only; omega) | decide | (simp only [Nat.add_zero, Int.toNat_natCast, *]; omega))))
                all_goals (conv => whnf)
                all_goals first
                  | (exfalso; first | omega | contradiction)
                  | exact ⟨z + 1, [0, 1, 2, 3], [], hz2, (show y - (z + 1) < y - z by omega), ⟨rfl, ⟨rfl, rfl, congrArg (fun z => some (SV.int .i64 z)) (i64_succ (by omega)), trivial⟩, ⟨rfl, rfl, trivial⟩⟩⟩
                  | trace_state
          · have e : z = i := by omega
            subst e
            repeat' ((conv => whnf); first | (refine vcall_pure (cw) rfl rfl rfl ?_) | (refine vcallD_pure (cw) rfl rfl rfl ?_) | (refine br_dec (fun h => ?_) (fun h => ?_) <;> try (exfalso; (try dsimp only at h); omega)) | (refine br_ndec (fun h => ?_) (fun h => ?_) <;> try (exfalso; (try dsimp only at h); omega)) | refine br_seq (fun h => ?_) (fun h => ?_) | refine br_nseq (fun h => ?_) (fun h => ?_) | refine br_not (fun h => ?_) (fun h => ?_) | refine br_intro (fun h => ?_) (fun h => ?_) | refine cond_intro rfl ?_ | (refine cond_intro ⟨rfl, ?_⟩ ?_; (first | omega | (dsimp only; omega) | decide)) | (refine cond_intro ?_ ?_; (first | omega | (dsimp only; omega) | decide | (simp only [Nat.add_zero, Int.toNat_natCast, *]; omega))))
            all_goals (conv => whnf)
            all_goals first
              | exact ret_out (l := [0, 1, 2]) rfl rfl trivial allRw_nil
              | (exfalso; first | omega | contradiction)
              | trace_state
  · rw [decide_eq_false hs] at c0
    refine fc_of mixed T_ok Try.func7 rfl (by kernel_rfl) (by kernel_rfl) (by kernel_rfl) ?_
    repeat' ((conv => whnf); first | (refine vcall_out (l :=  [0, 1, 2]) (c0 ) ⟨rfl, rfl, rfl, rfl, (by (repeat' (first | exact trivial | exact GB_wf | exact fun _ _ => rfl | constructor)); first | done | fail), (by (repeat' (first | exact trivial | exact GB_fits rfl | constructor)); first | done | fail)⟩ ?_) | (refine vcall_pure (cw) rfl rfl rfl ?_) | (refine vcallD_pure (cw) rfl rfl rfl ?_) | (refine br_dec (fun h => ?_) (fun h => ?_) <;> try (exfalso; (try dsimp only at h); omega)) | (refine br_ndec (fun h => ?_) (fun h => ?_) <;> try (exfalso; (try dsimp only at h); omega)) | refine br_seq (fun h => ?_) (fun h => ?_) | refine br_nseq (fun h => ?_) (fun h => ?_) | refine br_not (fun h => ?_) (fun h => ?_) | refine br_intro (fun h => ?_) (fun h => ?_) | refine cond_intro rfl ?_ | (refine cond_intro ⟨rfl, ?_⟩ ?_; (first | omega | (dsimp only; omega) | decide)) | (refine cond_intro ?_ ?_; (first | omega | (dsimp only; omega) | decide | (simp only [Nat.add_zero, Int.toNat_natCast, *]; omega))))
    all_goals (conv => whnf)
    all_goals first
      | exact ret_out (l := [0, 1, 2]) rfl rfl trivial allRw_nil
      | trace_state
end Go.Proofs.Ytmibjgblhaohiaa

/- The law NettingBalance: transfers do not change sums, and transfers back restore positions; for all arguments. -/
namespace Go.Proofs.Ytmibjgblhaohiaa
open Go.RowKit Go.Sy
set_option linter.unusedVariables false

theorem nettingBalance_fc (l0 : Nat) (hl0 : l0 ≤ maxLen) (q0_0 : List ByteArray) (eq0_0 : q0_0.length = l0) (wq0_0 : ∀ x ∈ q0_0, x.size ≤ maxLen) (q0_1 : List Int) (eq0_1 : q0_1.length = l0) (wq0_1 : ∀ x ∈ q0_1, (Lit.int .i64 x).wf = true) (q0_2 : List ByteArray) (eq0_2 : q0_2.length = l0) (wq0_2 : ∀ x ∈ q0_2, x.size ≤ maxLen) (l1 : Nat) (hl1 : l1 ≤ maxLen) (q1_0 : List ByteArray) (eq1_0 : q1_0.length = l1) (wq1_0 : ∀ x ∈ q1_0, x.size ≤ maxLen) (q1_1 : List ByteArray) (eq1_1 : q1_1.length = l1) (wq1_1 : ∀ x ∈ q1_1, x.size ≤ maxLen) (q1_2 : List Int) (eq1_2 : q1_2.length = l1) (wq1_2 : ∀ x ∈ q1_2, (Lit.int .i64 x).wf = true) (q1_3 : List ByteArray) (eq1_3 : q1_3.length = l1) (wq1_3 : ∀ x ∈ q1_3, x.size ≤ maxLen) :
    FC Try.prog 3 7 [.sl 1 0 0 l0, .sl 2 0 0 l1] [(1, some (.one true (.cols l0 [.sc (.strs q0_0), .sc (.ints .i64 q0_1), .sc (.strs q0_2)]))), (2, some (.one true (.cols l1 [.sc (.strs q1_0), .sc (.strs q1_1), .sc (.ints .i64 q1_2), .sc (.strs q1_3)])))] (isOut (.bool true) [] 3) := by
  obtain ⟨L, hL, eL⟩ := mkPs q0_0 q0_1 q0_2 l0 eq0_0 eq0_1 eq0_2
  obtain ⟨T, hT, eT⟩ := mkTx q1_0 q1_1 q1_2 q1_3 l1 eq1_0 eq1_1 eq1_2 eq1_3
  have h := law_Balance L T l0 l1 hL hT
  unfold psB txB at h
  rw [eL, eT] at h
  exact h
end Go.Proofs.Ytmibjgblhaohiaa

