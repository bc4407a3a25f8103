/- Plain facts on the counts of a router. No program in sight. -/
import Derived.Test.YtkmbnniikncaiaaRtF
import Derived.Test.YtkmbnniikncaiaaSidx
namespace Go.Proofs.Ytkmbnniikncaiaa
open Go.RowKit Go.Sy
set_option linter.unusedVariables false
set_option linter.unusedSimpArgs false

/-- The counts are given by a function of the party. -/
abbrev dOf (d0 : Rt) (c : ByteArray → Int) : Rt := ⟨d0.L, d0.m, d0.bi, d0.bp, d0.f, d0.n, d0.ks, d0.ks.map c, d0.bs, d0.ck⟩
structure RWf (d : Rt) : Prop where
  k : d.ks.length = d.n
  nd : d.ks.Nodup
theorem sidx_map {ks : List ByteArray} {c : ByteArray → Int} {p : ByteArray} (h : p ∈ ks) : (ks.map c).getD (sidx ks p) 0 = c p := by
  have := sidx_get (sidx_lt.2 h)
  simp [List.getD, this]
theorem map_set {ks : List ByteArray} (hd : ks.Nodup) {c c' : ByteArray → Int} {p : ByteArray} (h : p ∈ ks) (hc : ∀ q, q ∈ ks → q ≠ p → c' q = c q) : putL (sidx ks p) (c' p) (ks.map c) = ks.map c' := by
  unfold putL
  rw [if_pos (by simpa using sidx_lt.2 h)]
  refine List.ext_getElem (by simp) fun i h1 h2 => ?_
  rw [List.getElem_set]
  have hi : i < ks.length := by simpa using h2
  by_cases e : sidx ks p = i
  · have := sidx_get (sidx_lt.2 h)
    rw [e, List.getElem?_eq_getElem hi] at this
    cases this
    rw [if_pos e]; simp
  · rw [if_neg e]
    simp only [List.getElem_map]
    refine (hc _ (List.getElem_mem hi) fun e2 => e ?_).symm
    exact sidx_of_get hd (by rw [List.getElem?_eq_getElem hi, e2])
theorem put_D {r d : Rt} {c c' : ByteArray → Int} (hw : RWf d) {p : ByteArray} (h : p ∈ d.ks) (hc : ∀ q, q ∈ d.ks → q ≠ p → c' q = c q) : (mkR r.L r.m r.bi r.bp r.f (dOf d c)).put p (c' p) = mkR r.L r.m r.bi r.bp r.f (dOf d c') := by
  have hlt : sidx d.ks p < d.n := by rw [← hw.k]; exact sidx_lt.2 h
  unfold Rt.put
  dsimp only
  rw [if_pos hlt, if_pos hlt, if_pos hlt, put_key, if_pos (sidx_lt.2 h), map_set hw.nd h hc]
def cnF (q : List ByteArray) (p : ByteArray) : Nat → Nat
  | 0 => 0
  | k + 1 => if seq (q.getD k ⟨#[]⟩) p = true then cnF q p k + 1 else cnF q p k
theorem cnF_le (q : List ByteArray) (p : ByteArray) : ∀ k, cnF q p k ≤ k
  | 0 => Nat.le_refl _
  | k + 1 => by
    have := cnF_le q p k
    simp only [cnF]
    split <;> omega
theorem cnF_yes {q : List ByteArray} {p : ByteArray} {k : Nat} (h : q.getD k ⟨#[]⟩ = p) : cnF q p (k + 1) = cnF q p k + 1 := by
  simp only [cnF]; rw [if_pos (seq_iff.2 h)]
theorem cnF_no {q : List ByteArray} {p : ByteArray} {k : Nat} (h : ¬ q.getD k ⟨#[]⟩ = p) : cnF q p (k + 1) = cnF q p k := by
  simp only [cnF]; rw [if_neg (fun e => h (seq_iff.1 e))]
def cF (q : List ByteArray) (f : Int) (i : Nat) (p : ByteArray) : Int := min (cnF q p i : Int) f
theorem fl_known {r d : Rt} (hw : RWf d) {q : List ByteArray} {i : Nat} (hf : 1 ≤ r.f) (hf2 : r.f ≤ 100) (hi : i ≤ 100) (h : q.getD i ⟨#[]⟩ ∈ d.ks) : (mkR r.L r.m r.bi r.bp r.f (dOf d (cF q r.f i))).fl (q.getD i ⟨#[]⟩) = mkR r.L r.m r.bi r.bp r.f (dOf d (cF q r.f (i + 1))) := by
  have hlt : sidx d.ks (q.getD i ⟨#[]⟩) < d.n := by rw [← hw.k]; exact sidx_lt.2 h
  have hle := cnF_le q (q.getD i ⟨#[]⟩) i
  unfold Rt.fl
  dsimp only
  rw [if_pos hlt, sidx_map h]
  have e : min (IntKind.i64.wrap (cF q r.f i (q.getD i ⟨#[]⟩) + 1)) r.f = cF q r.f (i + 1) (q.getD i ⟨#[]⟩) := by
    unfold cF
    rw [cnF_yes rfl, w64_in (by omega) (by omega)]
    omega
  rw [e]
  exact put_D hw h fun x hx hne => by unfold cF; rw [cnF_no (fun e => hne e.symm)]
theorem fl_none {r d : Rt} (hw : RWf d) {q : List ByteArray} {i : Nat} (h : ¬ q.getD i ⟨#[]⟩ ∈ d.ks) : (mkR r.L r.m r.bi r.bp r.f (dOf d (cF q r.f i))).fl (q.getD i ⟨#[]⟩) = mkR r.L r.m r.bi r.bp r.f (dOf d (cF q r.f (i + 1))) := by
  have hlt : ¬ sidx d.ks (q.getD i ⟨#[]⟩) < d.n := by rw [← hw.k]; exact fun e => h (sidx_lt.1 e)
  unfold Rt.fl
  dsimp only
  rw [if_neg hlt]
  have : d.ks.map (cF q r.f i) = d.ks.map (cF q r.f (i + 1)) := List.map_congr_left fun x hx => by
    unfold cF
    rw [cnF_no (fun e => h (by rw [e]; exact hx))]
  unfold dOf
  rw [this]
theorem dn_D {r d : Rt} (hw : RWf d) {c : ByteArray → Int} {p : ByteArray} (h : p ∈ d.ks) : (mkR r.L r.m r.bi r.bp r.f (dOf d c)).dn p = decide (r.f ≤ c p) := by
  have hlt : sidx d.ks p < d.n := by rw [← hw.k]; exact sidx_lt.2 h
  unfold Rt.dn
  dsimp only
  rw [sidx_map h]
  exact decide_eq_decide.2 ⟨fun x => x.2, fun x => ⟨hlt, x⟩⟩
theorem dn_none {r d : Rt} (hw : RWf d) {c : ByteArray → Int} {p : ByteArray} (h : ¬ p ∈ d.ks) : (mkR r.L r.m r.bi r.bp r.f (dOf d c)).dn p = false := by
  have hlt : ¬ sidx d.ks p < d.n := by rw [← hw.k]; exact fun e => h (sidx_lt.1 e)
  unfold Rt.dn
  exact decide_eq_false fun x => hlt x.1
theorem kE_D {r d : Rt} (hw : RWf d) {c : ByteArray → Int} {p : ByteArray} (h : p ∈ d.ks) : (mkR r.L r.m r.bi r.bp r.f (dOf d c)).kE p = 0 := by
  have hlt : sidx d.ks p < d.n := by rw [← hw.k]; exact sidx_lt.2 h
  unfold Rt.kE
  exact if_pos hlt
theorem kE_none {r d : Rt} (hw : RWf d) {c : ByteArray → Int} {p : ByteArray} (h : ¬ p ∈ d.ks) : (mkR r.L r.m r.bi r.bp r.f (dOf d c)).kE p = 6 := by
  have hlt : ¬ sidx d.ks p < d.n := by rw [← hw.k]; exact fun e => h (sidx_lt.1 e)
  unfold Rt.kE
  exact if_neg hlt
/-- The counts when the first parties of a list have answered. -/
def cG (l : List ByteArray) (c : ByteArray → Int) (i : Nat) (p : ByteArray) : Int := if sidx (l.take i) p < (l.take i).length then 0 else c p
theorem gd_D {r d : Rt} (hw : RWf d) {l : List ByteArray} {c : ByteArray → Int} {i : Nat} (hi : i < l.length) (h : l.getD i ⟨#[]⟩ ∈ d.ks) : (mkR r.L r.m r.bi r.bp r.f (dOf d (cG l c i))).gd (l.getD i ⟨#[]⟩) = mkR r.L r.m r.bi r.bp r.f (dOf d (cG l c (i + 1))) := by
  have hlt : sidx d.ks (l.getD i ⟨#[]⟩) < d.n := by rw [← hw.k]; exact sidx_lt.2 h
  have eg : l.getD i ⟨#[]⟩ = l[i] := by simp [List.getD, hi]
  unfold Rt.gd
  dsimp only
  rw [if_pos hlt]
  have e : cG l c (i + 1) (l.getD i ⟨#[]⟩) = 0 := by
    unfold cG
    rw [if_pos]
    rw [sidx_lt, List.take_succ_eq_append_getElem hi, eg]
    exact List.mem_append_right _ (List.mem_singleton.2 rfl)
  rw [← e]
  exact put_D hw h fun x hx hne => by
    unfold cG
    have e3 : sidx (l.take (i + 1)) x < (l.take (i + 1)).length ↔ sidx (l.take i) x < (l.take i).length := by
      rw [sidx_lt, sidx_lt, List.take_succ_eq_append_getElem hi, ← eg, List.mem_append, List.mem_singleton]
      exact ⟨fun y => y.resolve_right hne, .inl⟩
    by_cases e4 : sidx (l.take i) x < (l.take i).length
    · rw [if_pos e4, if_pos (e3.2 e4)]
    · rw [if_neg e4, if_neg (fun y => e4 (e3.1 y))]
theorem cG_self {l : List ByteArray} {c : ByteArray → Int} {i : Nat} (hi : i < l.length) : cG l c (i + 1) (l.getD i ⟨#[]⟩) = 0 := by
  unfold cG
  rw [if_pos]
  rw [sidx_lt, List.take_succ_eq_append_getElem hi, show l.getD i ⟨#[]⟩ = l[i] by simp [List.getD, hi]]
  exact List.mem_append_right _ (List.mem_singleton.2 rfl)
/-- A table of parties all without failures is of this form. -/
structure RZ (d : Rt) : Prop extends RWf d where
  v : d.vs = d.ks.map (fun _ => 0)
theorem rz_put {r : Rt} (h : RZ r) (p : ByteArray) : RZ (r.put p 0) ∧ (r.put p 0).n ≤ r.n + 1 ∧ (r.put p 0).L = r.L ∧ (r.put p 0).m = r.m ∧ (r.put p 0).bi = r.bi ∧ (r.put p 0).bp = r.bp ∧ (r.put p 0).f = r.f := by
  unfold Rt.put
  by_cases hlt : sidx r.ks p < r.n
  · have hm : p ∈ r.ks := sidx_lt.1 (by rw [h.k]; exact hlt)
    dsimp only
    rw [if_pos hlt, if_pos hlt, if_pos hlt, put_key, if_pos (sidx_lt.2 hm)]
    refine ⟨⟨⟨h.k, h.nd⟩, ?_⟩, by (try dsimp only); omega, rfl, rfl, rfl, rfl, rfl⟩
    (try dsimp only)
    rw [h.v]
    exact map_set (c' := fun _ => 0) h.nd hm fun _ _ _ => rfl
  · have hm : ¬ p ∈ r.ks := fun e => hlt (by rw [← h.k]; exact sidx_lt.2 e)
    have hl : sidx r.ks p = r.ks.length := by
      have := sidx_le r.ks p
      have := h.k
      omega
    dsimp only
    rw [if_neg hlt, if_neg hlt, if_neg hlt, put_key, if_neg (fun e => hm (sidx_lt.1 e))]
    refine ⟨⟨⟨by simp [h.k], ?_⟩, ?_⟩, by (try dsimp only); omega, rfl, rfl, rfl, rfl, rfl⟩
    · (try dsimp only)
      rw [List.nodup_append]
      exact ⟨h.nd, by simp, fun a ha b hb e => by simp at hb; subst hb; subst e; exact hm ha⟩
    · (try dsimp only)
      unfold putL
      rw [if_neg (by rw [h.v, hl]; simp), h.v]
      simp
theorem rz_nwA {r : Rt} (h : RZ r) (nm : Nat → ByteArray) : ∀ k, RZ (nwA r nm k) ∧ (nwA r nm k).n ≤ r.n + k
  | 0 => ⟨h, Nat.le_refl _⟩
  | k + 1 => by
    obtain ⟨h1, h2⟩ := rz_nwA h nm k
    obtain ⟨h3, h4, _⟩ := rz_put h1 (nm k)
    exact ⟨h3, by simp only [nwA]; omega⟩
theorem rz_nwR (L : Rg) (m : Nat) (bi bp : List ByteArray) (f : Int) : RZ (nwR L m bi bp f) ∧ (nwR L m bi bp f).n ≤ L.n + m := by
  obtain ⟨h1, h2⟩ := rz_nwA (r := ⟨L, m, bi, bp, f, 0, [], [], [], 0⟩) ⟨⟨rfl, List.nodup_nil⟩, rfl⟩ L.s L.n
  obtain ⟨h3, h4⟩ := rz_nwA h1 (fun k => bp.getD k ⟨#[]⟩) m
  exact ⟨h3, by unfold nwR; simp only at h2 h4; omega⟩
theorem rz_D {d : Rt} (h : RZ d) {c : ByteArray → Int} (hc : ∀ p, p ∈ d.ks → c p = 0) : dOf d c = d := by
  obtain ⟨L, m, bi, bp, f, n, ks, vs, bs, ck⟩ := d
  have := h.v
  unfold dOf
  dsimp only at *
  rw [this, List.map_congr_left hc]
end Go.Proofs.Ytkmbnniikncaiaa
