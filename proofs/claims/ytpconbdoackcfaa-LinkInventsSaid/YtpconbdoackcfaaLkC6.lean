/- Contracts of package link: a text that is under way. -/
import Derived.Test.YtpconbdoackcfaaLkC5
namespace Go.Proofs.Ytpconbdoackcfaa
open Go.RowKit Go.Sy
attribute [local irreducible] vcall vloop vcallD retP
set_option maxRecDepth 100000
set_option linter.unusedVariables false
set_option linter.unusedSimpArgs false

def Ar.add (r : Ar) (t x y k : Int) (s : ByteArray) : Ar := ⟨r.t ++ [t], r.f ++ [x], r.o ++ [y], r.k ++ [k], r.x ++ [s]⟩
/-- An arrival is laid into the table. -/
def Wy.put (W : Wy) (t x y k : Int) (s : ByteArray) : Wy := ⟨if iidx W.ks t < W.n then W.n else W.n + 1, putL (iidx W.ks t) t W.ks, putL (iidx W.ks t) (W.ns.getD (iidx W.ks t) 0 + 1) W.ns, putL (iidx W.ks t) ((W.rs.getD (iidx W.ks t) ar0).add t x y k s) W.rs, if iidx W.ks t < W.n then W.bs else W.bs ++ [W.ck], if iidx W.ks t < W.n then W.ck else W.ck + 1⟩
theorem iidx_le (l : List Int) (x : Int) : iidx l x ≤ l.length := by
  induction l with
  | nil => simp [iidx]
  | cons a l ih =>
    simp only [iidx]
    cases decide (a = x) <;> simp
    exact ih
/-- Arrivals one after the other. -/
def Wy.puts (W : Wy) (al : List Int) (x y k : Int) (s : ByteArray) : Nat → Wy
  | 0 => W
  | i + 1 => (W.puts al x y k s i).put (al.getD i 0) x y k s
theorem put_fam (W : Wy) (ho : W.ns.length = W.n) (hr : W.rs.length = W.n) (hk : W.ks.length = W.n) (ro : Bool) (t x y k : Int) (s : ByteArray) : wyF ro (W.put t x y k s) = .fam ro (fun q => q < (if iidx W.ks t < W.n then W.n else W.n + 1)) (fun q => if q = iidx W.ks t then arB (W.ns.getD (iidx W.ks t) 0 + 1) ((W.rs.getD (iidx W.ks t) ar0).add t x y k s) else arB (W.ns.getD q 0) (W.rs.getD q ar0)) := by
  have hle := iidx_le W.ks t
  unfold wyF Wy.put
  dsimp only
  congr 1
  funext q
  rw [putL_at (by omega), putL_at (by omega)]
  split <;> rfl
theorem put_len (W : Wy) (ho : W.ns.length = W.n) (hr : W.rs.length = W.n) (hk : W.ks.length = W.n) (t x y k : Int) (s : ByteArray) : (W.put t x y k s).ns.length = (W.put t x y k s).n ∧ (W.put t x y k s).rs.length = (W.put t x y k s).n ∧ (W.put t x y k s).ks.length = (W.put t x y k s).n := by
  unfold Wy.put
  dsimp only
  rw [putL_length, putL_length, putL_length, ho, hr, hk]
  exact ⟨rfl, rfl, rfl⟩
theorem sum_put : ∀ (l : List Nat) (i : Nat), i ≤ l.length → ((putL i (l.getD i 0 + 1) l).map (fun (n : Nat) => (n : Int))).sum = (l.map (fun (n : Nat) => (n : Int))).sum + 1 := by
  intro l i hi
  unfold putL
  by_cases h : i < l.length
  · rw [if_pos h]
    induction l generalizing i with
    | nil => simp at h
    | cons a l ih =>
      cases i with
      | zero => simp only [List.getD_cons_zero, List.set_cons_zero, List.map_cons, List.sum_cons]; omega
      | succ i =>
        simp only [List.getD_cons_succ, List.set_cons_succ, List.map_cons, List.sum_cons]
        have := ih i (by simp at hi; omega) (by simp at h; omega)
        omega
  · rw [if_neg h]
    have : i = l.length := by omega
    subst this
    simp [List.getD]
theorem puts_ok {W : Wy} (ho : W.ns.length = W.n) (hr : W.rs.length = W.n) (hk : W.ks.length = W.n) (al : List Int) (x y k : Int) (s : ByteArray) : ∀ i, (W.puts al x y k s i).ns.length = (W.puts al x y k s i).n ∧ (W.puts al x y k s i).rs.length = (W.puts al x y k s i).n ∧ (W.puts al x y k s i).ks.length = (W.puts al x y k s i).n ∧ ((W.puts al x y k s i).ns.map (fun (n : Nat) => (n : Int))).sum = (W.ns.map (fun (n : Nat) => (n : Int))).sum + i
  | 0 => ⟨ho, hr, hk, by simp [Wy.puts]⟩
  | i + 1 => by
    obtain ⟨h1, h2, h3, h4⟩ := puts_ok ho hr hk al x y k s i
    obtain ⟨a1, a2, a3⟩ := put_len _ h1 h2 h3 (al.getD i 0) x y k s
    refine ⟨a1, a2, a3, ?_⟩
    have hle := iidx_le (W.puts al x y k s i).ks (al.getD i 0)
    have := sum_put (W.puts al x y k s i).ns (iidx (W.puts al x y k s i).ks (al.getD i 0)) (by omega)
    simp only [Wy.puts, Wy.put]
    rw [this, h4]
    omega
abbrev sdH (L : Lk) (t : Int) (al : List Int) (c : Nat) (h : Nat) (W : Wy) : Heap := [(1, some (.one false (.cells [.int .i64 L.pa, .int .i64 L.la, .sl 2 0 0 L.F.n, .int .i64 t, .int .i64 (IntKind.i64.wrap (L.se + 1)), .map 3 0]))), (2, some (faB true L.F)), (3, some (wyM false h W)), (h, some (wyF false W)), (5, some (.one false (.cols c [.sc (.ints .i64 al)])))]
set_option maxHeartbeats 1000000 in
/-- A round of the times. -/
theorem sd_round (L : Lk) (t x y : Int) (s : ByteArray) (al : List Int) (c : Nat) (hc : c ≤ 1000) (W : Wy) (h1 : W.ns.length = W.n) (h2 : W.rs.length = W.n) (h3 : W.ks.length = W.n) (hlim : (W.ns.map (fun (n : Nat) => (n : Int))).sum ≤ 2000) (i : Nat) (hi : i < c) (K : Exit → VS → Prop)
    (hN : ∀ v, (∃ l u, upK u v (fun v => Weak 5 l v ⟨[(0, .ptr 1 0 0 0), (2, .int .i64 x), (3, .int .i64 y), (4, .str s), (67, .sl 5 0 0 c), (68, .int .i64 c), (69, .int .i64 ((i + 1 : Nat) : Int))], sdH L t al c 6 (W.put (al.getD i 0) x y (IntKind.i64.wrap (L.se + 1)) s), 7⟩)) → K .normal v) :
    vcode Try.prog T 5 (lpc Try.f8 0) ⟨[(0, .ptr 1 0 0 0), (2, .int .i64 x), (3, .int .i64 y), (4, .str s), (67, .sl 5 0 0 c), (68, .int .i64 c), (69, .int .i64 i)], sdH L t al c 6 W, 7⟩ K := by
  have hle := iidx_le W.ks (al.getD i 0)
  have hge := sum_ge W.ns (iidx W.ks (al.getD i 0))
  have efam := put_fam W h1 h2 h3 false (al.getD i 0) x y (IntKind.i64.wrap (L.se + 1)) s
  by_cases hin : iidx W.ks (al.getD i 0) < W.n
  · have hfd : foundS false W.n [.own 6 W.ns] (iidx W.ks (al.getD ((i : Int).toNat + 0) 0)) = .sl 6 (iidx W.ks (al.getD i 0)) 0 (W.ns.getD (iidx W.ks (al.getD i 0)) 0) := by
      show (bif decide (iidx W.ks (al.getD i 0) < W.n) then SV.sl 6 (iidx W.ks (al.getD i 0)) 0 (W.ns.getD (iidx W.ks (al.getD i 0)) 0) else .nsl) = _
      rw [decide_eq_true hin]; rfl
    repeat' ((conv => whnf); first | (rw [hfd]) | (refine br_dec (fun h => ?_) (fun h => ?_) <;> try (exfalso; (try dsimp only at h); omega)) | (refine br_ndec (fun h => ?_) (fun h => ?_) <;> try (exfalso; (try dsimp only at h); omega)) | refine br_seq (fun h => ?_) (fun h => ?_) | refine br_nseq (fun h => ?_) (fun h => ?_) | refine br_not (fun h => ?_) (fun h => ?_) | refine br_intro (fun h => ?_) (fun h => ?_) | refine cond_intro rfl ?_ | (refine cond_intro ⟨rfl, ?_⟩ ?_; (first | omega | (dsimp only; omega) | decide)) | (refine cond_intro ?_ ?_; (first | omega | (dsimp only; omega) | decide | (simp only [Nat.add_zero, Int.toNat_natCast, *]; omega))))
    all_goals (conv => whnf)
    all_goals first
      | (exfalso; omega)
      | (refine hN _ ⟨[0, 1, 2, 3, 4, 5, 9], [.relab (fun h' q => if h' = 9 ∧ q < (if iidx W.ks (al.getD i 0) < W.n then W.n else W.n + 1) then (if q = iidx W.ks (al.getD i 0) then some (8, 0) else some (6, q)) else none) (fun _ => 0) [(3, some (wyM false 9 (W.put (al.getD i 0) x y (IntKind.i64.wrap (L.se + 1)) s))), (9, some (wyF false (W.put (al.getD i 0) x y (IntKind.i64.wrap (L.se + 1)) s)))] [6, 8] 1], ⟨by rw [efam]; exact relab_map_put (n := 9) (bh := 3) (h := 6) (a := 8) (k := W.ns.getD (iidx W.ks (al.getD i 0)) 0 + 1) (i := iidx W.ks (al.getD i 0)) (ns := W.ns) (dom := fun q => q < W.n ∧ q ≠ iidx W.ks (al.getD i 0)) rfl (by decide) (by omega) (by rw [h1]) rfl rfl (fun q hq hne => ⟨by omega, hne⟩) (by decide) (by decide) (by decide), ?_⟩⟩
         exact ⟨rfl, ⟨rfl, rfl, rfl, rfl, rfl, rfl, congrArg (fun z => some (SV.int .i64 z)) (i64_succ (by omega)), trivial⟩, ⟨rfl, rfl, rfl, rfl, rfl, trivial⟩⟩)
  · have hfd : foundS false W.n [.own 6 W.ns] (iidx W.ks (al.getD ((i : Int).toNat + 0) 0)) = .nsl := by
      show (bif decide (iidx W.ks (al.getD i 0) < W.n) then SV.sl 6 (iidx W.ks (al.getD i 0)) 0 (W.ns.getD (iidx W.ks (al.getD i 0)) 0) else .nsl) = _
      rw [decide_eq_false hin]; rfl
    have z0 : W.ns.getD (iidx W.ks (al.getD i 0)) 0 = 0 := by rw [List.getD, List.getElem?_eq_none (by omega)]; rfl
    have z1 : W.rs.getD (iidx W.ks (al.getD i 0)) ar0 = ar0 := by rw [List.getD, List.getElem?_eq_none (by omega)]; rfl
    have eput : W.put (al.getD i 0) x y (IntKind.i64.wrap (L.se + 1)) s = ⟨if iidx W.ks (al.getD i 0) < W.n then W.n else W.n + 1, putL (iidx W.ks (al.getD i 0)) (al.getD i 0) W.ks, putL (iidx W.ks (al.getD i 0)) 1 W.ns, putL (iidx W.ks (al.getD i 0)) (ar0.add (al.getD i 0) x y (IntKind.i64.wrap (L.se + 1)) s) W.rs, if iidx W.ks (al.getD i 0) < W.n then W.bs else W.bs ++ [W.ck], if iidx W.ks (al.getD i 0) < W.n then W.ck else W.ck + 1⟩ := by
      unfold Wy.put; rw [z0, z1]
    rw [z0, z1] at efam
    rw [eput] at efam hN
    repeat' ((conv => whnf); first | (rw [hfd]) | (refine br_dec (fun h => ?_) (fun h => ?_) <;> try (exfalso; (try dsimp only at h); omega)) | (refine br_ndec (fun h => ?_) (fun h => ?_) <;> try (exfalso; (try dsimp only at h); omega)) | refine br_seq (fun h => ?_) (fun h => ?_) | refine br_nseq (fun h => ?_) (fun h => ?_) | refine br_not (fun h => ?_) (fun h => ?_) | refine br_intro (fun h => ?_) (fun h => ?_) | refine cond_intro rfl ?_ | (refine cond_intro ⟨rfl, ?_⟩ ?_; (first | omega | (dsimp only; omega) | decide)) | (refine cond_intro ?_ ?_; (first | omega | (dsimp only; omega) | decide | (simp only [Nat.add_zero, Int.toNat_natCast, *]; omega))))
    all_goals (conv => whnf)
    all_goals first
      | (exfalso; omega)
      | (refine hN _ ⟨[0, 1, 2, 3, 4, 5, 9], [.relab (fun h' q => if h' = 9 ∧ q < (if iidx W.ks (al.getD i 0) < W.n then W.n else W.n + 1) then (if q = iidx W.ks (al.getD i 0) then some (8, 0) else some (6, q)) else none) (fun _ => 0) [(3, some (wyM false 9 ⟨if iidx W.ks (al.getD i 0) < W.n then W.n else W.n + 1, putL (iidx W.ks (al.getD i 0)) (al.getD i 0) W.ks, putL (iidx W.ks (al.getD i 0)) 1 W.ns, putL (iidx W.ks (al.getD i 0)) (ar0.add (al.getD i 0) x y (IntKind.i64.wrap (L.se + 1)) s) W.rs, if iidx W.ks (al.getD i 0) < W.n then W.bs else W.bs ++ [W.ck], if iidx W.ks (al.getD i 0) < W.n then W.ck else W.ck + 1⟩)), (9, some (wyF false ⟨if iidx W.ks (al.getD i 0) < W.n then W.n else W.n + 1, putL (iidx W.ks (al.getD i 0)) (al.getD i 0) W.ks, putL (iidx W.ks (al.getD i 0)) 1 W.ns, putL (iidx W.ks (al.getD i 0)) (ar0.add (al.getD i 0) x y (IntKind.i64.wrap (L.se + 1)) s) W.rs, if iidx W.ks (al.getD i 0) < W.n then W.bs else W.bs ++ [W.ck], if iidx W.ks (al.getD i 0) < W.n then W.ck else W.ck + 1⟩))] [6, 8] 1], ⟨by rw [efam]; exact relab_map_put (n := 9) (bh := 3) (h := 6) (a := 8) (k := 1) (i := iidx W.ks (al.getD i 0)) (ns := W.ns) (dom := fun q => q < W.n) rfl (by decide) (by omega) (by rw [h1]) rfl rfl (fun q hq hne => (show q < W.n by omega)) (by decide) (by decide) (by decide), ?_⟩⟩
         exact ⟨rfl, ⟨rfl, rfl, rfl, rfl, rfl, rfl, congrArg (fun z => some (SV.int .i64 z)) (i64_succ (by omega)), trivial⟩, ⟨rfl, rfl, rfl, rfl, rfl, trivial⟩⟩)
/-- The table when a text is under way. -/
def Lk.al (L : Lk) (t x y : Int) : List Int := Fa.al (L.F.arr t x y (IntKind.i64.wrap (t + L.la)) L.F.n) (L.F.cp t x y L.F.n) (L.F.cn t x y L.F.n)
def Lk.sdW (L : Lk) (t x y : Int) (s : ByteArray) : Wy := L.W.puts (L.al t x y) x y (IntKind.i64.wrap (L.se + 1)) s (L.F.cn t x y L.F.n + 1)
abbrev lkO (L : Lk) (t : Int) (W : Wy) : Heap := [(1, some (.one false (.cells [.int .i64 L.pa, .int .i64 L.la, .sl 2 0 0 L.F.n, .int .i64 t, .int .i64 (IntKind.i64.wrap (L.se + 1)), .map 3 0]))), (3, some (wyM false 5 W)), (5, some (wyF false W))]
theorem lk_Send_ok (L : Lk) (t x y : Int) (s : ByteArray) (hn : L.F.n ≤ 999) (hw : L.W.Ok) (he : L.sdE t x y s = 0) (hl : L.F.lost t x y L.F.n = false) : FC Try.prog 5 8 [.ptr 1 0 0 0, .int .i64 t, .int .i64 x, .int .i64 y, .str s] (lkH L) (isOut (.tup [.int .i64 (IntKind.i64.wrap (L.se + 1)), .int .i64 0]) (lkO L t (L.sdW t x y s)) 6) := by
  obtain ⟨⟨⟨k1, k2⟩, k3, k4⟩, k5, k6, k7, k8, k9⟩ := sdE_zero he
  have c1 := lk_party L x
  have c2 := lk_party L y
  have cu := lk_underWay L hw.nl
  have ct := lk_times L t x y (by omega) hl
  have hs := hw.sum
  have hs0 := sum_nonneg L.W.ns
  have hs1 := hw.lim
  have hcn := cn_le L.F t x y L.F.n
  unfold Lk.tn at k9
  rw [if_neg (by rw [hl]; decide)] at k9
  have w1 : IntKind.i64.wrap (L.W.sum + ((L.F.cn t x y L.F.n + 1 : Nat) : Int)) = L.W.sum + ((L.F.cn t x y L.F.n + 1 : Nat) : Int) := by rw [hs]; exact w64_in (by omega) (by omega)
  unfold Lk.sdW
  change FC _ _ _ _ _ (isOut (.sl 5 0 0 (L.F.cn t x y L.F.n + 1)) [(5, some (.one false (.cols (L.F.cn t x y L.F.n + 1) [.sc (.ints .i64 (L.al t x y))])))] 6) at ct
  have pk := puts_ok hw.nl hw.rl hw.kl (L.al t x y) x y (IntKind.i64.wrap (L.se + 1)) s
  generalize L.al t x y = al at *
  generalize L.F.cn t x y L.F.n + 1 = c at *
  generalize L.W.sum = su at *
  refine fc_of mixed T_ok Try.func8 rfl (by kernel_rfl) (by kernel_rfl) (by kernel_rfl) ?_
  repeat' ((conv => whnf); first | (refine vcall_out (l :=  [0, 1, 2, 3, 4]) (c1 ) ⟨rfl, rfl, rfl, rfl, (by (repeat' (first | exact trivial | exact GB_wf | exact fun _ _ => rfl | constructor)); first | done | fail), (by (repeat' (first | exact trivial | exact GB_fits rfl | constructor)); first | done | fail)⟩ ?_) | (refine vcallD_out (l :=  [0, 1, 2, 3, 4]) (c1 ) ⟨rfl, rfl, rfl, rfl, (by (repeat' (first | exact trivial | exact GB_wf | exact fun _ _ => rfl | constructor)); first | done | fail), (by (repeat' (first | exact trivial | exact GB_fits rfl | constructor)); first | done | fail)⟩ ?_) | (refine vcall_out (l :=  [0, 1, 2, 3, 4]) (c2 ) ⟨rfl, rfl, rfl, rfl, (by (repeat' (first | exact trivial | exact GB_wf | exact fun _ _ => rfl | constructor)); first | done | fail), (by (repeat' (first | exact trivial | exact GB_fits rfl | constructor)); first | done | fail)⟩ ?_) | (refine vcallD_out (l :=  [0, 1, 2, 3, 4]) (c2 ) ⟨rfl, rfl, rfl, rfl, (by (repeat' (first | exact trivial | exact GB_wf | exact fun _ _ => rfl | constructor)); first | done | fail), (by (repeat' (first | exact trivial | exact GB_fits rfl | constructor)); first | done | fail)⟩ ?_) | (refine vcall_out (l :=  [0, 1, 2, 3, 4]) (ct ) ⟨rfl, rfl, rfl, rfl, (by (repeat' (first | exact trivial | exact GB_wf | exact fun _ _ => rfl | constructor)); first | done | fail), (by (repeat' (first | exact trivial | exact GB_fits rfl | constructor)); first | done | fail)⟩ ?_) | (refine vcallD_out (l :=  [0, 1, 2, 3, 4]) (ct ) ⟨rfl, rfl, rfl, rfl, (by (repeat' (first | exact trivial | exact GB_wf | exact fun _ _ => rfl | constructor)); first | done | fail), (by (repeat' (first | exact trivial | exact GB_fits rfl | constructor)); first | done | fail)⟩ ?_) | (refine vcall_out (l :=  [0, 1, 2, 3, 4]) (cu ) ⟨rfl, rfl, rfl, rfl, (by (repeat' (first | exact trivial | exact GB_wf | exact fun _ _ => rfl | constructor)); first | done | fail), (by (repeat' (first | exact trivial | exact GB_fits rfl | constructor)); first | done | fail)⟩ ?_) | (refine vcallD_out (l :=  [0, 1, 2, 3, 4]) (cu ) ⟨rfl, rfl, rfl, rfl, (by (repeat' (first | exact trivial | exact GB_wf | exact fun _ _ => rfl | constructor)); first | done | fail), (by (repeat' (first | exact trivial | exact GB_fits rfl | constructor)); first | done | fail)⟩ ?_) | (refine br_dec (fun h => ?_) (fun h => ?_) <;> try (exfalso; (try dsimp only at h); omega)) | (refine br_ndec (fun h => ?_) (fun h => ?_) <;> try (exfalso; (try dsimp only at h); omega)) | refine br_seq (fun h => ?_) (fun h => ?_) | refine br_nseq (fun h => ?_) (fun h => ?_) | refine br_not (fun h => ?_) (fun h => ?_) | refine br_intro (fun h => ?_) (fun h => ?_) | refine cond_intro rfl ?_ | (refine cond_intro ⟨rfl, ?_⟩ ?_; (first | omega | (dsimp only; omega) | decide)) | (refine cond_intro ?_ ?_; (first | omega | (dsimp only; omega) | decide | (simp only [Nat.add_zero, Int.toNat_natCast, *]; omega))))
  all_goals (conv => whnf)
  all_goals first
    | (exfalso; omega)
    | skip
  refine vloop_lp (fun i : Nat => ⟨[(0, .ptr 1 0 0 0), (2, .int .i64 x), (3, .int .i64 y), (4, .str s), (67, .sl 5 0 0 c), (68, .int .i64 c), (69, .int .i64 i)], sdH L t al c 6 (L.W.puts al x y (IntKind.i64.wrap (L.se + 1)) s i), 7⟩) (fun i => i ≤ c) (fun i => c - i) 0 [0, 1, 2, 3, 4, 5, 4] [] ⟨rfl, ⟨rfl, rfl, rfl, rfl, rfl, rfl, rfl, trivial⟩, ⟨rfl, rfl, rfl, rfl, rfl, trivial⟩⟩ (Nat.zero_le _) ?_
  intro i hi
  by_cases hi2 : i < c
  · obtain ⟨p1, p2, p3, p4⟩ := pk i
    exact sd_round L t x y s al c (by omega) _ p1 p2 p3 (by omega) i hi2 _ (fun v ⟨l, u, h⟩ => ⟨i + 1, l, u, (show i + 1 ≤ c by omega), (show c - (i + 1) < c - i by omega), h⟩)
  · obtain rfl : i = c := by omega
    generalize L.W.puts al x y (IntKind.i64.wrap (L.se + 1)) s i = W at *
    repeat' ((conv => whnf); first | (refine br_dec (fun h => ?_) (fun h => ?_) <;> try (exfalso; (try dsimp only at h); omega)) | (refine br_ndec (fun h => ?_) (fun h => ?_) <;> try (exfalso; (try dsimp only at h); omega)) | refine br_seq (fun h => ?_) (fun h => ?_) | refine br_nseq (fun h => ?_) (fun h => ?_) | refine br_not (fun h => ?_) (fun h => ?_) | refine br_intro (fun h => ?_) (fun h => ?_) | refine cond_intro rfl ?_ | (refine cond_intro ⟨rfl, ?_⟩ ?_; (first | omega | (dsimp only; omega) | decide)) | (refine cond_intro ?_ ?_; (first | omega | (dsimp only; omega) | decide | (simp only [Nat.add_zero, Int.toNat_natCast, *]; omega))))
    all_goals (conv => whnf)
    all_goals first
      | exact ret_out (l := [0, 1, 2, 3, 4, 6]) rfl rfl ⟨rfl, rfl, rfl, trivial⟩ (allRw_cons (allRw_cons (allRw_fam allRw_nil)))
      | (exfalso; omega)
end Go.Proofs.Ytpconbdoackcfaa
