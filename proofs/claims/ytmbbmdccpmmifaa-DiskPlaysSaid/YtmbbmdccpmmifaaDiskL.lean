/- The laws of package disk: their helpers. -/
import Derived.Test.YtmbbmdccpmmifaaDiskC3
namespace Go.Proofs.Ytmbbmdccpmmifaa
open Go.RowKit Go.Sy
attribute [local irreducible] vcall vloop vcallD retP
set_option maxRecDepth 100000
set_option linter.unusedVariables false

theorem crashD_ok {d : Dk} (h : d.ok) (m : Int) : (crashD m d).ok :=
  ⟨by simp only [crashD, crashL, crashTo_length]; exact h.kl, by simp only [crashD, crashL, crashTo_length]; exact h.kl, rfl, rfl, by simp [crashD], by simp [crashD], h.nm, by simp [crashD]⟩
theorem countZ_bd {n : Int} (h : 0 ≤ n ∧ n ≤ 1000000) : 0 ≤ countZ n ∧ countZ n ≤ 1000000 := by unfold countZ; split <;> omega
theorem countD_ok {d : Dk} (h : d.ok) : (countD d).ok := ⟨h.kl, h.nl, h.pl, h.sl, h.pb, h.pm, h.nm, countZ_bd h.sb⟩
theorem keepD_ok {d : Dk} (h : d.ok) : (keepD d).ok := ⟨by simp only [keepD, crashTo_length]; exact h.kl, h.nl, rfl, rfl, by simp [keepD], by simp [keepD], h.nm, h.sb⟩
theorem writeD_ok {d : Dk} (h : d.ok) (n : Int) (s : ByteArray) : (writeD d n s).1.ok := by
  unfold writeD
  split
  · exact h
  · split
    · exact h
    · split
      · exact h
      · split
        · exact h
        · have hp := putD_ok (s := s) h (n := n) (by omega) (by omega)
          split
          · exact crashD_ok hp _
          · exact countD_ok hp
theorem flushD_ok {d : Dk} (h : d.ok) : (flushD d).1.ok := by
  unfold flushD
  split
  · exact h
  · split
    · exact crashD_ok h _
    · exact countD_ok (keepD_ok h)
theorem crashed_ok {d : Dk} (h : d.ok) (m : Int) : (crashed m d).ok := by
  unfold crashed
  split
  · exact h
  · exact crashD_ok h m
theorem recoverD_ok {d : Dk} (h : d.ok) : (recoverD d).1.ok := by
  unfold recoverD
  split
  · exact ⟨h.kl, h.nl, h.pl, h.sl, h.pb, h.pm, h.nm, h.sb⟩
  · exact h
theorem armD_ok {d : Dk} (h : d.ok) (n m : Int) : (armD d n m).1.ok := by
  unfold armD
  split
  · exact h
  · split
    · exact h
    · exact ⟨h.kl, h.nl, h.pl, h.sl, h.pb, h.pm, h.nm, by simp only; omega⟩

def aw1 : Dk := (writeD (newD 2) 0 ⟨#[97]⟩).1
def aw2 : Dk := (flushD aw1).1
def aw3 : Dk := (writeD aw2 0 ⟨#[98]⟩).1
def aw4 : Dk := (writeD aw3 1 ⟨#[99]⟩).1
def aw5 : Dk := crashed 2 aw4
def aw6 : Dk := (recoverD aw5).1

theorem law_awake : Pure Try.prog 8 [] (.bool true) := by
  have o1 : aw1.ok := writeD_ok (newD_ok 2 (by omega)) _ _
  have o2 : aw2.ok := flushD_ok o1
  have o3 : aw3.ok := writeD_ok o2 _ _
  have o4 : aw4.ok := writeD_ok o3 _ _
  have h0 := disk_New 2 (by omega)
  have h1 := disk_Write (newD 2) (newD_ok 2 (by omega)) 0 ⟨#[97]⟩
  rw [show (writeD (newD 2) 0 ⟨#[97]⟩).2 = 0 from by kernel_rfl, show (writeD (newD 2) 0 ⟨#[97]⟩).1 = aw1 from rfl] at h1
  have h2 := disk_Flush aw1 o1
  rw [show (flushD aw1).2 = 0 from by kernel_rfl, show (flushD aw1).1 = aw2 from rfl] at h2
  have h3 := disk_Write aw2 o2 0 ⟨#[98]⟩
  rw [show (writeD aw2 0 ⟨#[98]⟩).2 = 0 from by kernel_rfl, show (writeD aw2 0 ⟨#[98]⟩).1 = aw3 from rfl] at h3
  have h4 := disk_Write aw3 o3 1 ⟨#[99]⟩
  rw [show (writeD aw3 1 ⟨#[99]⟩).2 = 0 from by kernel_rfl, show (writeD aw3 1 ⟨#[99]⟩).1 = aw4 from rfl] at h4
  have h5 := disk_Crash aw4 o4 2
  rw [show runE aw4 = 0 from by kernel_rfl, show crashed 2 aw4 = aw5 from rfl] at h5
  have h6 := disk_Down aw5
  rw [show aw5.down = true from by kernel_rfl] at h6
  have h7 := disk_Recover aw5
  rw [show (recoverD aw5).2 = 0 from by kernel_rfl, show (recoverD aw5).1 = aw6 from rfl] at h7
  have h8 := disk_Read aw6 0
  rw [show readD aw6 0 = (⟨#[97]⟩, 0) from by kernel_rfl] at h8
  have h9 := disk_Read aw6 1
  rw [show readD aw6 1 = (⟨#[99]⟩, 0) from by kernel_rfl] at h9
  clear o1 o2 o3 o4
  refine fc_of mixed T_ok Try.func8 rfl (by kernel_rfl) (by kernel_rfl) (by kernel_rfl) ?_
  repeat' ((conv => whnf); first | (refine vcall_out (l :=  [0]) (h0 ) ⟨rfl, rfl, rfl, rfl, (by repeat' (first | exact trivial | constructor)), (by repeat' (first | exact trivial | constructor))⟩ ?_) | (refine vcall_out (l :=  [0, 1, 2, 3, 4]) (h1 ) ⟨rfl, rfl, rfl, rfl, (by repeat' (first | exact trivial | constructor)), (by repeat' (first | exact trivial | constructor))⟩ ?_) | (refine vcall_out (l :=  [0, 1, 2, 3, 5]) (h2 ) ⟨rfl, rfl, rfl, rfl, (by repeat' (first | exact trivial | constructor)), (by repeat' (first | exact trivial | constructor))⟩ ?_) | (refine vcall_out (l :=  [0, 1, 2, 3, 6]) (h3 ) ⟨rfl, rfl, rfl, rfl, (by repeat' (first | exact trivial | constructor)), (by repeat' (first | exact trivial | constructor))⟩ ?_) | (refine vcall_out (l :=  [0, 1, 2, 3, 7]) (h4 ) ⟨rfl, rfl, rfl, rfl, (by repeat' (first | exact trivial | constructor)), (by repeat' (first | exact trivial | constructor))⟩ ?_) | (refine vcall_out (l :=  [0, 1, 2, 3, 8]) (h5 ) ⟨rfl, rfl, rfl, rfl, (by repeat' (first | exact trivial | constructor)), (by repeat' (first | exact trivial | constructor))⟩ ?_) | (refine vcall_out (l :=  [0, 1, 2, 3, 9]) (h6 ) ⟨rfl, rfl, rfl, rfl, (by repeat' (first | exact trivial | constructor)), (by repeat' (first | exact trivial | constructor))⟩ ?_) | (refine vcall_out (l :=  [0, 1, 2, 3, 9]) (h7 ) ⟨rfl, rfl, rfl, rfl, (by repeat' (first | exact trivial | constructor)), (by repeat' (first | exact trivial | constructor))⟩ ?_) | (refine vcall_out (l :=  [0, 1, 2, 3, 9]) (h8 ) ⟨rfl, rfl, rfl, rfl, (by repeat' (first | exact trivial | constructor)), (by repeat' (first | exact trivial | constructor))⟩ ?_) | (refine vcall_out (l :=  [0, 1, 2, 3, 9]) (h9 ) ⟨rfl, rfl, rfl, rfl, (by repeat' (first | exact trivial | constructor)), (by repeat' (first | exact trivial | constructor))⟩ ?_) | (refine br_dec (fun h => ?_) (fun h => ?_) <;> try (exfalso; omega)) | (refine br_ndec (fun h => ?_) (fun h => ?_) <;> try (exfalso; omega)) | refine br_seq (fun h => ?_) (fun h => ?_) | refine br_nseq (fun h => ?_) (fun h => ?_) | refine br_not (fun h => ?_) (fun h => ?_) | refine br_intro (fun h => ?_) (fun h => ?_) | (refine cond_intro ?_ ?_; (first | omega | (dsimp only; omega) | decide | (simp only [Nat.add_zero, Int.toNat_natCast, *]; omega))))
  all_goals (conv => whnf)
  all_goals exact ret_pure rfl
end Go.Proofs.Ytmbbmdccpmmifaa
