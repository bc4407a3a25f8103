/- Laid tables under a shift of members: they stay. No program in sight. -/
import Derived.Test.YtjjnbhbendlnhaaDoorYMem
namespace Go.Sy
open Go.RowKit
set_option linter.unusedVariables false

theorem upCols_mem (μ : Nat → Nat) : ∀ cs : List Col, memCols μ (upCols cs) = upCols cs
  | [] => rfl
  | c :: r => by
    show BCol.mem μ (.sc c) :: memCols μ (upCols r) = _
    rw [upCols_mem μ r]; rfl
theorem upCols_mok (μ : Nat → Nat) : ∀ cs : List Col, colsMok μ (upCols cs) = true
  | [] => rfl
  | c :: r => by
    show (BCol.mok μ (.sc c) && colsMok μ (upCols r)) = true
    rw [upCols_mok μ r]; rfl
theorem gblk_mem (μ : Nat → Nat) (l : GTab) (q : Nat) : (gblk l q).mem μ = gblk l q := by
  unfold gblk
  cases aget l q with
  | none => rfl
  | some x =>
    dsimp only
    cases Nat.beq x.1 0 with
    | true => rfl
    | false => exact congrArg (Blk.cols x.1) (upCols_mem μ x.2)
theorem gblk_mok (μ : Nat → Nat) (l : GTab) (q : Nat) : (gblk l q).mok μ = true := by
  unfold gblk
  cases aget l q with
  | none => rfl
  | some x =>
    dsimp only
    cases Nat.beq x.1 0 with
    | true => rfl
    | false => exact upCols_mok μ x.2
theorem gb_mok (μ : Nat → Nat) (l : GTab) : (GB l).mok μ := fun q _ => gblk_mok μ l q
theorem gb_fam (L : Fams) (h : Nat) (l : GTab) : famHB L h (GB l) = GB l := by
  show HB.fam true _ (fun x => (gblk l x).mem (fmu L)) = HB.fam true _ (gblk l)
  exact congrArg (HB.fam true _) (funext fun x => gblk_mem (fmu L) l x)
end Go.Sy
