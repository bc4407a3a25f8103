/- The law on settlement: whatever files are cleared, the answer is true (the card, from the law's frame; no condition). -/
import Derived.Test.YtclhnagdmajfkaaGreatDoorTopSettlementLaw
import Derived.Test.YtclhnagdmajfkaaGreatDoorP3
import Derived.Test.YtclhnagdmajfkaaGreatDoorP7
import Derived.Test.YtclhnagdmajfkaaGreatDoorRows
import Derived.Test.YtclhnagdmajfkaaGreatDoorTie
import Derived.Test.YtclhnagdmajfkaaGreatDoorCards
import Derived.ProofKit
import Derived.OpenShut
import Derived.ShutString
import Derived.ChangeOld
import Derived.Below
import Derived.Carry
import Derived.Lay
import Derived.LaidOnce
import Derived.LaidMore
import Derived.LaidLaws
import Derived.Stop.Joined
import Derived.SevenTiedAt
namespace Go.Proofs.YtclhnagdmajfkaaGreatDoor
open Go in
theorem topSettlement_holds : Rows.TopSettlementCardSaid :=
  Claim7.holds_tied_plain_at .later [] [.data, .data, .data, .data, .sentinel, .sentinel, .data, .pinned] true (true, "9933124e4dbe14d7694aa7c1dcf210001e3a5433d03e35a4c9d945e0ffbd620c") true
    topSettlementLaw.over (fun _ h => by cases h) (by as_aux_lemma => kernel_rfl) (fun _ h => by cases h) topSettlement_row_tie rfl ⟨rfl, rfl⟩ (by as_aux_lemma => kernel_rfl) rfl
    (fun f fn hf hfn => by
      obtain rfl : f = 3 := Option.some.inj ((show Tryz.prog.funcNamed "cardnet/cardnettop.TopSettlement" = some 3 by as_aux_lemma => kernel_rfl).symm.trans hf) |>.symm
      obtain rfl : fn = Tryz.f3 := (Option.some.inj (Tryz.func3.symm.trans hfn)).symm
      exact ⟨by as_aux_lemma => kernel_rfl, fun j t ht => by
        rw [Tryz.params3] at ht
        have hm : t ∈ [22] := by simpa using Array.mem_of_getElem? ht
        have hall : ([22].all fun u => !Tryz.prog.wantsStandIn u) = true := by as_aux_lemma => kernel_rfl
        exact (show Tryz.prog.wantsStandIn t = false by simpa using List.all_eq_true.1 hall t hm)⟩)
    (by as_aux_lemma => kernel_rfl)
end Go.Proofs.YtclhnagdmajfkaaGreatDoor
