/- Laid tables ahead of blocks and families that are only read. No program in sight. -/
import Derived.Test.YtjjnbhbendlnhaaDoorYLaw2
import Derived.Test.YtjjnbhbendlnhaaDoorYLaid
namespace Go.Sy
open Go.RowKit
section
variable {w : World}
theorem holds_gl2 {g : G} {Hp : Heap} {l : GTab} (hl : ∀ q, (aget l q).isSome = true → ∃ β, g 0 q = some β ∧ BlkAt g β true (gblk l q) w) (hall : ∀ p ∈ Hp, RowRo g w p) :
    Holds g ((0, some (GB l)) :: Hp) w ∧ ∀ h q ro b, Ent ((0, some (GB l)) :: Hp) h q ro b → ro = true := by
  obtain ⟨h1, h2⟩ := holds_ro2 (g := g) (w := w) Hp hall
  have ro : ∀ h q ro b, Ent ((0, some (GB l)) :: Hp) h q ro b → ro = true := by
    intro h q ro b he
    rcases ent_cons.1 he with ⟨rfl, hb, e1, e2, e3⟩ | ⟨_, he⟩
    · cases e1; exact e3.symm
    · exact h2 h q ro b he
  refine ⟨⟨?_, ?_⟩, ro⟩
  · intro h q r b he
    rcases ent_cons.1 he with ⟨rfl, hb, e1, e2, e3⟩ | ⟨_, he⟩
    · cases e1
      obtain ⟨d, rfl⟩ := e2
      simp only [GB, HB.ro] at e3
      subst e3
      exact hl q d
    · exact h1.blk h q r b he
  · intro h q h' q' b ro' b' β β' _ he
    have := ro h q false b he
    cases this
end
end Go.Sy
