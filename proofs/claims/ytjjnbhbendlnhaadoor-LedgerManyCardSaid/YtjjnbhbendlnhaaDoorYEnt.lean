/- A contract over the same entries, told by another heap; families that differ outside their domain. No program in sight. -/
import Derived.Test.YtjjnbhbendlnhaaDoorYArg
namespace Go.Sy
open Go.RowKit
set_option linter.unusedVariables false

theorem fc_ent {P : Program} {n : Nat} {f : FuncId} {args : List SV} {H H' : Heap} {post : SV → Heap → Nat → Prop} (ent : ∀ k q ro b, Ent H k q ro b ↔ Ent H' k q ro b) (h : FC P n f args H post) : FC P n f args H' post := by
  have hH : ∀ {g : G} {w : World}, Holds g H' w → Holds g H w := fun hH => ⟨fun k q ro b e => hH.blk k q ro b ((ent _ _ _ _).1 e), fun k q k' q' b ro' b' β β' hne e e' => hH.sep k q k' q' b ro' b' β β' hne ((ent _ _ _ _).1 e) ((ent _ _ _ _).1 e')⟩
  have hW : ∀ {g : G} k, Wset g H k → Wset g H' k := fun k ⟨h, q, b, β, e, r⟩ => ⟨h, q, b, β, (ent _ _ _ _).1 e, r⟩
  have ho : ∀ {g : G} {w : World} {v : Value} {w' : World}, Out g w n H post v w' → Out g w n H' post v w' := by
    rintro g w v w' ⟨sv, H1, n', g', hp, hn, hu', hk, hv', hH', hrw, hfr, hown⟩
    refine ⟨sv, H1, n', g', hp, hn, hu', hk, hv', hH', hrw, ⟨hfr.os, hfr.tape, hfr.output, hfr.size, fun k hk1 hk2 => hfr.block k hk1 (fun hq => hk2 (hW k hq))⟩, ?_⟩
    intro h q b β e hb hc
    rcases hown h q b β e hb hc with hh | hh
    · exact .inl (hW _ hh)
    · exact .inr hh
  rcases h with ⟨hb, h⟩ | h
  · refine .inl ⟨hb, fun g w vals h1 h2 h3 h4 => (h g w vals h1 h2 (hH h3) h4).mono ?_⟩
    rintro e w' ⟨v, rfl, hq⟩
    exact ⟨v, rfl, ho hq⟩
  · refine .inr (fun g w vals h1 h2 h3 h4 => ?_)
    obtain ⟨v, w', hr, hq⟩ := h g w vals h1 h2 (hH h3) h4
    exact ⟨v, w', hr, ho hq⟩
/-- Rows that tell the same entries. -/
inductive SameEnt : Heap → Heap → Prop where
  | nil : SameEnt [] []
  | cons {x : Nat × Option HB} {H H' : Heap} : SameEnt H H' → SameEnt (x :: H) (x :: H')
  | fam {h : Nat} {ro : Bool} {dom : Nat → Prop} {f f' : Nat → Blk} {H H' : Heap} : (∀ q, dom q → f q = f' q) → SameEnt H H' → SameEnt ((h, some (.fam ro dom f)) :: H) ((h, some (.fam ro dom f')) :: H')
theorem SameEnt.ent {H H' : Heap} (h : SameEnt H H') : ∀ k q ro b, Ent H k q ro b ↔ Ent H' k q ro b := by
  induction h with
  | nil => exact fun _ _ _ _ => Iff.rfl
  | cons _ ih =>
    intro k q ro b
    rename_i x H H' _
    obtain ⟨h, o⟩ := x
    unfold Ent
    simp only [hget]
    cases Nat.beq h k with
    | true => exact Iff.rfl
    | false => exact ih k q ro b
  | fam hf _ ih =>
    intro k q ro b
    rename_i h _ dom f f' H H' _
    unfold Ent
    simp only [hget]
    cases Nat.beq h k with
    | false => exact ih k q ro b
    | true =>
      simp only [cond_true]
      constructor
      · rintro ⟨hb, e, h1, h3⟩
        simp only [Option.some.injEq] at e; subst e
        exact ⟨_, rfl, ⟨h1.1, h1.2.trans (hf q h1.1)⟩, h3⟩
      · rintro ⟨hb, e, h1, h3⟩
        simp only [Option.some.injEq] at e; subst e
        exact ⟨_, rfl, ⟨h1.1, h1.2.trans (hf q h1.1).symm⟩, h3⟩
end Go.Sy
