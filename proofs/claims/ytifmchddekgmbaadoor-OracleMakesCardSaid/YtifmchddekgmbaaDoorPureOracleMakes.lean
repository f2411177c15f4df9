/- Of any items, and counts, the script is made that the document says, or none: for every two lists of at most 200 numbers; of longer ones the examples alone are asked. -/
import Derived.Test.YtifmchddekgmbaaDoorSMakeRef
import Derived.Test.YtifmchddekgmbaaDoorFx6
namespace Go.Proofs.YtifmchddekgmbaaDoor.Pure
open Go.RowKit Go.Proofs.YtifmchddekgmbaaDoor.F Go.Proofs.YtifmchddekgmbaaDoor.S Go.Proofs.YtifmchddekgmbaaDoorW.PrintWords Go.Proofs.YtifmchddekgmbaaDoorW.PrintLast

theorem OracleMakes : ∀ (x0 : List Int) (x1 : List Int), (x0.length ≤ maxLen ∧ ∀ y ∈ x0, (Lit.int .i64 y).wf = true) → (x1.length ≤ maxLen ∧ ∀ y ∈ x1, (Lit.int .i64 y).wf = true) → ∃ k, argosylaw19_OracleMakes.f k x0 x1 = some true := by
  intro fails slips _ _
  refine ⟨1001, ?_⟩
  have hl : argosylaw19_lives.f 1000 = some true := lives_ge (by decide)
  have hj : argosylaw19_OracleMakes.j0 1001 fails slips true = some true := by
    simp only [argosylaw19_OracleMakes.j0, hl]; rfl
  unfold argosylaw19_OracleMakes.f
  by_cases h0 : (fails.length : Int) > 200
  · rw [if_pos h0]; exact hj
  · rw [if_neg h0]
    by_cases h1 : (slips.length : Int) > 200
    · rw [decide_eq_true h1]; exact hj
    · rw [decide_eq_false h1]
      have hm := make_eq fails slips (by omega) 1000 (by omega)
      have hr := refMake_eq fails slips (by omega) 1000 (by omega)
      have g0 : fails.length < 17592186044416 := by omega
      have g1 : slips.length < 17592186044416 := by omega
      simp only [argosylaw19_OracleMakes.j0]
      rw [if_neg (by decide)]
      simp only [Option.bind_some, List.length_nil, Nat.zero_add, List.nil_append]
      rw [if_pos g0, if_pos g1, hm, hr, hl]
      have he : strOfNums [] = (⟨#[]⟩ : ByteArray) := rfl
      cases makes fails slips with
      | none => simp only [Option.bind_some]; rw [he, if_pos rfl]; rfl
      | some l => simp only [Option.bind_some]; rfl

end Go.Proofs.YtifmchddekgmbaaDoor.Pure
