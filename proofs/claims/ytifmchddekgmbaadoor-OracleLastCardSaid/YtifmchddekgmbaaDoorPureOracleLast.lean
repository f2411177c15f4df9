/- Undoing goes well at the try 3 and from then on, and ahead of its slips it does not: for every script of at most 1000 bytes, every item and every try; of a longer script the examples alone are asked. -/
import Derived.Test.YtifmchddekgmbaaDoorSOracle
namespace Go.Proofs.YtifmchddekgmbaaDoor.Pure
open Go.RowKit Go.Proofs.YtifmchddekgmbaaDoor.F Go.Proofs.YtifmchddekgmbaaDoor.S Go.Proofs.YtifmchddekgmbaaDoorW.PrintWords Go.Proofs.YtifmchddekgmbaaDoorW.PrintLast

theorem OracleLast : ∀ (x0 : List Int) (x1 : Int) (x2 : Int), (x0.length ≤ maxLen ∧ ∀ y ∈ x0, (Lit.int .u8 y).wf = true) → ((Lit.int .i64 x1).wf = true) → ((Lit.int .i64 x2).wf = true) → ∃ k, argosylaw19_OracleLast.f k x0 x1 x2 = some true := by
  intro l i t ⟨_, hb⟩ _ _
  have hb' : ∀ x ∈ l, IsByte x := fun x hx => byte_of_wf (hb x hx)
  refine ⟨100, ?_⟩
  unfold argosylaw19_OracleLast.f
  rw [lives_ge (Nat.le_refl _)]
  by_cases h : (l.length : Int) > 1000
  · rw [if_pos h]; rfl
  · rw [if_neg h, slips_eq hb', ok_eq hb']
    have hr := slipsN_range l i
    simp only [Option.bind_some]
    rw [if_pos (by omega), if_pos (by omega), if_pos (by simp [okB])]
    by_cases ht : t < 3
    · rw [if_pos ht]
    · rw [if_neg ht, if_pos (by simp [okB]; omega)]

end Go.Proofs.YtifmchddekgmbaaDoor.Pure
