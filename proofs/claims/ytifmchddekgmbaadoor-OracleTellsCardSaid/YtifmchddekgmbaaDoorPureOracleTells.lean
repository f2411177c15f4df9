/- Any script says of any item, and key, what the document says: for every script of at most 1000 bytes, every key and every count; of a longer script the examples alone are asked. -/
import Derived.Test.YtifmchddekgmbaaDoorSOracle2
import Derived.Test.YtifmchddekgmbaaDoorFx4
namespace Go.Proofs.YtifmchddekgmbaaDoor.Pure
open Go.RowKit Go.Proofs.YtifmchddekgmbaaDoor.F Go.Proofs.YtifmchddekgmbaaDoor.S Go.Proofs.YtifmchddekgmbaaDoorW.PrintWords Go.Proofs.YtifmchddekgmbaaDoorW.PrintLast

theorem OracleTells : ∀ (x0 : List Int) (x1 : S24) (x2 : Int), (x0.length ≤ maxLen ∧ ∀ y ∈ x0, (Lit.int .u8 y).wf = true) → (((Lit.int .i64 x1.f0).wf = true) ∧ (True) ∧ ((Lit.int .i64 x1.f2).wf = true)) → ((Lit.int .i64 x2).wf = true) → ∃ k, argosylaw19_OracleTells.f k x0 x1.f0 x1.f1 x1.f2 x2 = some true := by
  intro l x n ⟨_, hb⟩ _ _
  have hb' : ∀ x ∈ l, IsByte x := fun x hx => byte_of_wf (hb x hx)
  refine ⟨200, ?_⟩
  obtain ⟨r, h1, h2⟩ := most_same hb' n 200 (Nat.le_refl _)
  unfold argosylaw19_OracleTells.f
  rw [lives_ge (by decide : 100 ≤ 200)]
  by_cases h : (l.length : Int) > 1000
  · rw [if_pos h]; rfl
  · rw [if_neg h, ok_eq hb', refOk_eq hb', fails_eq hb', refFails_eq hb', slips_eq hb', refSlips_eq hb', h1, h2]
    simp

end Go.Proofs.YtifmchddekgmbaaDoor.Pure
