/- What was made says what it was made of, and no more: for every two lists of at most 200 numbers, and every item; of longer ones the examples alone are asked. -/
import Derived.Test.YtifmchddekgmbaaDoorSBack
import Derived.Test.YtifmchddekgmbaaDoorFx6
namespace Go.Proofs.YtifmchddekgmbaaDoor.Pure
open Go.RowKit Go.Proofs.YtifmchddekgmbaaDoor.F Go.Proofs.YtifmchddekgmbaaDoor.S Go.Proofs.YtifmchddekgmbaaDoorW.PrintWords Go.Proofs.YtifmchddekgmbaaDoorW.PrintLast

theorem back_loop (fails slips out : List Int) (i : Int) (n : Int) (hf : fails.length ≤ 1000) (hend : ∀ k, 100 ≤ k → ∀ b : Bool, argosylaw19_OracleBack.j2 k slips i out (decide (i ∈ fails)) n b = some true ∨ b ≠ (if i ≥ 0 then decide (i < (slips.length : Int)) else false)) (d : Nat) :
    ∀ (k j : Nat), j + d = fails.length → d + 101 < k → argosylaw19_OracleBack.l0 k fails slips i out (decide (i ∈ fails.take j)) n (j : Int) = some true := by
  induction d with
  | zero =>
    intro k j hj hk
    obtain ⟨k, rfl⟩ : ∃ m, k = m + 1 := ⟨k - 1, by omega⟩
    rw [List.take_of_length_le (by omega)]
    simp only [argosylaw19_OracleBack.l0]
    rw [if_neg (by omega)]
    by_cases h0 : i ≥ 0
    · rw [if_pos h0]
      exact (hend k (by omega) _).resolve_right (by rw [if_pos h0]; simp)
    · rw [if_neg h0]
      exact (hend k (by omega) _).resolve_right (by rw [if_neg h0]; simp)
  | succ d ih =>
    intro k j hj hk
    obtain ⟨k, rfl⟩ : ∃ m, k = m + 1 := ⟨k - 1, by omega⟩
    have hlt : j < fails.length := by omega
    have htk : fails.take (j + 1) = fails.take j ++ [fails[j]] := List.take_succ_eq_append_getElem hlt
    have hn := ih k (j + 1) (by omega) (by omega)
    have hjl : (j : Int) < (fails.length : Int) := by omega
    have hj0 : (0 : Int) ≤ j := by omega
    have hw : wrap64 ((j : Int) + 1) = ((j + 1 : Nat) : Int) := w64_small (by omega) (by omega)
    simp only [argosylaw19_OracleBack.l0]
    rw [if_pos hjl, hw]
    by_cases hm : i ∈ fails.take j
    · have hm' : i ∈ fails.take (j + 1) := by rw [htk]; exact List.mem_append_left _ hm
      rw [decide_eq_true hm] at *
      rw [decide_eq_true hm'] at hn
      rw [if_pos rfl]
      exact hn
    · rw [decide_eq_false hm, if_neg (by decide), if_pos hj0, rd_at _ _ hlt]
      have he : (fails[j] == i) = decide (i ∈ fails.take (j + 1)) := by
        rw [htk]
        by_cases hc : fails[j] = i
        · rw [hc]; simp
        · have : ¬ i ∈ fails.take j ++ [fails[j]] := by
            rw [List.mem_append, List.mem_singleton]
            rintro (h | h)
            · exact hm h
            · exact hc h.symm
          rw [decide_eq_false this, beq_eq_false_iff_ne]; exact hc
      rw [he]
      exact hn

theorem OracleBack : ∀ (x0 : List Int) (x1 : List Int) (x2 : Int), (x0.length ≤ maxLen ∧ ∀ y ∈ x0, (Lit.int .i64 y).wf = true) → (x1.length ≤ maxLen ∧ ∀ y ∈ x1, (Lit.int .i64 y).wf = true) → ((Lit.int .i64 x2).wf = true) → ∃ k, argosylaw19_OracleBack.f k x0 x1 x2 = some true := by
  intro fails slips i _ _ _
  refine ⟨1001, ?_⟩
  have hl : argosylaw19_lives.f 1000 = some true := lives_ge (by decide)
  have hj : argosylaw19_OracleBack.j0 1001 fails slips i true = some true := by
    simp only [argosylaw19_OracleBack.j0, hl]; rfl
  unfold argosylaw19_OracleBack.f
  by_cases h0 : (fails.length : Int) > 200
  · rw [if_pos h0]; exact hj
  · rw [if_neg h0]
    by_cases h1 : (slips.length : Int) > 200
    · rw [decide_eq_true h1]; exact hj
    · rw [decide_eq_false h1]
      have hm := make_eq fails slips (by omega) 1000 (by omega)
      simp only [argosylaw19_OracleBack.j0]
      rw [if_neg (by decide), hm]
      cases hk : makes fails slips with
      | none => rw [hl]; rfl
      | some out =>
        unfold makes at hk
        by_cases hc : slips.length ≤ 64 ∧ (∀ x ∈ slips, 0 ≤ x ∧ x ≤ 3) ∧ (∀ x ∈ fails, 0 ≤ x ∧ x < 64)
        · rw [if_pos hc] at hk
          obtain rfl := Option.some.inj hk
          obtain ⟨hsl, hs, hf⟩ := hc
          simp only [Option.bind_some]
          rw [if_pos trivial]
          have hb := made_byte (fails := fails) hs
          refine back_loop fails slips _ i 0 (by omega) ?_ fails.length 1000 0 (by omega) (by omega)
          intro k hk b
          by_cases hbv : b = (if i ≥ 0 then decide (i < (slips.length : Int)) else false)
          · left
            obtain ⟨k, rfl⟩ : ∃ m, k = m + 1 := ⟨k - 1, by omega⟩
            have hlk : argosylaw19_lives.f k = some true ∨ k = 99 := by
              rcases Nat.lt_or_ge k 100 with h | h
              · right; omega
              · left; exact lives_ge h
            have hlv : argosylaw19_lives.f k = some true := by
              rcases hlk with h | h
              · exact h
              · rw [h]; decide +kernel
            have hfe := fails_eq hb i
            have hse := slips_eq hb i
            rw [made_fails hs hf] at hfe
            rw [made_slips hs hsl] at hse
            simp only [argosylaw19_OracleBack.j2]
            rw [hfe, hse, hlv]
            cases b with
            | true =>
              by_cases hi : i ≥ 0
              · rw [if_pos hi] at hbv
                have hil : i < (slips.length : Int) := of_decide_eq_true hbv.symm
                rw [if_pos rfl, if_pos hi, if_pos hil, if_pos (show (0 : Int) ≤ i from hi)]
                simp only [Option.bind_some]
                rw [if_pos (by simp), if_pos (by unfold rd; rfl)]
              · rw [if_neg hi] at hbv; cases hbv
            | false =>
              rw [if_neg (by decide)]
              simp only [Option.bind_some]
              rw [if_pos (by simp)]
              have hz : (if 0 ≤ i then slips.getD i.toNat 0 else 0) = 0 := by
                by_cases hi : i ≥ 0
                · rw [if_pos hi] at hbv
                  have hil : ¬ i < (slips.length : Int) := of_decide_eq_false hbv.symm
                  rw [if_pos hi, List.getD_eq_getElem?_getD, List.getElem?_eq_none (by omega)]; rfl
                · rw [if_neg (by omega)]
              rw [if_pos hz]
          · right; exact hbv
        · rw [if_neg hc] at hk; cases hk

end Go.Proofs.YtifmchddekgmbaaDoor.Pure
