import Derived.Test.YtifmchddekgmbaaDoorSMake
namespace Go.Proofs.YtifmchddekgmbaaDoor.S
open Go.RowKit Go.Proofs.YtifmchddekgmbaaDoor.F Go.Proofs.YtifmchddekgmbaaDoorW.PrintWords Go.Proofs.YtifmchddekgmbaaDoorW.PrintLast

/-! What was made says what it was made of. -/
theorem trim0_getD (l : List Int) : ∀ n : Nat, (trim0 l).getD n 0 = l.getD n 0 := by
  obtain ⟨m, hm⟩ : ∃ m, l.reverse = m := ⟨_, rfl⟩
  have hl : l = m.reverse := by rw [← hm, List.reverse_reverse]
  subst hl
  clear hm
  induction m with
  | nil => intro n; rfl
  | cons x m ih =>
    intro n
    rw [List.reverse_cons, trim0_snoc]
    by_cases h : x = 0
    · rw [if_pos h, ih n, h]
      simp only [List.getD_eq_getElem?_getD]
      rcases Nat.lt_trichotomy n m.reverse.length with hn | hn | hn
      · rw [List.getElem?_append_left hn]
      · rw [List.getElem?_append_right (by omega), List.getElem?_eq_none (by omega), hn, Nat.sub_self]; rfl
      · rw [List.getElem?_eq_none (by omega), List.getElem?_eq_none (by simp at hn ⊢; omega)]
    · rw [if_neg h]
theorem mem_trim0 {l : List Int} {x : Int} (h : x ∈ trim0 l) : x ∈ l := by
  unfold trim0 at h
  rw [List.mem_reverse] at h
  have := (List.dropWhile_suffix (l := l.reverse) (· == 0)).subset h
  rwa [List.mem_reverse] at this
theorem made_byte {fails slips : List Int} (hs : okSlips slips) : ∀ x ∈ trim0 (madeAll fails slips), IsByte x := by
  intro x hx
  obtain ⟨i, _, rfl⟩ := List.mem_map.1 (mem_trim0 hx)
  have := getD_slips hs i
  unfold made IsByte
  split <;> omega
theorem made_at {fails slips : List Int} (i : Int) : byteAt (trim0 (madeAll fails slips)) i = if 0 ≤ i ∧ i < 64 then made fails slips i.toNat else 0 := by
  unfold byteAt
  by_cases h0 : i < 0
  · rw [if_pos h0, if_neg (by omega)]
  · rw [if_neg h0, trim0_getD, List.getD_eq_getElem?_getD]
    by_cases h1 : i < 64
    · have hi : i.toNat < 64 := by omega
      rw [if_pos ⟨by omega, h1⟩]
      unfold madeAll
      rw [List.getElem?_map, List.getElem?_range hi]; rfl
    · rw [if_neg (by omega), List.getElem?_eq_none (by unfold madeAll; simp; omega)]; rfl
theorem made_fails {fails slips : List Int} (hs : okSlips slips) (hf : okFails fails) (i : Int) : failsB (trim0 (madeAll fails slips)) i = decide (i ∈ fails) := by
  unfold failsB
  rw [made_at]
  by_cases h : 0 ≤ i ∧ i < 64
  · rw [if_pos h]
    have hg := getD_slips hs i.toNat
    have hi : ((i.toNat : Nat) : Int) = i := by omega
    unfold made
    rw [hi]
    by_cases hm : i ∈ fails
    · rw [if_pos hm, decide_eq_true hm, beq_iff_eq]; omega
    · rw [if_neg hm, decide_eq_false hm, beq_eq_false_iff_ne]; omega
  · rw [if_neg h]
    have hm : ¬ i ∈ fails := fun hm => h (hf i hm)
    rw [decide_eq_false hm]; rfl
theorem made_slips {fails slips : List Int} (hs : okSlips slips) (hl : slips.length ≤ 64) (i : Int) : slipsN (trim0 (madeAll fails slips)) i = if 0 ≤ i then slips.getD i.toNat 0 else 0 := by
  unfold slipsN
  rw [made_at]
  by_cases h0 : 0 ≤ i
  · rw [if_pos h0]
    by_cases h1 : i < 64
    · rw [if_pos ⟨h0, h1⟩]
      have hg := getD_slips hs i.toNat
      unfold made
      split <;> omega
    · rw [if_neg (by omega), List.getD_eq_getElem?_getD, List.getElem?_eq_none (by omega)]; rfl
  · rw [if_neg (by omega), if_neg h0]; rfl
end Go.Proofs.YtifmchddekgmbaaDoor.S
