import Derived.Test.YtifmchddekgmbaaDoorSOracle
import Derived.Test.YtifmchddekgmbaaDoorFx3
import Derived.Test.YtifmchddekgmbaaDoorFx3
namespace Go.Proofs.YtifmchddekgmbaaDoor.S
open Go.RowKit Go.Proofs.YtifmchddekgmbaaDoor.F Go.Proofs.YtifmchddekgmbaaDoorW.PrintWords Go.Proofs.YtifmchddekgmbaaDoorW.PrintLast Go.Proofs.YtifmchddekgmbaaDoorW.PrintMore

/-! The reference of the oracle, and how many tries there are at most. -/
theorem bt_str {l : List Int} (h : ∀ x ∈ l, IsByte x) (i : Int) (h0 : 0 ≤ i) : bt (strOfNums l) i = byteAt l i := by
  unfold byteAt bt
  rw [if_neg (by omega)]
  by_cases hi : i.toNat < l.length
  · have hs : i.toNat < (strOfNums l).size := by rw [strOfNums_size]; exact hi
    rw [dif_pos hs, List.getD_eq_getElem?_getD, List.getElem?_eq_getElem hi]
    have hb := h l[i.toNat] (List.getElem_mem hi)
    have he : (strOfNums l)[i.toNat]'hs = UInt8.ofNat (l[i.toNat]).toNat := by
      simp [strOfNums, ByteArray.getElem_eq_getElem_data]
    rw [he]
    obtain ⟨b0, b1⟩ := hb
    simp only [Option.getD_some]
    rw [UInt8.toNat_ofNat']
    omega
  · have hs : ¬ i.toNat < (strOfNums l).size := by rw [strOfNums_size]; exact hi
    rw [dif_neg hs, List.getD_eq_getElem?_getD, List.getElem?_eq_none (by omega)]; rfl
theorem refAt_eq {l : List Int} (h : ∀ x ∈ l, IsByte x) (i : Int) : argosyref19_at.f (strOfNums l) i = some (byteAt l i) := by
  unfold argosyref19_at.f
  by_cases h0 : i < 0
  · rw [if_pos h0]; unfold byteAt; rw [if_pos h0]
  · rw [if_neg h0, strOfNums_size]
    by_cases h1 : i ≥ (l.length : Int)
    · rw [if_pos h1]; unfold byteAt; rw [if_neg h0, List.getD_eq_getElem?_getD, List.getElem?_eq_none (by omega)]; rfl
    · rw [if_neg h1, if_pos (by omega), if_pos (by omega), bt_str h i (by omega)]
      have := byteAt_byte h i
      unfold IsByte at this
      rw [w64_small (by omega) (by omega)]
theorem refFails_eq {l : List Int} (h : ∀ x ∈ l, IsByte x) (i : Int) : argosyref19_Fails.f (strOfNums l) i = some (failsB l i) := by
  unfold argosyref19_Fails.f
  rw [refAt_eq h, Option.bind_some]
  have := byteAt_byte h i
  unfold IsByte at this
  unfold failsB
  rw [Int.tdiv_eq_ediv_of_nonneg (by omega), w64_small (by omega) (by omega), Int.tmod_eq_emod_of_nonneg (by omega)]
theorem refSlips_eq {l : List Int} (h : ∀ x ∈ l, IsByte x) (i : Int) : argosyref19_Slips.f (strOfNums l) i = some (slipsN l i) := by
  unfold argosyref19_Slips.f
  rw [refAt_eq h, Option.bind_some]
  have := byteAt_byte h i
  unfold IsByte at this
  unfold slipsN
  rw [Int.tmod_eq_emod_of_nonneg (by omega)]
theorem refOk_eq {l : List Int} (h : ∀ x ∈ l, IsByte x) (i : Int) (u : Bool) (t : Int) : argosyref19_Ok.f (strOfNums l) i u t = some (okB l i u t) := by
  unfold argosyref19_Ok.f okB
  cases u
  · rw [if_neg (by decide), refFails_eq h]; rfl
  · rw [if_pos rfl, refSlips_eq h]; rfl
/-- The tries of d items from i on. -/
def mostFrom (l : List Int) : Nat → Int → Int
  | 0, _ => 0
  | d + 1, i => (if failsB l i then 1 else slipsN l i + 2) + mostFrom l d (i + 1)
theorem most_loop {l : List Int} (h : ∀ x ∈ l, IsByte x) (N : Int) (hN : N ≤ 64) (d : Nat) : ∀ (k : Nat) (i s : Int), i + d = N → 0 ≤ i → 0 ≤ s → s ≤ 5 * i → d < k →
    oracle_Most.l0 k l s N i = some (s + mostFrom l d i) := by
  induction d with
  | zero =>
    intro k i s hi h0 hs0 hs hk
    obtain ⟨k, rfl⟩ : ∃ m, k = m + 1 := ⟨k - 1, by omega⟩
    simp only [oracle_Most.l0]
    rw [if_neg (by omega)]
    simp [mostFrom]
  | succ d ih =>
    intro k i s hi h0 hs0 hs hk
    obtain ⟨k, rfl⟩ : ∃ m, k = m + 1 := ⟨k - 1, by omega⟩
    have hr := slipsN_range l i
    simp only [oracle_Most.l0]
    rw [if_pos (by omega), fails_eq h, Option.bind_some]
    cases hf : failsB l i with
    | true =>
      rw [if_pos rfl, w64_small (x := s + 1) (by omega) (by omega), w64_small (x := i + 1) (by omega) (by omega), ih k (i + 1) (s + 1) (by omega) (by omega) (by omega) (by omega) (by omega)]
      simp only [mostFrom, hf, if_true]
      rw [Int.add_assoc]
    | false =>
      rw [if_neg (by decide), slips_eq h, Option.bind_some, w64_small (x := s + 1) (by omega) (by omega), w64_small (x := slipsN l i + 1) (by omega) (by omega), w64_small (x := i + 1) (by omega) (by omega),
        w64_small (x := s + 1 + (slipsN l i + 1)) (by omega) (by omega), ih k (i + 1) _ (by omega) (by omega) (by omega) (by omega) (by omega)]
      simp only [mostFrom, hf]
      congr 1
      simp only [Bool.false_eq_true, if_false]
      omega
theorem refMost_loop {l : List Int} (h : ∀ x ∈ l, IsByte x) (n N : Int) (hN : N = if n < 0 then 0 else if n < 64 then n else 64) (d : Nat) : ∀ (k : Nat) (i s : Int), i + d = N → 0 ≤ i → 0 ≤ s → s ≤ 5 * i → 2 * d + 1 < k →
    argosyref19_Most.l0 k (strOfNums l) n s i = some (s + mostFrom l d i) := by
  have hN64 : N ≤ 64 := by rw [hN]; split <;> (try split) <;> omega
  have hN0 : 0 ≤ N := by rw [hN]; split <;> (try split) <;> omega
  induction d with
  | zero =>
    intro k i s hi h0 hs0 hs hk
    obtain ⟨k, rfl⟩ : ∃ m, k = m + 2 := ⟨k - 2, by omega⟩
    have hj : argosyref19_Most.j1 (k + 1) (strOfNums l) n s i false = some s := by simp only [argosyref19_Most.j1]; rw [if_neg (by decide)]
    simp only [argosyref19_Most.l0, mostFrom]
    by_cases hlt : i < n
    · have h64 : ¬ i < 64 := by
        rw [hN] at hi
        split at hi
        · omega
        · split at hi <;> omega
      rw [if_pos hlt, decide_eq_false h64, hj, Int.add_zero]
    · rw [if_neg hlt, hj, Int.add_zero]
  | succ d ih =>
    intro k i s hi h0 hs0 hs hk
    obtain ⟨k, rfl⟩ : ∃ m, k = m + 2 := ⟨k - 2, by omega⟩
    have hr := slipsN_range l i
    have hlt : i < n ∧ i < 64 := by
      rw [hN] at hi
      split at hi
      · omega
      · split at hi <;> omega
    simp only [argosyref19_Most.l0]
    rw [if_pos hlt.1, decide_eq_true hlt.2]
    simp only [argosyref19_Most.j1]
    rw [if_pos trivial, refFails_eq h, Option.bind_some]
    cases hf : failsB l i with
    | true =>
      rw [if_pos rfl, w64_small (x := s + 1) (by omega) (by omega), w64_small (x := i + 1) (by omega) (by omega), ih k (i + 1) (s + 1) (by omega) (by omega) (by omega) (by omega) (by omega)]
      simp only [mostFrom, hf, if_true]
      rw [Int.add_assoc]
    | false =>
      rw [if_neg (by decide), refSlips_eq h, Option.bind_some, w64_small (x := s + 1) (by omega) (by omega), w64_small (x := i + 1) (by omega) (by omega),
        w64_small (x := s + 1 + slipsN l i) (by omega) (by omega), w64_small (x := s + 1 + slipsN l i + 1) (by omega) (by omega), ih k (i + 1) _ (by omega) (by omega) (by omega) (by omega) (by omega)]
      simp only [mostFrom, hf]
      congr 1
      simp only [Bool.false_eq_true, if_false]
      omega
theorem most_same {l : List Int} (h : ∀ x ∈ l, IsByte x) (n : Int) (k : Nat) (hk : 200 ≤ k) : ∃ r, oracle_Most.f k l n = some r ∧ argosyref19_Most.f k (strOfNums l) n = some r := by
  obtain ⟨N, hN⟩ : ∃ N : Int, N = if n < 0 then 0 else if n < 64 then n else 64 := ⟨_, rfl⟩
  have hN64 : N ≤ 64 := by rw [hN]; split <;> (try split) <;> omega
  have hN0 : 0 ≤ N := by rw [hN]; split <;> (try split) <;> omega
  have hm : mn (mx n 0) 64 = N := by
    rw [hN]; unfold mn mx
    split <;> split <;> (try split) <;> omega
  refine ⟨0 + mostFrom l N.toNat 0, ?_, ?_⟩
  · unfold oracle_Most.f
    rw [hm]
    exact most_loop h N hN64 N.toNat k 0 0 (by omega) (by omega) (by omega) (by omega) (by omega)
  · unfold argosyref19_Most.f
    exact refMost_loop h n N hN N.toNat k 0 0 (by omega) (by omega) (by omega) (by omega) (by omega)
end Go.Proofs.YtifmchddekgmbaaDoor.S
