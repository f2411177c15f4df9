import Derived.Test.YtifmchddekgmbaaDoorSMake
import Derived.Test.YtifmchddekgmbaaDoorFx5
namespace Go.Proofs.YtifmchddekgmbaaDoor.S
open Go.RowKit Go.Proofs.YtifmchddekgmbaaDoor.F Go.Proofs.YtifmchddekgmbaaDoorW.PrintWords Go.Proofs.YtifmchddekgmbaaDoorW.PrintLast

/-! The reference's Make. -/
theorem in_loop (l : List Int) (x : Int) (hl : l.length ≤ 140737488351232) (d : Nat) : ∀ (k i : Nat), i + d = l.length → d < k → argosyref19_in.l0 k l x (i : Int) = some (decide (x ∈ l.drop i)) := by
  induction d with
  | zero =>
    intro k i hi hk
    obtain ⟨k, rfl⟩ : ∃ m, k = m + 1 := ⟨k - 1, by omega⟩
    simp only [argosyref19_in.l0]
    rw [if_neg (by omega), List.drop_eq_nil_of_le (by omega)]; simp
  | succ d ih =>
    intro k i hi hk
    obtain ⟨k, rfl⟩ : ∃ m, k = m + 1 := ⟨k - 1, by omega⟩
    have hilt : i < l.length := by omega
    simp only [argosyref19_in.l0]
    rw [if_pos (by omega), if_pos (by omega), rd_at _ _ hilt, List.drop_eq_getElem_cons hilt]
    by_cases h : l[i] = x
    · rw [if_pos h]; simp [h]
    · rw [if_neg h, w64_small (by omega) (by omega)]
      have := ih k (i + 1) (by omega) (by omega)
      have hc : ((i : Int) + 1) = ((i + 1 : Nat) : Int) := by omega
      rw [hc, this]
      have h' : (x ∈ l[i] :: l.drop (i + 1)) ↔ x ∈ l.drop (i + 1) := by
        rw [List.mem_cons]
        exact ⟨fun hh => hh.resolve_left (fun e => h e.symm), Or.inr⟩
      simp only [h']
theorem in_eq (l : List Int) (x : Int) (hl : l.length ≤ 140737488351232) (k : Nat) (hk : l.length < k) : argosyref19_in.f k l x = some (decide (x ∈ l)) := by
  have := in_loop l x hl l.length k 0 (by omega) hk
  rw [List.drop_zero] at this
  exact this
theorem str_snoc (l : List Int) (b : Int) : strOfNums l ++ strOfNums [b] = strOfNums (l ++ [b]) := by
  apply ByteArray.ext
  simp [strOfNums]
theorem str_take (l : List Int) (n : Nat) : (strOfNums l).extract 0 n = strOfNums (l.take n) := by
  apply ByteArray.ext
  simp [strOfNums, ByteArray.data_extract]
theorem trim0_take (l : List Int) : l.take (trim0 l).length = trim0 l := by
  have h : trim0 l <+: l := by
    unfold trim0
    have := List.dropWhile_suffix (l := l.reverse) (· == 0)
    have h2 := List.reverse_prefix.2 this
    rwa [List.reverse_reverse] at h2
  exact (List.prefix_iff_eq_take.1 h).symm
theorem made_range {fails slips : List Int} (hs : okSlips slips) (i : Nat) : 0 ≤ made fails slips i ∧ made fails slips i ≤ 7 := by
  have := getD_slips hs i
  unfold made; split <;> omega
theorem madeAll_get (fails slips : List Int) (i : Nat) (h : i < (madeAll fails slips).length) : (madeAll fails slips)[i] = made fails slips i := by simp [madeAll]
theorem madeAll_length (fails slips : List Int) : (madeAll fails slips).length = 64 := by simp [madeAll]
theorem ref_tail (fails slips M : List Int) (hs : okSlips slips) (hf : fails.length ≤ 140737488351232) (hlen : M.length = 64) (hget : ∀ (i : Nat) (h : i < M.length), M[i] = slips.getD i 0 + if (i : Int) ∈ fails then 4 else 0) (d : Nat) : ∀ (k i : Nat), i + d = 64 → 2 * d + fails.length + 10 < k →
    argosyref19_Make.l2 k fails slips (strOfNums (M.take i)) ((trim0 (M.take i)).length : Int) (i : Int) = some (strOfNums (trim0 M), 0) := by
  induction d with
  | zero =>
    intro k i hi hk
    obtain ⟨k, rfl⟩ : ∃ m, k = m + 1 := ⟨k - 1, by omega⟩
    have hti : M.take i = M := List.take_of_length_le (by omega)
    rw [hti]
    have hle : (trim0 M).length ≤ M.length := by
      have := congrArg List.length (trim0_take M)
      rw [List.length_take] at this
      omega
    simp only [argosyref19_Make.l2]
    rw [if_neg (by omega), if_pos (by omega), if_pos (by rw [strOfNums_size]; omega), Int.toNat_natCast, str_take, trim0_take]
  | succ d ih =>
    intro k i hi hk
    obtain ⟨k, rfl⟩ : ∃ m, k = m + 2 := ⟨k - 2, by omega⟩
    have h64 : i < 64 := by omega
    have hg := getD_slips hs i
    have hb := hget i (by omega)
    have htk : M.take (i + 1) = M.take i ++ [M[i]] := List.take_succ_eq_append_getElem (by omega)
    obtain ⟨b, hb'⟩ : ∃ b, M[i] = b := ⟨_, rfl⟩
    rw [hb'] at hb htk
    have hlt : (M.take i).length = i := by rw [List.length_take]; omega
    have hsz : (strOfNums (M.take i)).size + (strOfNums [b]).size ≤ 9223372036854775807 := by
      rw [strOfNums_size, strOfNums_size, hlt, List.length_singleton]; omega
    have hnext := ih k (i + 1) (by omega) (by omega)
    obtain ⟨g, hg'⟩ : ∃ g, slips.getD i 0 = g := ⟨_, rfl⟩
    rw [hg'] at hg hb
    have hrd : rd slips (i : Int) = g := by unfold rd; rw [Int.toNat_natCast]; exact hg'
    have hg0 : ¬ i < slips.length → g = 0 := fun h => by rw [← hg', List.getD_eq_getElem?_getD, List.getElem?_eq_none (by omega)]; rfl
    clear hget hg' hb' ih
    have hkf : fails.length < k := by omega
    have hb0 : ¬ b > 0 → b = 0 := by intro h; split at hb <;> omega
    have hb1 : b > 0 → ¬ b = 0 := by omega
    have hgw : wrap64 (g + 4) = g + 4 := w64_small (by omega) (by omega)
    have hm2 : b % 256 = b := by split at hb <;> omega
    have hi64 : (i : Int) < 64 := by omega
    have hi0 : (0 : Int) ≤ i := by omega
    have hil0 : ¬ (i : Int) < (slips.length : Int) → g = 0 := fun h => hg0 (by omega)
    have hw : wrap64 ((i : Int) + 1) = ((i + 1 : Nat) : Int) := w64_small (by omega) (by omega)
    have hfin : (if b > 0 then argosyref19_Make.l2 k fails slips (strOfNums (M.take i) ++ strOfNums [b]) (wrap64 ((i : Int) + 1)) (wrap64 ((i : Int) + 1))
        else argosyref19_Make.l2 k fails slips (strOfNums (M.take i) ++ strOfNums [b]) ((trim0 (M.take i)).length : Int) (wrap64 ((i : Int) + 1))) = some (strOfNums (trim0 M), 0) := by
      rw [hw, str_snoc, ← htk]
      by_cases hp : b > 0
      · rw [if_pos hp]
        have ht : (trim0 (M.take (i + 1))).length = i + 1 := by
          rw [htk, trim0_snoc, if_neg (hb1 hp), List.length_append, hlt, List.length_singleton]
        rw [ht] at hnext
        exact hnext
      · rw [if_neg hp]
        have ht : trim0 (M.take (i + 1)) = trim0 (M.take i) := by
          rw [htk, trim0_snoc, if_pos (hb0 hp)]
        rw [ht] at hnext
        exact hnext
    have hj : argosyref19_Make.j3 (k + 1) fails slips (strOfNums (M.take i)) ((trim0 (M.take i)).length : Int) (i : Int) g = some (strOfNums (trim0 M), 0) := by
      simp only [argosyref19_Make.j3]
      rw [in_eq fails i hf k hkf, Option.bind_some]
      by_cases hin : (i : Int) ∈ fails
      · have hmk : g + 4 = b := by rw [hb, if_pos hin]
        rw [if_pos (by simpa using hin), hgw, hmk, hm2]
        simp only [Option.bind_some]
        rw [if_pos hsz]
        exact hfin
      · have hmk : g = b := by rw [hb, if_neg hin, Int.add_zero]
        rw [if_neg (by simpa using hin), hmk, hm2]
        simp only [Option.bind_some]
        rw [if_pos hsz]
        exact hfin
    simp only [argosyref19_Make.l2]
    rw [if_pos hi64]
    by_cases hil : (i : Int) < (slips.length : Int)
    · rw [if_pos hil, if_pos hi0, hrd]
      exact hj
    · rw [if_neg hil]
      rw [hil0 hil] at hj
      exact hj
theorem ref_fails (fails slips : List Int) (hs : okSlips slips) (hf : fails.length ≤ 140737488351232) (d : Nat) : ∀ (k i : Nat), i + d = fails.length → d + fails.length + 200 < k → (∀ x ∈ fails.take i, 0 ≤ x ∧ x < 64) →
    argosyref19_Make.l1 k fails slips (i : Int) = if (∀ x ∈ fails, 0 ≤ x ∧ x < 64) then some (strOfNums (trim0 (madeAll fails slips)), 0) else some (⟨#[]⟩, 2) := by
  induction d with
  | zero =>
    intro k i hi hk hok
    obtain ⟨k, rfl⟩ : ∃ m, k = m + 1 := ⟨k - 1, by omega⟩
    have hti : fails.take i = fails := List.take_of_length_le (by omega)
    rw [hti] at hok
    simp only [argosyref19_Make.l1]
    rw [if_neg (by omega), if_pos hok]
    exact ref_tail fails slips _ hs hf (madeAll_length _ _) (fun i h => madeAll_get fails slips i h) 64 k 0 (by omega) (by omega)
  | succ d ih =>
    intro k i hi hk hok
    obtain ⟨k, rfl⟩ : ∃ m, k = m + 1 := ⟨k - 1, by omega⟩
    have hilt : i < fails.length := by omega
    simp only [argosyref19_Make.l1]
    rw [if_pos (by omega), if_pos (by omega), rd_at _ _ hilt]
    by_cases hlo : fails[i] < 0
    · rw [if_pos hlo, if_neg (fun h => by have := h _ (List.getElem_mem hilt); omega)]
    · rw [if_neg hlo]
      by_cases hhi : fails[i] ≥ 64
      · rw [if_pos hhi, if_neg (fun h => by have := h _ (List.getElem_mem hilt); omega)]
      · rw [if_neg hhi, w64_small (by omega) (by omega)]
        have htk : fails.take (i + 1) = fails.take i ++ [fails[i]] := by rw [List.take_succ_eq_append_getElem hilt]
        have := ih k (i + 1) (by omega) (by omega) (by rw [htk]; intro x hx; rcases List.mem_append.1 hx with h | h; exact hok x h; rw [List.mem_singleton] at h; subst h; omega)
        rw [← this]; congr 1
theorem ref_slips (fails slips : List Int) (hf : fails.length ≤ 140737488351232) (hsl : slips.length ≤ 64) (d : Nat) : ∀ (k i : Nat), i + d = slips.length → d + fails.length + fails.length + 300 < k → (∀ x ∈ slips.take i, 0 ≤ x ∧ x ≤ 3) →
    argosyref19_Make.l0 k fails slips (i : Int) = if (∀ x ∈ slips, 0 ≤ x ∧ x ≤ 3) then (if (∀ x ∈ fails, 0 ≤ x ∧ x < 64) then some (strOfNums (trim0 (madeAll fails slips)), 0) else some (⟨#[]⟩, 2)) else some (⟨#[]⟩, 2) := by
  induction d with
  | zero =>
    intro k i hi hk hok
    obtain ⟨k, rfl⟩ : ∃ m, k = m + 1 := ⟨k - 1, by omega⟩
    have hti : slips.take i = slips := List.take_of_length_le (by omega)
    rw [hti] at hok
    simp only [argosyref19_Make.l0]
    rw [if_neg (by omega), if_pos hok]
    exact ref_fails fails slips hok hf fails.length k 0 (by omega) (by omega) (by simp)
  | succ d ih =>
    intro k i hi hk hok
    obtain ⟨k, rfl⟩ : ∃ m, k = m + 1 := ⟨k - 1, by omega⟩
    have hilt : i < slips.length := by omega
    simp only [argosyref19_Make.l0]
    rw [if_pos (by omega), if_pos (by omega), rd_at _ _ hilt]
    by_cases hlo : slips[i] < 0
    · rw [if_pos hlo, if_neg (fun h => by have := h _ (List.getElem_mem hilt); omega)]
    · rw [if_neg hlo]
      by_cases hhi : slips[i] > 3
      · rw [if_pos hhi, if_neg (fun h => by have := h _ (List.getElem_mem hilt); omega)]
      · rw [if_neg hhi, w64_small (by omega) (by omega)]
        have htk : slips.take (i + 1) = slips.take i ++ [slips[i]] := by rw [List.take_succ_eq_append_getElem hilt]
        have := ih k (i + 1) (by omega) (by omega) (by rw [htk]; intro x hx; rcases List.mem_append.1 hx with h | h; exact hok x h; rw [List.mem_singleton] at h; subst h; omega)
        rw [← this]; congr 1
theorem refMake_eq (fails slips : List Int) (hf : fails.length ≤ 140737488351232) (k : Nat) (hk : 2 * fails.length + 400 < k) :
    argosyref19_Make.f k fails slips = match makes fails slips with | some l => some (strOfNums l, 0) | none => some (⟨#[]⟩, 2) := by
  unfold argosyref19_Make.f makes
  by_cases hsl : (slips.length : Int) > 64
  · rw [if_pos hsl, if_neg (by omega)]
  · rw [if_neg hsl]
    have h := ref_slips fails slips hf (by omega) slips.length k 0 (by omega) (by omega) (by simp)
    have h' : argosyref19_Make.l0 k fails slips 0 = argosyref19_Make.l0 k fails slips ((0 : Nat) : Int) := rfl
    rw [h', h]
    by_cases h1 : ∀ x ∈ slips, 0 ≤ x ∧ x ≤ 3
    · rw [if_pos h1]
      by_cases h2 : ∀ x ∈ fails, 0 ≤ x ∧ x < 64
      · rw [if_pos h2, if_pos ⟨by omega, h1, h2⟩]
      · rw [if_neg h2, if_neg (fun h => h2 h.2.2)]
    · rw [if_neg h1, if_neg (fun h => h1 h.2.1)]
end Go.Proofs.YtifmchddekgmbaaDoor.S
