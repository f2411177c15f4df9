import Derived.Test.YtifmchddekgmbaaDoorSOracle
import Derived.Test.YtifmchddekgmbaaDoorFx3
namespace Go.Proofs.YtifmchddekgmbaaDoor.S
open Go.RowKit Go.Proofs.YtifmchddekgmbaaDoor.F Go.Proofs.YtifmchddekgmbaaDoorW.PrintWords Go.Proofs.YtifmchddekgmbaaDoorW.PrintLast

/-! What a script is made of, and what is made. -/
/-- The zeros at the end cut off. -/
def trim0 (l : List Int) : List Int := (l.reverse.dropWhile (· == 0)).reverse
theorem trim0_snoc (l : List Int) (x : Int) : trim0 (l ++ [x]) = if x = 0 then trim0 l else l ++ [x] := by
  unfold trim0
  rw [List.reverse_append]
  simp only [List.reverse_cons, List.reverse_nil, List.nil_append, List.singleton_append, List.dropWhile_cons]
  by_cases h : x = 0
  · rw [if_pos (by simpa using h), if_pos h]
  · rw [if_neg (by simpa using h), if_neg h]; simp
theorem trim0_nil : trim0 [] = [] := rfl
theorem trim_loop (d : Nat) : ∀ (l : List Int) (k : Nat), l.length = d → l.length ≤ 9223372036854775807 → d < k → bytes_trimRightByte.l0 k l 0 = some (trim0 l) := by
  induction d with
  | zero =>
    intro l k hl _ hk
    obtain ⟨k, rfl⟩ : ∃ m, k = m + 1 := ⟨k - 1, by omega⟩
    obtain rfl : l = [] := List.eq_nil_of_length_eq_zero hl
    simp only [bytes_trimRightByte.l0]
    rw [if_neg (by simp)]; rfl
  | succ d ih =>
    intro l k hl hb hk
    obtain ⟨k, rfl⟩ : ∃ m, k = m + 1 := ⟨k - 1, by omega⟩
    obtain ⟨a, x, rfl⟩ : ∃ a x, l = a ++ [x] := by
      rcases List.eq_nil_or_concat l with h | ⟨a, x, h⟩
      · rw [h] at hl; simp at hl
      · exact ⟨a, x, by rw [h, List.concat_eq_append]⟩
    have hla : a.length = d := by simp at hl; exact hl
    have hw : wrap64 (((a ++ [x]).length : Int) - 1) = a.length := by
      rw [hl, hla]; unfold wrap64; omega
    simp only [bytes_trimRightByte.l0]
    rw [hw, if_pos (by rw [hl]; omega), if_pos (by omega), if_pos (by rw [hl, hla]; omega)]
    have hrd : rd (a ++ [x]) (a.length : Int) = x := by unfold rd; simp [List.getD_eq_getElem?_getD]
    rw [hrd, trim0_snoc]
    by_cases h : x = 0
    · rw [if_pos h, if_pos (by rw [hl, hla]; omega), if_pos h]
      have : (a ++ [x]).take ((a.length : Int)).toNat = a := by simp
      rw [this]
      exact ih a k hla (by omega) (by omega)
    · rw [if_neg h, if_neg h]
theorem trimRight_eq (l : List Int) (k : Nat) (hl : l.length = 64) (hk : 64 < k) : bytes_TrimRight.f k l (⟨#[0]⟩ : ByteArray) = some (trim0 l) := by
  unfold bytes_TrimRight.f
  rw [if_neg (by omega), if_pos (by decide), if_pos (by decide)]
  exact trim_loop 64 l k hl (by omega) hk

/-- The byte of item i. -/
def made (fails slips : List Int) (i : Nat) : Int := slips.getD i 0 + if (i : Int) ∈ fails then 4 else 0
def madeAll (fails slips : List Int) : List Int := (List.range 64).map (made fails slips)
def okSlips (l : List Int) : Prop := ∀ x ∈ l, 0 ≤ x ∧ x ≤ 3
def okFails (l : List Int) : Prop := ∀ x ∈ l, 0 ≤ x ∧ x < 64
theorem getD_slips {l : List Int} (h : okSlips l) (i : Nat) : 0 ≤ l.getD i 0 ∧ l.getD i 0 ≤ 3 := by
  rw [List.getD_eq_getElem?_getD]
  cases hx : l[i]? with
  | none => exact ⟨by decide, by decide⟩
  | some x => exact h x (List.mem_of_getElem? hx)
/-- What Make tells: none, or what was made. -/
def makes (fails slips : List Int) : Option (List Int) :=
  if slips.length ≤ 64 ∧ (∀ x ∈ slips, 0 ≤ x ∧ x ≤ 3) ∧ (∀ x ∈ fails, 0 ≤ x ∧ x < 64) then some (trim0 (madeAll fails slips)) else none
theorem rd_at (l : List Int) (i : Nat) (h : i < l.length) : rd l (i : Int) = l[i] := by
  unfold rd
  rw [Int.toNat_natCast, List.getD_eq_getElem?_getD, List.getElem?_eq_getElem h]; rfl
/-- The second loop: the items that fail. -/
theorem make_fails (slips fails : List Int) (hs : okSlips slips) (hf : fails.length ≤ 140737488351232) (d : Nat) : ∀ (k i : Nat), i + d = fails.length → d + 100 < k → (∀ x ∈ fails.take i, 0 ≤ x ∧ x < 64) →
    oracle_Make.l1 k (madeAll (fails.take i) slips) fails (fails.length : Int) (i : Int) =
      if (∀ x ∈ fails, 0 ≤ x ∧ x < 64) then some (trim0 (madeAll fails slips), 0) else some ([], 2) := by
  have hlen : ∀ f, (madeAll f slips).length = 64 := fun f => by simp [madeAll]
  induction d with
  | zero =>
    intro k i hi hk hok
    obtain ⟨k, rfl⟩ : ∃ m, k = m + 1 := ⟨k - 1, by omega⟩
    have hti : fails.take i = fails := List.take_of_length_le (by omega)
    rw [hti] at hok ⊢
    simp only [oracle_Make.l1]
    rw [if_neg (by omega), if_pos hok, trimRight_eq _ _ (hlen _) (by omega)]; rfl
  | succ d ih =>
    intro k i hi hk hok
    obtain ⟨k, rfl⟩ : ∃ m, k = m + 1 := ⟨k - 1, by omega⟩
    have hilt : i < fails.length := by omega
    simp only [oracle_Make.l1]
    rw [if_pos (by omega), if_pos (by omega), if_pos (by omega), rd_at _ _ hilt, hlen]
    by_cases hlo : fails[i] < 0
    · rw [if_pos hlo, if_neg (fun h => by have := h _ (List.getElem_mem hilt); omega)]
    · rw [if_neg hlo]
      by_cases hhi : fails[i] ≥ ((64 : Nat) : Int)
      · rw [if_pos hhi, if_neg (fun h => by have := h _ (List.getElem_mem hilt); omega)]
      · rw [if_neg hhi, if_pos (by omega), if_pos (by omega), w64_small (by omega) (by omega)]
        have htk : fails.take (i + 1) = fails.take i ++ [fails[i]] := by rw [List.take_succ_eq_append_getElem hilt]
        have hstep : (madeAll (fails.take i) slips).set (fails[i]).toNat (Go.bits .or .u8 (rd (madeAll (fails.take i) slips) fails[i]) 4) = madeAll (fails.take (i + 1)) slips := by
          obtain ⟨n, hn⟩ := Int.eq_ofNat_of_zero_le (show 0 ≤ fails[i] by omega)
          have hn64 : n < 64 := by omega
          have hrd : rd (madeAll (fails.take i) slips) fails[i] = made (fails.take i) slips n := by
            rw [hn, rd_at _ _ (by rw [hlen]; exact hn64)]
            simp [madeAll]
          have hm := getD_slips hs n
          have hm7 : 0 ≤ made (fails.take i) slips n ∧ made (fails.take i) slips n ≤ 7 := by unfold made; split <;> omega
          rw [hrd, or4 _ hm7.1 hm7.2, hn, Int.toNat_natCast]
          apply List.ext_getElem
          · rw [List.length_set, hlen, hlen]
          · intro j h1 h2
            rw [List.length_set, hlen] at h1
            rw [List.getElem_set]
            have hget : ∀ f (h : j < (madeAll f slips).length), (madeAll f slips)[j] = made f slips j := fun f h => by simp [madeAll]
            rw [hget, hget]
            by_cases hj : n = j
            · subst hj
              rw [if_pos rfl]
              unfold made
              rw [htk, hn]
              simp only [List.mem_append, List.mem_singleton, or_true, if_true]
              by_cases hmem : (n : Int) ∈ fails.take i
              · rw [if_pos hmem, if_neg (by omega)]
              · rw [if_neg hmem, if_pos (by omega)]; omega
            · rw [if_neg hj]
              unfold made
              rw [htk, hn]
              simp only [List.mem_append, List.mem_singleton]
              have : ¬ (j : Int) = (n : Int) := by omega
              simp only [this, or_false]
        rw [hstep]
        have := ih k (i + 1) (by omega) (by omega) (by rw [htk]; intro x hx; rcases List.mem_append.1 hx with h | h; exact hok x h; rw [List.mem_singleton] at h; subst h; omega)
        rw [← this]; congr 1
/-- The first loop: how often. -/
theorem make_slips (slips fails : List Int) (hf : fails.length ≤ 140737488351232) (hsl : slips.length ≤ 64) (d : Nat) : ∀ (k i : Nat), i + d = slips.length → d + fails.length + 200 < k → (∀ x ∈ slips.take i, 0 ≤ x ∧ x ≤ 3) →
    oracle_Make.l0 k fails (slips.take i ++ List.replicate (64 - i) 0) slips (slips.length : Int) (i : Int) =
      if (∀ x ∈ slips, 0 ≤ x ∧ x ≤ 3) then (if (∀ x ∈ fails, 0 ≤ x ∧ x < 64) then some (trim0 (madeAll fails slips), 0) else some ([], 2)) else some ([], 2) := by
  induction d with
  | zero =>
    intro k i hi hk hok
    obtain ⟨k, rfl⟩ : ∃ m, k = m + 1 := ⟨k - 1, by omega⟩
    have hti : slips.take i = slips := List.take_of_length_le (by omega)
    rw [hti] at hok ⊢
    simp only [oracle_Make.l0]
    rw [if_neg (by omega), if_pos hok]
    have h0 : slips ++ List.replicate (64 - i) 0 = madeAll (fails.take 0) slips := by
      apply List.ext_getElem
      · simp [madeAll]; omega
      · intro j h1 h2
        have hj : j < 64 := by simp [madeAll] at h2; exact h2
        simp only [madeAll, List.getElem_map, List.getElem_range, made, List.take_zero, List.not_mem_nil, if_false, Int.add_zero]
        rw [List.getD_eq_getElem?_getD]
        by_cases hjl : j < slips.length
        · rw [List.getElem_append_left hjl, List.getElem?_eq_getElem hjl]; rfl
        · rw [List.getElem_append_right (by omega), List.getElem?_eq_none (by omega)]; simp
    rw [h0]
    exact make_fails slips fails hok hf fails.length k 0 (by omega) (by omega) (by simp)
  | succ d ih =>
    intro k i hi hk hok
    obtain ⟨k, rfl⟩ : ∃ m, k = m + 1 := ⟨k - 1, by omega⟩
    have hilt : i < slips.length := by omega
    have hll : (slips.take i ++ List.replicate (64 - i) (0 : Int)).length = 64 := by simp; omega
    simp only [oracle_Make.l0]
    rw [if_pos (by omega), if_pos (by omega), if_pos (by omega), rd_at _ _ hilt]
    by_cases hlo : slips[i] < 0
    · rw [if_pos hlo, if_neg (fun h => by have := h _ (List.getElem_mem hilt); omega)]
    · rw [if_neg hlo]
      by_cases hhi : slips[i] > 3
      · rw [if_pos hhi, if_neg (fun h => by have := h _ (List.getElem_mem hilt); omega)]
      · rw [if_neg hhi, hll, if_pos (by omega), w64_small (by omega) (by omega)]
        have htk : slips.take (i + 1) = slips.take i ++ [slips[i]] := by rw [List.take_succ_eq_append_getElem hilt]
        have hstep : (slips.take i ++ List.replicate (64 - i) (0 : Int)).set ((i : Int)).toNat (slips[i] % 256) = slips.take (i + 1) ++ List.replicate (64 - (i + 1)) 0 := by
          rw [Int.toNat_natCast, htk, List.set_append_right _ _ (by simp; omega)]
          have h1 : 64 - i = (64 - (i + 1)) + 1 := by omega
          have h2 : (slips.take i).length = i := by simp; omega
          rw [h2, Nat.sub_self, h1, List.replicate_succ, List.set_cons_zero, List.append_assoc, List.singleton_append, show slips[i] % 256 = slips[i] by omega]
        rw [hstep]
        have := ih k (i + 1) (by omega) (by omega) (by rw [htk]; intro x hx; rcases List.mem_append.1 hx with h | h; exact hok x h; rw [List.mem_singleton] at h; subst h; omega)
        rw [← this]; congr 1
theorem make_eq (fails slips : List Int) (hf : fails.length ≤ 140737488351232) (k : Nat) (hk : fails.length + 300 < k) :
    oracle_Make.f k fails slips = match makes fails slips with | some l => some (l, 0) | none => some ([], 2) := by
  unfold oracle_Make.f makes
  by_cases hsl : (slips.length : Int) > 64
  · rw [if_pos hsl, if_neg (by omega)]
  · rw [if_neg hsl, if_pos (by decide)]
    have h := make_slips slips fails hf (by omega) slips.length k 0 (by omega) (by omega) (by simp)
    simp only [List.take_zero, List.nil_append] at h
    have h' : oracle_Make.l0 k fails (List.replicate 64 0) slips (slips.length : Int) 0 = oracle_Make.l0 k fails (List.replicate (64 - 0) 0) slips (slips.length : Int) ((0 : Nat) : Int) := rfl
    rw [h', h]
    by_cases h1 : ∀ x ∈ slips, 0 ≤ x ∧ x ≤ 3
    · rw [if_pos h1]
      by_cases h2 : ∀ x ∈ fails, 0 ≤ x ∧ x < 64
      · rw [if_pos h2, if_pos ⟨by omega, h1, h2⟩]
      · rw [if_neg h2, if_neg (fun h => h2 h.2.2)]
    · rw [if_neg h1, if_neg (fun h => h1 h.2.1)]
end Go.Proofs.YtifmchddekgmbaaDoor.S
