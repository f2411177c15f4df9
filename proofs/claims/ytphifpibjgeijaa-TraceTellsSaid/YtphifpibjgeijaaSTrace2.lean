import Derived.Test.YtphifpibjgeijaaSTrace
namespace Go.Proofs.Ytphifpibjgeijaa.S
open Go.RowKit Go.Proofs.Ytphifpibjgeijaa.F Go.Proofs.YtphifpibjgeijaaW.PrintWords Go.Proofs.YtphifpibjgeijaaW.PrintLast
theorem rdE (l : List Eff) (i : Nat) (h : i < l.length) : rd_T37 l (i : Int) = l[i] := by unfold rd_T37; rw [Int.toNat_natCast, List.getD_eq_getElem?_getD, List.getElem?_eq_getElem h]; rfl
def ex3 : List Eff := [⟨⟨1, false, 0⟩, true⟩, ⟨⟨2, false, 0⟩, true⟩, ⟨⟨1, false, 0⟩, true⟩]
theorem ex_keys : keysOf (coursesOf ex3 0 []) = [1, 2] := by decide +kernel
theorem ex_sort : ([1, 2] : List Int).mergeSort (fun x y => decide (x ≤ y)) = [1, 2] := List.mergeSort_of_pairwise (by decide)
theorem ex_filter : ([1, 2] : List Int).filter (isLeft (coursesOf ex3 0 [])) = [1, 2] := by decide +kernel
theorem ex_left : trace_Left.f ex3 = some [1, 2] := by
  unfold trace_Left.f
  rw [if_pos (by decide +kernel)]
  unfold F.leftOf
  rw [ex_keys, ex_sort, ex_filter]
theorem ex_check : trace_Check.f ex3 = some 0 := by decide +kernel
theorem ex_again : trace_Again.f ex3 = some 1 := by decide +kernel
theorem ex_last : trace_Last.f ex3 = some [⟨⟨2, false, 0⟩, true⟩, ⟨⟨1, false, 0⟩, true⟩] := by decide +kernel
theorem ex_same : argosyref20_Same.f 12 [⟨⟨2, false, 0⟩, true⟩, ⟨⟨1, false, 0⟩, true⟩] [⟨⟨2, false, 0⟩, true⟩, ⟨⟨1, false, 0⟩, true⟩] = some true := by decide +kernel
theorem ex_same1 : argosyref01_Same.f 12 [1, 2] [1, 2] = some true := by decide +kernel
theorem ex_find : trace_Find.f ex3 2 false 0 = some 1 := by decide +kernel
theorem ex_find0 : trace_Find.f ex3 0 false 0 = some (-1) := by decide +kernel
theorem lives_12 : argosylaw20_lives.f 12 = some true := by
  show ((trace_Check.f ex3).bind fun t125 => (if t125 = 0 then ((trace_Again.f ex3).bind fun t126 => (if t126 = 1 then ((trace_Last.f ex3).bind fun t127 => ((argosyref20_Same.f 12 t127 [⟨⟨2, false, 0⟩, true⟩, ⟨⟨1, false, 0⟩, true⟩]).bind fun t141 => (if t141 = true then ((trace_Left.f ex3).bind fun t142 => ((argosyref01_Same.f 12 t142 (([1, 2] : List Int))).bind fun t148 => (if t148 = true then ((trace_Find.f ex3 2 false 0).bind fun t149 => (if t149 = 1 then ((trace_Find.f ex3 0 false 0).bind fun t150 => (some (t150 == (-1)))) else (some false))) else (some false)))) else (some false)))) else (some false))) else (some false))) = some true
  rw [ex_check, ex_again, ex_last, ex_left, ex_find, ex_find0]
  simp only [Option.bind_some, if_true, ex_same, ex_same1]
  rfl
theorem lives_ge : ∀ k, 12 ≤ k → argosylaw20_lives.f k = some true := by
  intro k hk
  induction k with
  | zero => omega
  | succ k ih =>
    by_cases h : k = 11
    · subst h; exact lives_12
    · exact argosylaw20_lives.mono k _ (ih (by omega))
theorem rev_end (L ys : List Eff) (i : Nat) (hy : ys.length = L.length) (hj : ∀ j, j < L.length → ys[j]? = if j < i ∨ L.length ≤ j + i then L[L.length - 1 - j]? else L[j]?) (hi : (L.length : Int) - 1 - i ≤ i) : ys = L.reverse := by
  apply List.ext_getElem?
  intro j
  by_cases h : j < L.length
  · rw [hj j h, List.getElem?_reverse h]
    by_cases hc : j < i ∨ L.length ≤ j + i
    · rw [if_pos hc]
    · rw [if_neg hc]
      have : L.length - 1 - j = j := by omega
      rw [this]
  · rw [List.getElem?_eq_none (by omega), List.getElem?_eq_none (by rw [List.length_reverse]; omega)]
theorem firsts_le : ∀ (l : List Eff) (s : List Key), (firsts l s).length ≤ l.length
  | [], s => Nat.le_refl _
  | x :: l, s => by
    show (if x.f0 ∈ s then firsts l s else x :: firsts l (s ++ [x.f0])).length ≤ _
    split
    · have := firsts_le l s; simp only [List.length_cons]; omega
    · have := firsts_le l (s ++ [x.f0]); simp only [List.length_cons]; omega
theorem rev_loop (L : List Eff) (hL : L.length ≤ 1000000) : ∀ (d k i : Nat) (ys : List Eff), ys.length = L.length → (∀ j, j < L.length → ys[j]? = if j < i ∨ L.length ≤ j + i then L[L.length - 1 - j]? else L[j]?) → L.length ≤ 2 * i + d → i ≤ L.length → d < k →
    api_Effect.l0 k ys (i : Int) ((L.length : Int) - 1 - i) = some L.reverse := by
  intro d
  induction d with
  | zero =>
    intro k i ys hy hj hd hi hk
    obtain ⟨k, rfl⟩ : ∃ m, k = m + 1 := ⟨k - 1, by omega⟩
    simp only [api_Effect.l0]
    rw [if_neg (by omega)]
    congr 1
    exact rev_end L ys i hy hj (by omega)
  | succ d ih =>
    intro k i ys hy hj hd hi hk
    obtain ⟨k, rfl⟩ : ∃ m, k = m + 1 := ⟨k - 1, by omega⟩
    simp only [api_Effect.l0]
    by_cases h : (i : Int) < (L.length : Int) - 1 - i
    · have h1 : i < ys.length := by omega
      have h2 : L.length - 1 - i < ys.length := by omega
      have e3 : (L.length : Int) - 1 - i = ((L.length - 1 - i : Nat) : Int) := by omega
      rw [if_pos h, if_pos (by omega), if_pos (by omega), if_pos (by omega), if_pos (by omega)]
      rw [e3, rdE ys _ h2, rdE ys _ h1, Int.toNat_natCast, Int.toNat_natCast]
      have w1 : wrap64 ((i : Int) + 1) = ((i + 1 : Nat) : Int) := w64_small (by omega) (by omega)
      have w2 : wrap64 (((L.length - 1 - i : Nat) : Int) - 1) = (L.length : Int) - 1 - (i + 1 : Nat) := by rw [w64_small (by omega) (by omega)]; omega
      rw [w1, w2]
      refine ih k (i + 1) _ (by simp [hy]) ?_ (by omega) (by omega) (by omega)
      intro j hjl
      have g1 := hj i (by omega)
      have g2 := hj (L.length - 1 - i) (by omega)
      rw [if_neg (by omega), List.getElem?_eq_getElem h1] at g1
      rw [if_neg (by omega), List.getElem?_eq_getElem h2] at g2
      by_cases e1 : j = L.length - 1 - i
      · subst e1
        rw [if_pos (by omega), List.getElem?_set_self (by simp; omega)]
        have : L.length - 1 - (L.length - 1 - i) = i := by omega
        rw [this, ← g1]
      · rw [List.getElem?_set_ne (fun e => e1 e.symm)]
        by_cases e2 : j = i
        · subst e2
          rw [if_pos (by omega), List.getElem?_set_self (by omega), ← g2]
        · rw [List.getElem?_set_ne (fun e => e2 e.symm), hj j hjl]
          by_cases e4 : j < i ∨ L.length ≤ j + i
          · rw [if_pos e4, if_pos (by omega)]
          · rw [if_neg e4, if_neg (by omega)]
    · rw [if_neg h]
      congr 1
      exact rev_end L ys i hy hj (by omega)
theorem rev_eq (L : List Eff) (hL : L.length ≤ 1000000) (k : Nat) (hk : L.length < k) : api_Effect.f k L = some L.reverse := by
  unfold api_Effect.f
  have h := rev_loop L hL L.length k 0 L rfl (fun j hj => by rw [if_neg (by omega)]) (by omega) (by omega) hk
  have e : wrap64 ((L.length : Int) - 1) = (L.length : Int) - 1 - ((0 : Nat) : Int) := by
    unfold wrap64
    omega
  rw [e]
  exact h
theorem last_eq (l : List Eff) (h : l.length ≤ 1000000) : trace_Last.f l = some (lastE l) := by
  unfold trace_Last.f
  have hl : (lastsOf l).length ≤ l.length := by unfold lastsOf; have := lastsRun_len l.reverse []; rwa [List.length_reverse] at this
  rw [if_pos h, rev_eq _ (by omega) _ (by omega), lastsOf_eq l h]
theorem again_eq (l : List Eff) (h : l.length ≤ 1000000) : trace_Again.f l = some ((l.length : Int) - ((lastE l).length : Int)) := by
  unfold trace_Again.f
  have h1 := count_len l []
  have h2 := lastE_len l
  have h3 : (firsts l []).length ≤ l.length := firsts_le l []
  have e : (countKeys l []).length = (lastE l).length := by rw [h1, h2]; simp [keysOf]
  rw [e, w64_small (by omega) (by omega)]
end Go.Proofs.Ytphifpibjgeijaa.S
