/- Plain facts of traces that more than one statement uses. -/
import Derived.Test.YtphifpibjgeijaaSTrace2
namespace Go.Proofs.Ytphifpibjgeijaa.S
set_option linter.unusedVariables false
open Go.RowKit Go.Proofs.Ytphifpibjgeijaa.F Go.Proofs.YtphifpibjgeijaaW.PrintWords Go.Proofs.YtphifpibjgeijaaW.PrintLast
theorem same_loop (l : List Eff) (hl : l.length ≤ 1000) (d : Nat) : ∀ (k j : Nat), j + d = l.length → d < k → argosyref20_Same.l0 k l l (j : Int) = some true := by
  induction d with
  | zero =>
    intro k j hj hk
    obtain ⟨k, rfl⟩ : ∃ m, k = m + 1 := ⟨k - 1, by omega⟩
    simp only [argosyref20_Same.l0]
    rw [if_neg (by omega)]
  | succ d ih =>
    intro k j hj hk
    obtain ⟨k, rfl⟩ : ∃ m, k = m + 1 := ⟨k - 1, by omega⟩
    simp only [argosyref20_Same.l0]
    have w : wrap64 ((j : Int) + 1) = ((j + 1 : Nat) : Int) := w64_small (by omega) (by omega)
    rw [if_pos (by omega), if_pos (by omega), if_pos (by omega), w, ih k (j + 1) (by omega) (by omega)]
    simp
theorem same_self (l : List Eff) (hl : l.length ≤ 1000) (k : Nat) (hk : l.length < k) : argosyref20_Same.f k l l = some true := by
  unfold argosyref20_Same.f
  rw [if_pos rfl]
  exact same_loop l hl l.length k 0 (by omega) hk
theorem like_nodup : ∀ (l : List Eff) (m : List (Key × Eff)), (keys l).Nodup → (∀ x ∈ l, x.f0 ∉ keysOf m) → likeLoop l m = 0
  | [], m, _, _ => rfl
  | x :: l, m, h, hm => by
    obtain ⟨h1, h2⟩ := List.nodup_cons.1 h
    have hl : mapLook m x.f0 = none := look_none.2 (hm x (List.mem_cons_self ..))
    have hm' : ∀ y ∈ l, y.f0 ∉ keysOf (mapPut m x.f0 x) := by
      intro y hy hk
      rw [keysOf_put, hl] at hk
      rcases List.mem_append.1 hk with hk | hk
      · exact hm y (List.mem_cons_of_mem _ hy) hk
      · rw [List.mem_singleton] at hk
        exact h1 (List.mem_map.2 ⟨y, hy, hk⟩)
    unfold likeLoop
    rw [hl]
    exact like_nodup l _ h2 hm'
theorem like_zero : ∀ (l : List Eff) (m : List (Key × Eff)), likeLoop l m = 0 → (∀ x ∈ l, ∀ o, mapLook m x.f0 = some o → o = x) ∧ (∀ x ∈ l, ∀ y ∈ l, x.f0 = y.f0 → x = y)
  | [], m, _ => by constructor <;> intro x h <;> cases h
  | x :: l, m, h => by
    have key : likeLoop l (mapPut m x.f0 x) = 0 ∧ ∀ o, mapLook m x.f0 = some o → o = x := by
      unfold likeLoop at h
      cases hl : mapLook m x.f0 with
      | none => rw [hl] at h; exact ⟨h, fun o ho => by cases ho⟩
      | some o =>
        rw [hl] at h
        by_cases ho : o = x
        · simp only [if_pos ho] at h
          exact ⟨h, fun o' ho' => by cases ho'; exact ho⟩
        · simp only [if_neg ho] at h
          exact absurd h (by decide)
    obtain ⟨i1, i2⟩ := like_zero l _ key.1
    have hx : ∀ y ∈ l, y.f0 = x.f0 → x = y := fun y hy he => i1 y hy x (by rw [he, put_look])
    refine ⟨fun y hy o ho => ?_, fun y hy z hz he => ?_⟩
    · rcases List.mem_cons.1 hy with rfl | hy
      · exact key.2 o ho
      · by_cases he : y.f0 = x.f0
        · rw [← hx y hy he]
          exact key.2 o (by rw [← he]; exact ho)
        · exact i1 y hy o (by rw [look_put_ne m x he]; exact ho)
    · rcases List.mem_cons.1 hy with hy' | hy' <;> rcases List.mem_cons.1 hz with hz' | hz'
      · rw [hy', hz']
      · rw [hy']; exact hx z hz' (by rw [← he, hy'])
      · rw [hz']; exact (hx y hy' (by rw [he, hz'])).symm
      · exact i2 y hy' z hz' he
theorem idx_at (p : Eff → Bool) : ∀ (l : List Eff) (i : Int), (∃ x ∈ l, p x = true) → ∃ (j : Nat) (h : j < l.length), idxFrom p l i = i + j ∧ p l[j] = true
  | [], i, h => by obtain ⟨x, hx, _⟩ := h; cases hx
  | x :: l, i, h => by
    unfold idxFrom
    by_cases hx : p x = true
    · rw [if_pos hx]
      exact ⟨0, by simp, by omega, hx⟩
    · rw [if_neg hx]
      obtain ⟨y, hy, hp⟩ := h
      rcases List.mem_cons.1 hy with rfl | hy
      · exact absurd hp hx
      · obtain ⟨j, hj, he, hpj⟩ := idx_at p l (i + 1) ⟨y, hy, hp⟩
        exact ⟨j + 1, by simp; omega, by rw [he]; omega, hpj⟩
theorem rdI (l : List Int) (i : Nat) (h : i < l.length) : rd l (i : Int) = l[i] := by unfold rd; rw [Int.toNat_natCast, List.getD_eq_getElem?_getD, List.getElem?_eq_getElem h]; rfl
theorem courses_snoc : ∀ (l : List Eff) (x : Eff) (i : Int) (m : List (Int × Course)), coursesOf (l ++ [x]) i m = mapPut (coursesOf l i m) x.f0.f0 (courseStep ((mapLook (coursesOf l i m) x.f0.f0).getD course0) (i + l.length) x)
  | [], x, i, m => by
    show mapPut m _ (courseStep _ i x) = mapPut m _ (courseStep _ (i + (0 : Nat)) x)
    have : i + ((0 : Nat) : Int) = i := by omega
    rw [this]; rfl
  | y :: l, x, i, m => by
    show coursesOf (l ++ [x]) (i + 1) _ = _
    rw [courses_snoc l x (i + 1) _]
    show _ = mapPut (coursesOf l (i + 1) _) _ (courseStep _ (i + ((l.length + 1 : Nat) : Int)) x)
    have : i + 1 + (l.length : Int) = i + ((l.length + 1 : Nat) : Int) := by omega
    rw [this]
    rfl
theorem courses_nodup : ∀ (l : List Eff) (i : Int) (m : List (Int × Course)), (keysOf m).Nodup → (keysOf (coursesOf l i m)).Nodup
  | [], i, m, h => h
  | x :: l, i, m, h => courses_nodup l (i + 1) _ (nodup_put h _ _)
theorem left_mem {l : List Eff} {k : Int} (h : k ∈ F.leftOf l) : k ∈ keysOf (coursesOf l 0 []) ∧ isLeft (coursesOf l 0 []) k = true := by
  unfold F.leftOf at h
  obtain ⟨h1, h2⟩ := List.mem_filter.1 h
  exact ⟨List.mem_mergeSort.1 h1, h2⟩
theorem sort_pair (l : List Int) : (l.mergeSort (fun x y => decide (x ≤ y))).Pairwise (fun x y => x ≤ y) :=
  (List.pairwise_mergeSort (le := fun x y : Int => decide (x ≤ y)) (fun a b c => by simp; omega) (fun a b => by simp; omega) l).imp (fun h => by simpa using h)
theorem left_lt (l : List Eff) : (F.leftOf l).Pairwise (fun x y => x < y) := by
  unfold F.leftOf
  apply List.Pairwise.filter
  have h1 := sort_pair (keysOf (coursesOf l 0 []))
  have h2 : ((keysOf (coursesOf l 0 [])).mergeSort (fun x y => decide (x ≤ y))).Nodup := (List.mergeSort_perm _ _).nodup_iff.2 (courses_nodup l 0 [] List.nodup_nil)
  exact (h1.and h2).imp (fun ⟨h, k⟩ => by omega)
theorem filter_less {α : Type} [DecidableEq α] (p q : α → Bool) (k : α) : ∀ l : List α, l.Nodup → k ∈ l → p k = true → q k = false → (∀ i, i ≠ k → q i = p i) → (l.filter q).length + 1 = (l.filter p).length
  | [], _, h, _, _, _ => by cases h
  | x :: l, hn, h, hp, hq, he => by
    obtain ⟨h1, h2⟩ := List.nodup_cons.1 hn
    by_cases hx : x = k
    · have hf : l.filter q = l.filter p := List.filter_congr (fun i hi => he i (fun e => h1 (by rw [hx, ← e]; exact hi)))
      rw [List.filter_cons, List.filter_cons, hx, hp, hq, hf]
      simp
    · have hk : k ∈ l := by
        rcases List.mem_cons.1 h with h | h
        · exact absurd h.symm hx
        · exact h
      have := filter_less p q k l h2 hk hp hq he
      rw [List.filter_cons, List.filter_cons, he x hx]
      split
      · simp only [List.length_cons]; omega
      · exact this
theorem left_more (l : List Eff) (k : Int) (h : k ∈ F.leftOf l) : (F.leftOf (l ++ [⟨⟨k, true, 9⟩, true⟩])).length + 1 = (F.leftOf l).length ∧ k ∉ F.leftOf (l ++ [⟨⟨k, true, 9⟩, true⟩]) := by
  obtain ⟨hk, hl⟩ := left_mem h
  have hc := courses_snoc l ⟨⟨k, true, 9⟩, true⟩ 0 []
  obtain ⟨m, hm⟩ : ∃ m, coursesOf l 0 [] = m := ⟨_, rfl⟩
  have hn : (keysOf m).Nodup := by rw [← hm]; exact courses_nodup l 0 [] List.nodup_nil
  rw [hm] at hc hk hl
  obtain ⟨c, hcc⟩ : ∃ c, (mapLook m k).getD course0 = c := ⟨_, rfl⟩
  have hsome : (mapLook m k).isSome = true := by
    cases hlk : mapLook m k with
    | none => exact absurd hk (look_none.1 hlk)
    | some v => rfl
  obtain ⟨c', hc'⟩ : ∃ c', courseStep c (0 + (l.length : Int)) ⟨⟨k, true, 9⟩, true⟩ = c' := ⟨_, rfl⟩
  have hkeys : keysOf (mapPut m k c') = keysOf m := by rw [keysOf_put, if_pos hsome]
  have hund : c.undone = 0 := by
    unfold isLeft at hl
    rw [hcc] at hl
    simp only [Bool.and_eq_true, beq_iff_eq] at hl
    exact hl.2
  have hlk' : isLeft (mapPut m k c') k = false := by
    unfold isLeft
    rw [put_look, Option.getD_some, ← hc']
    have : (courseStep c (0 + (l.length : Int)) ⟨⟨k, true, 9⟩, true⟩).undone = 0 + (l.length : Int) + 1 := by
      unfold courseStep
      rw [if_neg (by simp)]
      simp [hund]
    rw [this]
    have h0 : ((0 + (l.length : Int) + 1) == 0) = false := by
      rw [beq_eq_false_iff_ne]
      omega
    rw [h0, Bool.and_false]
  have hother : ∀ i, i ≠ k → isLeft (mapPut m k c') i = isLeft m i := by
    intro i hi
    unfold isLeft
    rw [look_put_ne m c' hi]
  have hnew : F.leftOf (l ++ [⟨⟨k, true, 9⟩, true⟩]) = ((keysOf m).mergeSort (fun x y => decide (x ≤ y))).filter (isLeft (mapPut m k c')) := by
    unfold F.leftOf
    rw [hc]
    show ((keysOf (mapPut m k (courseStep ((mapLook m k).getD course0) _ _))).mergeSort _).filter (isLeft (mapPut m k (courseStep ((mapLook m k).getD course0) _ _))) = _
    rw [hcc, hc', hkeys]
  have hold : F.leftOf l = ((keysOf m).mergeSort (fun x y => decide (x ≤ y))).filter (isLeft m) := by
    unfold F.leftOf
    rw [hm]
  rw [hnew, hold]
  refine ⟨?_, fun hin => ?_⟩
  · exact filter_less (isLeft m) (isLeft (mapPut m k c')) k _ ((List.mergeSort_perm _ _).nodup_iff.2 hn) (List.mem_mergeSort.2 hk) hl hlk' hother
  · have := (List.mem_filter.1 hin).2
    rw [hlk'] at this
    cases this
theorem left_eq (l : List Eff) (h : l.length ≤ 1000) (hw : ∀ y ∈ l, (Lit.int .i64 y.f0.f0).wf = true) : trace_Left.f l = some (F.leftOf l) := by
  unfold trace_Left.f
  rw [if_pos ⟨by omega, hw⟩]
theorem left_len (l : List Eff) : (F.leftOf l).length ≤ l.length := by
  unfold F.leftOf
  have h1 := List.length_filter_le (isLeft (coursesOf l 0 [])) ((keysOf (coursesOf l 0 [])).mergeSort (fun x y => decide (x ≤ y)))
  have h2 := length_coursesOf l 0 []
  rw [List.length_mergeSort] at h1
  have h3 : (keysOf (coursesOf l 0 [])).length = (coursesOf l 0 []).length := by unfold keysOf; rw [List.length_map]
  simp only [List.length_nil] at h2
  omega
end Go.Proofs.Ytphifpibjgeijaa.S
