/- A step that is left was done well, and not undone well; where it is undone well behind all it is left no more, and all others are: for every trace of at most 150 effects, and every number. -/
import Derived.Test.YtphifpibjgeijaaSTrace2
import Derived.Test.YtphifpibjgeijaaFx17
namespace Go.Proofs.Ytphifpibjgeijaa.Pure
set_option linter.unusedVariables false
open Go.RowKit Go.Proofs.Ytphifpibjgeijaa.F Go.Proofs.Ytphifpibjgeijaa.S Go.Proofs.YtphifpibjgeijaaW.PrintWords Go.Proofs.YtphifpibjgeijaaW.PrintLast
theorem rdI (l : List Int) (i : Nat) (h : i < l.length) : rd l (i : Int) = l[i] := by unfold rd; rw [Int.toNat_natCast, List.getD_eq_getElem?_getD, List.getElem?_eq_getElem h]; rfl
theorem courses_snoc : ∀ (l : List Eff) (x : Eff) (i : Int) (m : List (Int × Course)), coursesOf (l ++ [x]) i m = mapPut (coursesOf l i m) x.f0.f0 (courseStep ((mapLook (coursesOf l i m) x.f0.f0).getD course0) (i + l.length) x)
  | [], x, i, m => by
    show mapPut m _ (courseStep _ i x) = mapPut m _ (courseStep _ (i + (0 : Nat)) x)
    have : i + ((0 : Nat) : Int) = i := by omega
    rw [this]; rfl
  | y :: l, x, i, m => by
    show coursesOf (l ++ [x]) (i + 1) _ = _
    rw [courses_snoc l x (i + 1) _]
    show _ = mapPut (coursesOf l (i + 1) _) _ (courseStep _ (i + ((l.length + 1 : Nat) : Int)) x)
    have : i + 1 + (l.length : Int) = i + ((l.length + 1 : Nat) : Int) := by omega
    rw [this]
    rfl
theorem courses_nodup : ∀ (l : List Eff) (i : Int) (m : List (Int × Course)), (keysOf m).Nodup → (keysOf (coursesOf l i m)).Nodup
  | [], i, m, h => h
  | x :: l, i, m, h => courses_nodup l (i + 1) _ (nodup_put h _ _)
theorem left_mem {l : List Eff} {k : Int} (h : k ∈ F.leftOf l) : k ∈ keysOf (coursesOf l 0 []) ∧ isLeft (coursesOf l 0 []) k = true := by
  unfold F.leftOf at h
  obtain ⟨h1, h2⟩ := List.mem_filter.1 h
  exact ⟨List.mem_mergeSort.1 h1, h2⟩
theorem sort_pair (l : List Int) : (l.mergeSort (fun x y => decide (x ≤ y))).Pairwise (fun x y => x ≤ y) :=
  (List.pairwise_mergeSort (le := fun x y : Int => decide (x ≤ y)) (fun a b c => by simp; omega) (fun a b => by simp; omega) l).imp (fun h => by simpa using h)
theorem left_lt (l : List Eff) : (F.leftOf l).Pairwise (fun x y => x < y) := by
  unfold F.leftOf
  apply List.Pairwise.filter
  have h1 := sort_pair (keysOf (coursesOf l 0 []))
  have h2 : ((keysOf (coursesOf l 0 [])).mergeSort (fun x y => decide (x ≤ y))).Nodup := (List.mergeSort_perm _ _).nodup_iff.2 (courses_nodup l 0 [] List.nodup_nil)
  exact (h1.and h2).imp (fun ⟨h, k⟩ => by omega)
theorem filter_less {α : Type} [DecidableEq α] (p q : α → Bool) (k : α) : ∀ l : List α, l.Nodup → k ∈ l → p k = true → q k = false → (∀ i, i ≠ k → q i = p i) → (l.filter q).length + 1 = (l.filter p).length
  | [], _, h, _, _, _ => by cases h
  | x :: l, hn, h, hp, hq, he => by
    obtain ⟨h1, h2⟩ := List.nodup_cons.1 hn
    by_cases hx : x = k
    · have hf : l.filter q = l.filter p := List.filter_congr (fun i hi => he i (fun e => h1 (by rw [hx, ← e]; exact hi)))
      rw [List.filter_cons, List.filter_cons, hx, hp, hq, hf]
      simp
    · have hk : k ∈ l := by
        rcases List.mem_cons.1 h with h | h
        · exact absurd h.symm hx
        · exact h
      have := filter_less p q k l h2 hk hp hq he
      rw [List.filter_cons, List.filter_cons, he x hx]
      split
      · simp only [List.length_cons]; omega
      · exact this
theorem left_more (l : List Eff) (k : Int) (h : k ∈ F.leftOf l) : (F.leftOf (l ++ [⟨⟨k, true, 9⟩, true⟩])).length + 1 = (F.leftOf l).length ∧ k ∉ F.leftOf (l ++ [⟨⟨k, true, 9⟩, true⟩]) := by
  obtain ⟨hk, hl⟩ := left_mem h
  have hc := courses_snoc l ⟨⟨k, true, 9⟩, true⟩ 0 []
  obtain ⟨m, hm⟩ : ∃ m, coursesOf l 0 [] = m := ⟨_, rfl⟩
  have hn : (keysOf m).Nodup := by rw [← hm]; exact courses_nodup l 0 [] List.nodup_nil
  rw [hm] at hc hk hl
  obtain ⟨c, hcc⟩ : ∃ c, (mapLook m k).getD course0 = c := ⟨_, rfl⟩
  have hsome : (mapLook m k).isSome = true := by
    cases hlk : mapLook m k with
    | none => exact absurd hk (look_none.1 hlk)
    | some v => rfl
  obtain ⟨c', hc'⟩ : ∃ c', courseStep c (0 + (l.length : Int)) ⟨⟨k, true, 9⟩, true⟩ = c' := ⟨_, rfl⟩
  have hkeys : keysOf (mapPut m k c') = keysOf m := by rw [keysOf_put, if_pos hsome]
  have hund : c.undone = 0 := by
    unfold isLeft at hl
    rw [hcc] at hl
    simp only [Bool.and_eq_true, beq_iff_eq] at hl
    exact hl.2
  have hlk' : isLeft (mapPut m k c') k = false := by
    unfold isLeft
    rw [put_look, Option.getD_some, ← hc']
    have : (courseStep c (0 + (l.length : Int)) ⟨⟨k, true, 9⟩, true⟩).undone = 0 + (l.length : Int) + 1 := by
      unfold courseStep
      rw [if_neg (by simp)]
      simp [hund]
    rw [this]
    have h0 : ((0 + (l.length : Int) + 1) == 0) = false := by
      rw [beq_eq_false_iff_ne]
      omega
    rw [h0, Bool.and_false]
  have hother : ∀ i, i ≠ k → isLeft (mapPut m k c') i = isLeft m i := by
    intro i hi
    unfold isLeft
    rw [look_put_ne m c' hi]
  have hnew : F.leftOf (l ++ [⟨⟨k, true, 9⟩, true⟩]) = ((keysOf m).mergeSort (fun x y => decide (x ≤ y))).filter (isLeft (mapPut m k c')) := by
    unfold F.leftOf
    rw [hc]
    show ((keysOf (mapPut m k (courseStep ((mapLook m k).getD course0) _ _))).mergeSort _).filter (isLeft (mapPut m k (courseStep ((mapLook m k).getD course0) _ _))) = _
    rw [hcc, hc', hkeys]
  have hold : F.leftOf l = ((keysOf m).mergeSort (fun x y => decide (x ≤ y))).filter (isLeft m) := by
    unfold F.leftOf
    rw [hm]
  rw [hnew, hold]
  refine ⟨?_, fun hin => ?_⟩
  · exact filter_less (isLeft m) (isLeft (mapPut m k c')) k _ ((List.mergeSort_perm _ _).nodup_iff.2 hn) (List.mem_mergeSort.2 hk) hl hlk' hother
  · have := (List.mem_filter.1 hin).2
    rw [hlk'] at this
    cases this
theorem in_loop (l : List Int) (x : Int) (hx : x ∉ l) (hl : l.length ≤ 1000) (d : Nat) : ∀ (k j : Nat), j + d = l.length → d < k → argosyref04_In.l0 k l x (j : Int) = some false := by
  induction d with
  | zero =>
    intro k j hj hk
    obtain ⟨k, rfl⟩ : ∃ m, k = m + 1 := ⟨k - 1, by omega⟩
    simp only [argosyref04_In.l0]
    rw [if_neg (by omega)]
  | succ d ih =>
    intro k j hj hk
    obtain ⟨k, rfl⟩ : ∃ m, k = m + 1 := ⟨k - 1, by omega⟩
    have hlt : j < l.length := by omega
    have w : wrap64 ((j : Int) + 1) = ((j + 1 : Nat) : Int) := w64_small (by omega) (by omega)
    simp only [argosyref04_In.l0]
    rw [if_pos (by omega), if_pos (by omega), rdI l j hlt, if_neg (fun e => hx (by rw [← e]; exact List.getElem_mem hlt)), w]
    exact ih k (j + 1) (by omega) (by omega)
theorem in_f (l : List Int) (x : Int) (hx : x ∉ l) (hl : l.length ≤ 1000) (k : Nat) (hk : l.length < k) : argosyref04_In.f k l x = some false := by
  have h := in_loop l x hx hl l.length k 0 (by omega) hk
  exact h
theorem left_eq (l : List Eff) (h : l.length ≤ 1000) (hw : ∀ y ∈ l, (Lit.int .i64 y.f0.f0).wf = true) : trace_Left.f l = some (F.leftOf l) := by
  unfold trace_Left.f
  rw [if_pos ⟨by omega, hw⟩]
theorem left_len (l : List Eff) : (F.leftOf l).length ≤ l.length := by
  unfold F.leftOf
  have h1 := List.length_filter_le (isLeft (coursesOf l 0 [])) ((keysOf (coursesOf l 0 [])).mergeSort (fun x y => decide (x ≤ y)))
  have h2 := length_coursesOf l 0 []
  rw [List.length_mergeSort] at h1
  have h3 : (keysOf (coursesOf l 0 [])).length = (coursesOf l 0 []).length := by unfold keysOf; rw [List.length_map]
  simp only [List.length_nil] at h2
  omega
theorem modIn (n : Int) (len : Nat) (h : 0 < len) (hl : len ≤ 1000) : ∃ j : Nat, j < len ∧ wrap64 (Int.tmod (IntKind.u64.wrap n) (IntKind.u64.wrap (len : Int))) = (j : Int) := by
  have h0 : IntKind.u64.wrap (len : Int) = (len : Int) := by
    simp only [IntKind.wrap, IntKind.signed, IntKind.bits]
    simp
    omega
  have h1 : 0 ≤ IntKind.u64.wrap n := by
    simp only [IntKind.wrap, IntKind.signed, IntKind.bits]
    simp
    omega
  rw [h0]
  generalize IntKind.u64.wrap n = u at h1
  have h2 := Int.tmod_nonneg (len : Int) h1
  have h3 := Int.tmod_lt_of_pos u (show (0 : Int) < len by omega)
  refine ⟨(Int.tmod u len).toNat, by omega, ?_⟩
  rw [w64_small h2 (by omega)]
  omega
theorem end_ok (l : List Eff) (n : Int) (hl : l.length ≤ 150) (hw : ∀ y ∈ l, (Lit.int .i64 y.f0.f0).wf = true) (k : Nat) (hk : 200 ≤ k) (x6 : Int) (hx : ¬ x6 < ((F.leftOf l).length : Int)) :
    argosylaw20_TraceLeft.l0 (k + 1) l n (F.leftOf l) x6 = some true := by
  simp only [argosylaw20_TraceLeft.l0]
  rw [if_neg hx]
  have hlen := left_len l
  by_cases h0 : ((F.leftOf l).length : Int) = 0
  · rw [if_pos h0, lives_ge k (by omega)]
    rfl
  · obtain ⟨j, hj, he⟩ := modIn n (F.leftOf l).length (by omega) (by omega)
    have hu : IntKind.u64.wrap ((F.leftOf l).length : Int) = ((F.leftOf l).length : Int) := by
      simp only [IntKind.wrap, IntKind.signed, IntKind.bits]
      simp
      omega
    rw [if_neg h0, hu, if_neg h0]
    rw [hu] at he
    rw [he, if_pos (by omega), if_pos (by omega), rdI _ j hj]
    obtain ⟨x, hxx⟩ : ∃ x, (F.leftOf l)[j] = x := ⟨_, rfl⟩
    have hxm : x ∈ F.leftOf l := by rw [← hxx]; exact List.getElem_mem hj
    obtain ⟨m1, m2⟩ := left_more l x hxm
    have hxw : (Lit.int .i64 x).wf = true := by
      obtain ⟨y, hy, hye⟩ := List.mem_map.1 (left_mem hxm).1
      rcases mem_coursesOf l 0 [] hy with h | ⟨z, hz, h⟩
      · cases h
      · rw [← hye, ← h]; exact hw z hz
    rw [hxx]
    simp only [Option.bind_some, List.nil_append, List.length_nil]
    rw [if_pos (by omega), if_pos (by omega)]
    rw [left_eq _ (by simp; omega) (fun y hy => by
      rcases List.mem_append.1 hy with hy | hy
      · exact hw y hy
      · rw [List.mem_singleton.1 hy]; exact hxw)]
    simp only [Option.bind_some]
    have hwl : wrap64 (((F.leftOf l).length : Int) - 1) = ((F.leftOf l).length : Int) - 1 := w64_small (by omega) (by omega)
    rw [hwl, if_pos (by omega)]
    have hin : argosyref04_In.f k (F.leftOf (l ++ [⟨⟨x, true, 9⟩, true⟩])) x = some false := in_f _ x m2 (by omega) k (by omega)
    rw [hin]
    simp only [Option.bind_some]
    rw [if_neg (by decide), lives_ge k (by omega)]
    rfl
theorem left_loop (l : List Eff) (n : Int) (hl : l.length ≤ 150) (hw : ∀ y ∈ l, (Lit.int .i64 y.f0.f0).wf = true) (d : Nat) : ∀ (k j : Nat), 1 ≤ j → (F.leftOf l).length ≤ j + d → d + 200 ≤ k → argosylaw20_TraceLeft.l0 (k + 1) l n (F.leftOf l) (j : Int) = some true := by
  have hlen := left_len l
  induction d with
  | zero =>
    intro k j h1 hj hk
    exact end_ok l n hl hw k (by omega) _ (by omega)
  | succ d ih =>
    intro k j h1 hj hk
    by_cases hlt : j < (F.leftOf l).length
    · obtain ⟨k, rfl⟩ : ∃ m, k = m + 1 := ⟨k - 1, by omega⟩
      have w : wrap64 ((j : Int) + 1) = ((j + 1 : Nat) : Int) := w64_small (by omega) (by omega)
      have w1 : wrap64 ((j : Int) - 1) = ((j - 1 : Nat) : Int) := by rw [w64_small (by omega) (by omega)]; omega
      have hp := (List.pairwise_iff_getElem.1 (left_lt l)) (j - 1) j (by omega) hlt (by omega)
      rw [argosylaw20_TraceLeft.l0]
      rw [if_pos (by omega), w1, if_pos (by omega), if_pos (by omega), if_pos (by omega), rdI _ _ (by omega), rdI _ _ hlt, if_neg (by omega), w]
      exact ih k (j + 1) (by omega) (by omega) (by omega)
    · exact end_ok l n hl hw k (by omega) _ (by omega)
theorem TraceLeft : ∀ (x0 : List (S37)) (x1 : Int), (x0.length ≤ maxLen ∧ ∀ y ∈ x0, (((Lit.int .i64 y.f0.f0).wf = true) ∧ (True) ∧ ((Lit.int .i64 y.f0.f2).wf = true)) ∧ (True)) → ((Lit.int .i64 x1).wf = true) → ∃ k, argosylaw20_TraceLeft.f k x0 x1 = some true := by
  intro l n hv _
  refine ⟨1001, ?_⟩
  unfold argosylaw20_TraceLeft.f
  by_cases hl : (l.length : Int) > 150
  · rw [if_pos hl, lives_ge 1001 (by decide)]
    rfl
  · have hw : ∀ y ∈ l, (Lit.int .i64 y.f0.f0).wf = true := fun y hy => (hv.2 y hy).1.1
    have hlen := left_len l
    rw [if_neg hl, left_eq l (by omega) hw]
    simp only [Option.bind_some]
    exact left_loop l n (by omega) hw (F.leftOf l).length 1000 1 (by omega) (by omega) (by omega)
end Go.Proofs.Ytphifpibjgeijaa.Pure
