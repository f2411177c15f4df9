/- Last of Last is the same, and none is done again in it; each key stands in it that stood ahead; its effects are some of those: for every trace of at most 150 effects. -/
import Derived.Test.YtphifpibjgeijaaSTrace2
import Derived.Test.YtphifpibjgeijaaFx16
namespace Go.Proofs.Ytphifpibjgeijaa.Pure
open Go.RowKit Go.Proofs.Ytphifpibjgeijaa.F Go.Proofs.Ytphifpibjgeijaa.S Go.Proofs.YtphifpibjgeijaaW.PrintWords Go.Proofs.YtphifpibjgeijaaW.PrintLast
theorem same_loop (l : List Eff) (hl : l.length ≤ 1000) (d : Nat) : ∀ (k j : Nat), j + d = l.length → d < k → argosyref20_Same.l0 k l l (j : Int) = some true := by
  induction d with
  | zero =>
    intro k j hj hk
    obtain ⟨k, rfl⟩ : ∃ m, k = m + 1 := ⟨k - 1, by omega⟩
    simp only [argosyref20_Same.l0]
    rw [if_neg (by omega)]
  | succ d ih =>
    intro k j hj hk
    obtain ⟨k, rfl⟩ : ∃ m, k = m + 1 := ⟨k - 1, by omega⟩
    simp only [argosyref20_Same.l0]
    have w : wrap64 ((j : Int) + 1) = ((j + 1 : Nat) : Int) := w64_small (by omega) (by omega)
    rw [if_pos (by omega), if_pos (by omega), if_pos (by omega), w, ih k (j + 1) (by omega) (by omega)]
    simp
theorem same_self (l : List Eff) (hl : l.length ≤ 1000) (k : Nat) (hk : l.length < k) : argosyref20_Same.f k l l = some true := by
  unfold argosyref20_Same.f
  rw [if_pos rfl]
  exact same_loop l hl l.length k 0 (by omega) hk
theorem like_nodup : ∀ (l : List Eff) (m : List (Key × Eff)), (keys l).Nodup → (∀ x ∈ l, x.f0 ∉ keysOf m) → likeLoop l m = 0
  | [], m, _, _ => rfl
  | x :: l, m, h, hm => by
    obtain ⟨h1, h2⟩ := List.nodup_cons.1 h
    have hl : mapLook m x.f0 = none := look_none.2 (hm x (List.mem_cons_self ..))
    have hm' : ∀ y ∈ l, y.f0 ∉ keysOf (mapPut m x.f0 x) := by
      intro y hy hk
      rw [keysOf_put, hl] at hk
      rcases List.mem_append.1 hk with hk | hk
      · exact hm y (List.mem_cons_of_mem _ hy) hk
      · rw [List.mem_singleton] at hk
        exact h1 (List.mem_map.2 ⟨y, hy, hk⟩)
    unfold likeLoop
    rw [hl]
    exact like_nodup l _ h2 hm'
theorem like_zero : ∀ (l : List Eff) (m : List (Key × Eff)), likeLoop l m = 0 → (∀ x ∈ l, ∀ o, mapLook m x.f0 = some o → o = x) ∧ (∀ x ∈ l, ∀ y ∈ l, x.f0 = y.f0 → x = y)
  | [], m, _ => by constructor <;> intro x h <;> cases h
  | x :: l, m, h => by
    have key : likeLoop l (mapPut m x.f0 x) = 0 ∧ ∀ o, mapLook m x.f0 = some o → o = x := by
      unfold likeLoop at h
      cases hl : mapLook m x.f0 with
      | none => rw [hl] at h; exact ⟨h, fun o ho => by cases ho⟩
      | some o =>
        rw [hl] at h
        by_cases ho : o = x
        · simp only [if_pos ho] at h
          exact ⟨h, fun o' ho' => by cases ho'; exact ho⟩
        · simp only [if_neg ho] at h
          exact absurd h (by decide)
    obtain ⟨i1, i2⟩ := like_zero l _ key.1
    have hx : ∀ y ∈ l, y.f0 = x.f0 → x = y := fun y hy he => i1 y hy x (by rw [he, put_look])
    refine ⟨fun y hy o ho => ?_, fun y hy z hz he => ?_⟩
    · rcases List.mem_cons.1 hy with rfl | hy
      · exact key.2 o ho
      · by_cases he : y.f0 = x.f0
        · rw [← hx y hy he]
          exact key.2 o (by rw [← he]; exact ho)
        · exact i1 y hy o (by rw [look_put_ne m x he]; exact ho)
    · rcases List.mem_cons.1 hy with hy' | hy' <;> rcases List.mem_cons.1 hz with hz' | hz'
      · rw [hy', hz']
      · rw [hy']; exact hx z hz' (by rw [← he, hy'])
      · rw [hz']; exact (hx y hy' (by rw [he, hz'])).symm
      · exact i2 y hy' z hz' he
theorem idx_at (p : Eff → Bool) : ∀ (l : List Eff) (i : Int), (∃ x ∈ l, p x = true) → ∃ (j : Nat) (h : j < l.length), idxFrom p l i = i + j ∧ p l[j] = true
  | [], i, h => by obtain ⟨x, hx, _⟩ := h; cases hx
  | x :: l, i, h => by
    unfold idxFrom
    by_cases hx : p x = true
    · rw [if_pos hx]
      exact ⟨0, by simp, by omega, hx⟩
    · rw [if_neg hx]
      obtain ⟨y, hy, hp⟩ := h
      rcases List.mem_cons.1 hy with rfl | hy
      · exact absurd hp hx
      · obtain ⟨j, hj, he, hpj⟩ := idx_at p l (i + 1) ⟨y, hy, hp⟩
        exact ⟨j + 1, by simp; omega, by rw [he]; omega, hpj⟩
theorem few_loop (l : List Eff) (hl : l.length ≤ 150) (d : Nat) : ∀ (k j : Nat), j + d = l.length → d + 12 < k → argosylaw20_TraceFew.l0 k l (lastE l) (j : Int) = some true := by
  induction d with
  | zero =>
    intro k j hj hk
    obtain ⟨k, rfl⟩ : ∃ m, k = m + 1 := ⟨k - 1, by omega⟩
    simp only [argosylaw20_TraceFew.l0]
    rw [if_neg (by omega), lives_ge k (by omega)]
    rfl
  | succ d ih =>
    intro k j hj hk
    obtain ⟨k, rfl⟩ : ∃ m, k = m + 1 := ⟨k - 1, by omega⟩
    have hlt : j < l.length := by omega
    have w : wrap64 ((j : Int) + 1) = ((j + 1 : Nat) : Int) := w64_small (by omega) (by omega)
    have hn := ih k (j + 1) (by omega) (by omega)
    simp only [argosylaw20_TraceFew.l0]
    rw [if_pos (by omega), if_pos (by omega), rdE l j hlt, w, hn]
    obtain ⟨x, hx⟩ : ∃ x, l[j] = x := ⟨_, rfl⟩
    have hxm : x ∈ l := by rw [← hx]; exact List.getElem_mem hlt
    rw [hx]
    have hin : ∃ y ∈ lastE l, keyIs x.f0.f0 x.f0.f1 x.f0.f2 y = true := by
      have := lastE_key l x.f0 (List.mem_map.2 ⟨x, hxm, rfl⟩)
      obtain ⟨y, hy, he⟩ := List.mem_map.1 this
      exact ⟨y, hy, by simp only [keyIs]; rw [he]; simp⟩
    obtain ⟨at_, hat, he, hp⟩ := idx_at _ (lastE l) 0 hin
    have hlen : (lastE l).length ≤ l.length := by rw [lastE_len]; exact firsts_le l []
    unfold trace_Find.f
    rw [he]
    have e0 : (0 : Int) + (at_ : Int) = (at_ : Int) := by omega
    rw [e0]
    simp only [Option.bind_some]
    rw [if_neg (by omega), if_neg (by omega)]
    show (trace_Check.f l).bind _ = _
    unfold trace_Check.f
    simp only [Option.bind_some]
    by_cases hc : likeLoop l [] = 0
    · rw [if_pos hc, if_pos (by omega), if_pos (by omega), rdE _ _ hat]
      have hy : (lastE l)[at_] = x := by
        refine (like_zero l [] hc).2 _ (lastE_sub l _ (List.getElem_mem hat)) x hxm ?_
        simp only [keyIs, Bool.and_eq_true, beq_iff_eq] at hp
        obtain ⟨⟨h1, h2⟩, h3⟩ := hp
        generalize (lastE l)[at_] = y at h1 h2 h3
        obtain ⟨⟨a0, a1, a2⟩, a3⟩ := y
        obtain ⟨⟨b0, b1, b2⟩, b3⟩ := x
        simp_all
      rw [hy]
      simp
    · rw [if_neg hc]

theorem TraceFew : ∀ (x0 : List (S37)), (x0.length ≤ maxLen ∧ ∀ y ∈ x0, (((Lit.int .i64 y.f0.f0).wf = true) ∧ (True) ∧ ((Lit.int .i64 y.f0.f2).wf = true)) ∧ (True)) → ∃ k, argosylaw20_TraceFew.f k x0 = some true := by
  intro l _
  refine ⟨1000, ?_⟩
  unfold argosylaw20_TraceFew.f
  by_cases hl : (l.length : Int) > 150
  · rw [if_pos hl, lives_ge 1000 (by decide)]
    rfl
  · rw [if_neg hl]
    have hl' : l.length ≤ 150 := by omega
    have hlen : (lastE l).length ≤ l.length := by rw [lastE_len]; exact firsts_le l []
    have hself : lastE (lastE l) = lastE l := lastE_self _ (lastE_nodup l)
    have hg1 : trace_Again.f (lastE l) = some 0 := by rw [again_eq _ (by omega), hself]; congr 1; omega
    have hc1 : trace_Check.f (lastE l) = some 0 := by unfold trace_Check.f; rw [like_nodup _ [] (lastE_nodup l) (fun x _ h => by cases h)]
    have hsum : wrap64 (((lastE l).length : Int) + ((l.length : Int) - ((lastE l).length : Int))) = (l.length : Int) := by rw [w64_small (by omega) (by omega)]; omega
    rw [last_eq l (by omega)]
    simp only [Option.bind_some]
    rw [last_eq _ (by omega), hself]
    simp only [Option.bind_some]
    rw [same_self _ (by omega) 1000 (by omega)]
    simp only [Option.bind_some, if_true]
    rw [hg1]
    simp only [Option.bind_some, if_true]
    rw [again_eq l (by omega)]
    simp only [Option.bind_some]
    rw [if_pos hsum, hc1]
    simp only [Option.bind_some]
    show argosylaw20_TraceFew.j0 (999 + 1) l (lastE l) false = some true
    simp only [argosylaw20_TraceFew.j0]
    rw [if_neg (by decide)]
    exact few_loop l hl' l.length 999 0 (by omega) (by omega)
end Go.Proofs.Ytphifpibjgeijaa.Pure
