/- Any trace went alike or not, and was done again, last, and left, as the document says: for every trace of at most 150 effects, and every key. -/
import Derived.Test.YtphifpibjgeijaaSTrace3
import Derived.Test.YtphifpibjgeijaaFx16
namespace Go.Proofs.Ytphifpibjgeijaa.Pure
set_option linter.unusedVariables false
open Go.RowKit Go.Proofs.Ytphifpibjgeijaa.F Go.Proofs.Ytphifpibjgeijaa.S Go.Proofs.YtphifpibjgeijaaW.PrintWords Go.Proofs.YtphifpibjgeijaaW.PrintLast
/-! Find -/
theorem find_loop (l : List Eff) (hl : l.length ≤ 1000) (a : Int) (b : Bool) (c : Int) (d : Nat) : ∀ (k j : Nat), j + d = l.length → d < k → argosyref20_Find.l0 k l (j : Int) a b c = some (idxFrom (keyIs a b c) (l.drop j) (j : Int)) := by
  induction d with
  | zero =>
    intro k j hj hk
    obtain ⟨k, rfl⟩ : ∃ m, k = m + 1 := ⟨k - 1, by omega⟩
    simp only [argosyref20_Find.l0]
    rw [if_neg (by omega), List.drop_eq_nil_of_le (by omega)]
    rfl
  | succ d ih =>
    intro k j hj hk
    obtain ⟨k, rfl⟩ : ∃ m, k = m + 1 := ⟨k - 1, by omega⟩
    have hlt : j < l.length := by omega
    have w : wrap64 ((j : Int) + 1) = ((j + 1 : Nat) : Int) := w64_small (by omega) (by omega)
    simp only [argosyref20_Find.l0]
    rw [if_pos (by omega), if_pos (by omega), rdE l j hlt, idxFrom_drop _ _ _ hlt, w, ih k (j + 1) (by omega) (by omega)]
    have e : ((l[j].f0.f0 == a && (l[j].f0.f1 == b && (l[j].f0.f2 == c))) = true) ↔ keyIs a b c l[j] = true := by
      unfold keyIs
      rw [Bool.and_assoc]
    by_cases h : keyIs a b c l[j] = true
    · rw [if_pos (e.2 h), if_pos h]
    · rw [if_neg (fun h' => h (e.1 h')), if_neg h]
      rfl
theorem find_eq (l : List Eff) (hl : l.length ≤ 1000) (a : Int) (b : Bool) (c : Int) (k : Nat) (hk : l.length < k) : argosyref20_Find.f k l a b c = some (idxFrom (keyIs a b c) l 0) := find_loop l hl a b c l.length k 0 (by omega) hk
theorem keyIs_iff (x y : Eff) : keyIs x.f0.f0 x.f0.f1 x.f0.f2 y = true ↔ y.f0 = x.f0 := by
  unfold keyIs
  obtain ⟨⟨a0, a1, a2⟩, a3⟩ := x
  obtain ⟨⟨b0, b1, b2⟩, b3⟩ := y
  simp [and_assoc]
theorem idx_none (p : Eff → Bool) : ∀ (l : List Eff) (i : Int), (∀ x ∈ l, p x = false) → idxFrom p l i = -1
  | [], i, h => rfl
  | x :: l, i, h => by
    unfold idxFrom
    rw [if_neg (by rw [h x (List.mem_cons_self ..)]; decide)]
    exact idx_none p l (i + 1) (fun y hy => h y (List.mem_cons_of_mem _ hy))
theorem idx_ge (p : Eff → Bool) : ∀ (l : List Eff) (i : Int), (∃ x ∈ l, p x = true) → i ≤ idxFrom p l i := by
  intro l i h
  obtain ⟨j, _, he, _⟩ := idx_at p l i h
  omega
/-- The first place of what p is asked lies ahead of i just where p holds ahead of it. -/
theorem idx_lt (p : Eff → Bool) : ∀ (l : List Eff) (i : Int) (n : Nat), (∃ x ∈ l, p x = true) → (idxFrom p l i < i + n ↔ ∃ x ∈ l.take n, p x = true)
  | [], i, n, h => by obtain ⟨x, hx, _⟩ := h; cases hx
  | x :: l, i, n, h => by
    unfold idxFrom
    cases n with
    | zero =>
      have := idx_ge p (x :: l) i h
      unfold idxFrom at this
      constructor
      · intro h'; omega
      · rintro ⟨y, hy, _⟩; cases hy
    | succ n =>
      rw [List.take_succ_cons]
      by_cases hx : p x = true
      · rw [if_pos hx]
        exact ⟨fun _ => ⟨x, List.mem_cons_self .., hx⟩, fun _ => by omega⟩
      · rw [if_neg hx]
        have hl : ∃ y ∈ l, p y = true := by
          obtain ⟨y, hy, hp⟩ := h
          rcases List.mem_cons.1 hy with hy' | hy'
          · rw [hy'] at hp; exact absurd hp hx
          · exact ⟨y, hy', hp⟩
        have := idx_lt p l (i + 1) n hl
        have e : i + 1 + (n : Int) = i + ((n + 1 : Nat) : Int) := by omega
        rw [e] at this
        rw [this]
        constructor
        · rintro ⟨y, hy, hp⟩; exact ⟨y, List.mem_cons_of_mem _ hy, hp⟩
        · rintro ⟨y, hy, hp⟩
          rcases List.mem_cons.1 hy with hy' | hy'
          · rw [hy'] at hp; exact absurd hp hx
          · exact ⟨y, hy', hp⟩
/-! Check -/
def Cons (l : List Eff) : Prop := ∀ x ∈ l, ∀ y ∈ l, x.f0 = y.f0 → x = y
theorem like_one : ∀ (l : List Eff) (m : List (Key × Eff)), likeLoop l m = 0 ∨ likeLoop l m = 14
  | [], m => .inl rfl
  | x :: l, m => by
    unfold likeLoop
    cases mapLook m x.f0 with
    | none => exact like_one l _
    | some o =>
      by_cases ho : o = x
      · simp only [if_pos ho]; exact like_one l _
      · simp only [if_neg ho]; exact .inr trivial
theorem like_cons : ∀ (l : List Eff) (m : List (Key × Eff)), Cons l → (∀ x ∈ l, ∀ o, mapLook m x.f0 = some o → o = x) → likeLoop l m = 0
  | [], m, _, _ => rfl
  | x :: l, m, hc, hm => by
    have hc' : Cons l := fun y hy z hz he => hc y (List.mem_cons_of_mem _ hy) z (List.mem_cons_of_mem _ hz) he
    have hn : likeLoop l (mapPut m x.f0 x) = 0 := like_cons l _ hc' (fun y hy o ho => by
      by_cases he : y.f0 = x.f0
      · rw [he, put_look] at ho
        cases ho
        exact hc x (List.mem_cons_self ..) y (List.mem_cons_of_mem _ hy) he.symm
      · rw [look_put_ne m x he] at ho
        exact hm y (List.mem_cons_of_mem _ hy) o ho)
    unfold likeLoop
    cases hl : mapLook m x.f0 with
    | none => exact hn
    | some o =>
      simp only [if_pos (hm x (List.mem_cons_self ..) o hl)]
      exact hn
/-- The first effect of x's key. -/
theorem first_at (l : List Eff) (x : Eff) (hx : x ∈ l) : ∃ (j : Nat) (h : j < l.length), idxFrom (keyIs x.f0.f0 x.f0.f1 x.f0.f2) l 0 = (j : Int) ∧ l[j].f0 = x.f0 := by
  obtain ⟨j, h, he, hp⟩ := idx_at (keyIs x.f0.f0 x.f0.f1 x.f0.f2) l 0 ⟨x, hx, (keyIs_iff x x).2 rfl⟩
  exact ⟨j, h, by omega, (keyIs_iff x _).1 hp⟩
theorem check_loop (l : List Eff) (hl : l.length ≤ 150) (r : Int) (h14 : (∃ x ∈ l, ∃ (j : Nat) (h : j < l.length), idxFrom (keyIs x.f0.f0 x.f0.f1 x.f0.f2) l 0 = (j : Int) ∧ l[j].f1 ≠ x.f1) → r = 14) (h0 : (∀ x ∈ l, ∀ (j : Nat) (h : j < l.length), idxFrom (keyIs x.f0.f0 x.f0.f1 x.f0.f2) l 0 = (j : Int) → l[j].f1 = x.f1) → r = 0) (d : Nat) :
    ∀ (k i : Nat), i + d = l.length → d + 200 < k → (∀ x ∈ l.take i, ∀ (j : Nat) (h : j < l.length), idxFrom (keyIs x.f0.f0 x.f0.f1 x.f0.f2) l 0 = (j : Int) → l[j].f1 = x.f1) → argosyref20_Check.l0 k l (i : Int) = some r := by
  induction d with
  | zero =>
    intro k i hi hk hp
    obtain ⟨k, rfl⟩ : ∃ m, k = m + 1 := ⟨k - 1, by omega⟩
    simp only [argosyref20_Check.l0]
    rw [if_neg (by omega), h0 (by rw [List.take_of_length_le (by omega)] at hp; exact hp)]
  | succ d ih =>
    intro k i hi hk hp
    obtain ⟨k, rfl⟩ : ∃ m, k = m + 1 := ⟨k - 1, by omega⟩
    have hlt : i < l.length := by omega
    have w : wrap64 ((i : Int) + 1) = ((i + 1 : Nat) : Int) := w64_small (by omega) (by omega)
    obtain ⟨x, hx⟩ : ∃ x, l[i] = x := ⟨_, rfl⟩
    have hxm : x ∈ l := by rw [← hx]; exact List.getElem_mem hlt
    obtain ⟨j, hj, he, hkey⟩ := first_at l x hxm
    simp only [argosyref20_Check.l0]
    rw [if_pos (by omega), if_pos (by omega), rdE l i hlt, hx, find_eq l (by omega) _ _ _ k (by omega), he]
    simp only [Option.bind_some]
    rw [if_pos (by omega), if_pos (by omega), rdE l j hj, w]
    by_cases hne : l[j].f1 = x.f1
    · rw [if_neg (by simp [hne])]
      refine ih k (i + 1) (by omega) (by omega) ?_
      intro y hy j' hj' he'
      rw [List.take_succ_eq_append_getElem hlt] at hy
      rcases List.mem_append.1 hy with hy | hy
      · exact hp y hy j' hj' he'
      · rw [List.mem_singleton] at hy
        rw [hy, hx] at he' ⊢
        have : j' = j := by omega
        subst this
        exact hne
    · rw [if_pos (by simp; exact fun h => hne h.symm), h14 ⟨x, hxm, j, hj, he, hne⟩]
theorem check_eq (l : List Eff) (hl : l.length ≤ 150) (k : Nat) (hk : 400 ≤ k) : argosyref20_Check.f k l = some (likeLoop l []) := by
  refine check_loop l hl _ ?_ ?_ l.length k 0 (by omega) (by omega) (fun x hx => by simp at hx)
  · rintro ⟨x, hx, j, hj, he, hne⟩
    rcases like_one l [] with h | h
    · obtain ⟨j', hj', he', hkey⟩ := first_at l x hx
      have : j' = j := by omega
      subst this
      have := (like_zero l [] h).2 _ (List.getElem_mem hj) x hx hkey
      rw [this] at hne
      exact absurd rfl hne
    · exact h
  · intro h
    refine like_cons l [] ?_ (fun x _ o ho => by cases ho)
    intro x hx y hy he
    obtain ⟨j, hj, hj1, hkey⟩ := first_at l x hx
    have h1 := h x hx j hj hj1
    have h2 := h y hy j hj (by rw [← he]; exact hj1)
    obtain ⟨a, b⟩ := x
    obtain ⟨c, d⟩ := y
    simp only at he h1 h2
    rw [he, ← h1, ← h2]
/-! Again -/
theorem again_loop (l : List Eff) (hl : l.length ≤ 150) (d : Nat) : ∀ (k j : Nat) (c : Int), j + d = l.length → d + 200 < k → 0 ≤ c → c ≤ j → argosyref20_Again.l0 k l c (j : Int) = some (c + ((d : Int) - ((firsts (l.drop j) (keys (l.take j))).length : Int))) := by
  induction d with
  | zero =>
    intro k j c hj hk h0 h1
    obtain ⟨k, rfl⟩ : ∃ m, k = m + 1 := ⟨k - 1, by omega⟩
    simp only [argosyref20_Again.l0]
    rw [if_neg (by omega), List.drop_eq_nil_of_le (by omega)]
    simp [firsts]
  | succ d ih =>
    intro k j c hj hk h0 h1
    obtain ⟨k, rfl⟩ : ∃ m, k = m + 1 := ⟨k - 1, by omega⟩
    have hlt : j < l.length := by omega
    have w : wrap64 ((j : Int) + 1) = ((j + 1 : Nat) : Int) := w64_small (by omega) (by omega)
    have wc : wrap64 (c + 1) = c + 1 := w64_small (by omega) (by omega)
    obtain ⟨x, hx⟩ : ∃ x, l[j] = x := ⟨_, rfl⟩
    have hxm : x ∈ l := by rw [← hx]; exact List.getElem_mem hlt
    have hiff := idx_lt (keyIs x.f0.f0 x.f0.f1 x.f0.f2) l 0 j ⟨x, hxm, (keyIs_iff x x).2 rfl⟩
    have hk1 : (∃ y ∈ l.take j, keyIs x.f0.f0 x.f0.f1 x.f0.f2 y = true) ↔ x.f0 ∈ keys (l.take j) := by
      constructor
      · rintro ⟨y, hy, hp⟩; exact List.mem_map.2 ⟨y, hy, (keyIs_iff x y).1 hp⟩
      · intro h; obtain ⟨y, hy, he⟩ := List.mem_map.1 h; exact ⟨y, hy, (keyIs_iff x y).2 he⟩
    have hd : l.drop j = x :: l.drop (j + 1) := by rw [List.drop_eq_getElem_cons hlt, hx]
    have ht : keys (l.take (j + 1)) = keys (l.take j) ++ [x.f0] := by rw [List.take_succ_eq_append_getElem hlt, hx]; simp [keys]
    simp only [argosyref20_Again.l0]
    rw [if_pos (by omega), if_pos (by omega), rdE l j hlt, hx, find_eq l (by omega) _ _ _ k (by omega), w, wc]
    simp only [Option.bind_some]
    rw [hd]
    show _ = some (c + (((d + 1 : Nat) : Int) - ((if x.f0 ∈ keys (l.take j) then firsts (l.drop (j + 1)) (keys (l.take j)) else x :: firsts (l.drop (j + 1)) (keys (l.take j) ++ [x.f0])).length : Int)))
    by_cases hin : x.f0 ∈ keys (l.take j)
    · have := hiff.2 (hk1.2 hin)
      rw [if_pos (by omega), if_pos hin, ih k (j + 1) (c + 1) (by omega) (by omega) (by omega) (by omega), ht]
      rw [firsts_congr (l.drop (j + 1)) (keys (l.take j) ++ [x.f0]) (keys (l.take j)) (fun k => by
        rw [List.mem_append, List.mem_singleton]
        exact ⟨fun h => h.elim id (fun h => h ▸ hin), .inl⟩)]
      congr 1
      omega
    · have : ¬ (idxFrom (keyIs x.f0.f0 x.f0.f1 x.f0.f2) l 0 < (j : Int)) := fun h => hin (hk1.1 (hiff.1 (by omega)))
      rw [if_neg this, if_neg hin, ih k (j + 1) c (by omega) (by omega) (by omega) (by omega), ht]
      congr 1
      simp only [List.length_cons]
      omega
theorem refAgain_eq (l : List Eff) (hl : l.length ≤ 150) (k : Nat) (hk : 400 ≤ k) : argosyref20_Again.f k l = some ((l.length : Int) - ((lastE l).length : Int)) := by
  have h := again_loop l hl l.length k 0 0 (by omega) (by omega) (by omega) (by omega)
  unfold argosyref20_Again.f
  rw [lastE_len]
  refine Eq.trans h ?_
  congr 1
  simp [keys]
/-! Last -/
theorem last_loop (l : List Eff) (hl : l.length ≤ 150) (d : Nat) : ∀ (k j : Nat) (out : List Eff), j + d = l.length → d + 200 < k → out.length ≤ j → argosyref20_Last.l0 k l out (j : Int) = some (out ++ lastE (l.drop j)) := by
  induction d with
  | zero =>
    intro k j out hj hk ho
    obtain ⟨k, rfl⟩ : ∃ m, k = m + 1 := ⟨k - 1, by omega⟩
    simp only [argosyref20_Last.l0]
    rw [if_neg (by omega), List.drop_eq_nil_of_le (by omega)]
    simp [lastE]
  | succ d ih =>
    intro k j out hj hk ho
    obtain ⟨k, rfl⟩ : ∃ m, k = m + 1 := ⟨k - 1, by omega⟩
    have hlt : j < l.length := by omega
    have w : wrap64 ((j : Int) + 1) = ((j + 1 : Nat) : Int) := w64_small (by omega) (by omega)
    obtain ⟨x, hx⟩ : ∃ x, l[j] = x := ⟨_, rfl⟩
    have hd : l.drop j = x :: l.drop (j + 1) := by rw [List.drop_eq_getElem_cons hlt, hx]
    simp only [argosyref20_Last.l0]
    rw [if_pos (by omega), w, if_pos (by omega), if_pos (by omega), if_pos (by omega), rdE l j hlt, hx, Int.toNat_natCast, find_eq _ (by rw [List.length_drop]; omega) _ _ _ k (by rw [List.length_drop]; omega)]
    simp only [Option.bind_some]
    rw [hd]
    show _ = some (out ++ (if x.f0 ∈ keys (l.drop (j + 1)) then lastE (l.drop (j + 1)) else x :: lastE (l.drop (j + 1))))
    by_cases hin : x.f0 ∈ keys (l.drop (j + 1))
    · obtain ⟨y, hy, he⟩ := List.mem_map.1 hin
      have := idx_ge (keyIs x.f0.f0 x.f0.f1 x.f0.f2) (l.drop (j + 1)) 0 ⟨y, hy, (keyIs_iff x y).2 he⟩
      rw [if_neg (by omega), if_pos hin]
      exact ih k (j + 1) out (by omega) (by omega) (by omega)
    · have := idx_none (keyIs x.f0.f0 x.f0.f1 x.f0.f2) (l.drop (j + 1)) 0 (fun y hy => by
        rw [← Bool.not_eq_true]
        intro h
        exact hin (List.mem_map.2 ⟨y, hy, (keyIs_iff x y).1 h⟩))
      rw [this, if_pos (by decide), if_neg hin, if_pos (by omega)]
      have hn := ih k (j + 1) (out ++ [x]) (by omega) (by omega) (by simp; omega)
      rw [List.append_assoc] at hn
      exact hn
theorem refLast_eq (l : List Eff) (hl : l.length ≤ 150) (k : Nat) (hk : 400 ≤ k) : argosyref20_Last.f k l = some (lastE l) := by
  have h := last_loop l hl l.length k 0 [] (by omega) (by omega) (by simp)
  exact h
/-! Left -/
def cOf (m : List (Int × Course)) (i : Int) : Course := (mapLook m i).getD course0
theorem cOf_put (m : List (Int × Course)) (k i : Int) (c : Course) : cOf (mapPut m k c) i = if i = k then c else cOf m i := by
  unfold cOf
  by_cases h : i = k
  · rw [if_pos h, h, put_look]; rfl
  · rw [if_neg h, look_put_ne m c h]
theorem step_done (c : Course) (v : Int) (x : Eff) (hv : 0 ≤ v) (hc : 0 ≤ c.done) : 0 ≤ (courseStep c v x).done ∧ ((courseStep c v x).done > 0 ↔ c.done > 0 ∨ (x.f0.f1 = false ∧ x.f1 = true)) := by
  unfold courseStep
  by_cases h1 : x.f0.f1 = false
  · rw [if_pos h1]
    by_cases h2 : x.f1 = true ∧ c.done = 0
    · rw [if_pos h2]
      exact ⟨by show 0 ≤ v + 1; omega, ⟨fun _ => .inr ⟨h1, h2.1⟩, fun _ => by show v + 1 > 0; omega⟩⟩
    · rw [if_neg h2]
      refine ⟨hc, ⟨.inl, fun h => h.elim id (fun h => ?_)⟩⟩
      have : c.done ≠ 0 := fun h0 => h2 ⟨h.2, h0⟩
      omega
  · rw [if_neg h1]
    exact ⟨hc, ⟨.inl, fun h => h.elim id (fun h => absurd h.1 h1)⟩⟩
theorem step_undone (c : Course) (v : Int) (x : Eff) (hv : 0 ≤ v) : (courseStep c v x).undone = 0 ↔ c.undone = 0 ∧ ¬ (x.f0.f1 = true ∧ x.f1 = true) := by
  unfold courseStep
  by_cases h1 : x.f0.f1 = false
  · rw [if_pos h1]
    have e : (if x.f1 = true ∧ c.done = 0 then ({ c with done := v + 1 } : Course) else c).undone = c.undone := by split <;> rfl
    rw [e]
    exact ⟨fun h => ⟨h, fun h' => by rw [h1] at h'; exact absurd h'.1 (by decide)⟩, fun h => h.1⟩
  · rw [if_neg h1]
    have ht : x.f0.f1 = true := by simpa using h1
    show (if x.f1 = true ∧ c.undone = 0 then v + 1 else c.undone) = 0 ↔ _
    by_cases h2 : x.f1 = true ∧ c.undone = 0
    · rw [if_pos h2]
      exact ⟨fun h => by omega, fun h => absurd ⟨ht, h2.1⟩ h.2⟩
    · rw [if_neg h2]
      exact ⟨fun h => ⟨h, fun h' => h2 ⟨h'.2, h⟩⟩, fun h => h.1⟩
def DoneIn (l : List Eff) (i : Int) : Prop := ∃ x ∈ l, x.f0.f0 = i ∧ x.f0.f1 = false ∧ x.f1 = true
def UndoneIn (l : List Eff) (i : Int) : Prop := ∃ x ∈ l, x.f0.f0 = i ∧ x.f0.f1 = true ∧ x.f1 = true
theorem courses_done : ∀ (l : List Eff) (v : Int) (m : List (Int × Course)), 0 ≤ v → (∀ i, 0 ≤ (cOf m i).done) → ∀ i, (cOf (coursesOf l v m) i).done > 0 ↔ (cOf m i).done > 0 ∨ DoneIn l i
  | [], v, m, _, _, i => ⟨.inl, fun h => h.elim id (fun ⟨x, hx, _⟩ => by cases hx)⟩
  | x :: l, v, m, hv, hm, i => by
    have hs := step_done (cOf m x.f0.f0) v x hv (hm _)
    have hm' : ∀ j, 0 ≤ (cOf (mapPut m x.f0.f0 (courseStep (cOf m x.f0.f0) v x)) j).done := by
      intro j
      rw [cOf_put]
      split
      · exact hs.1
      · exact hm j
    show (cOf (coursesOf l (v + 1) (mapPut m x.f0.f0 (courseStep (cOf m x.f0.f0) v x))) i).done > 0 ↔ _
    rw [courses_done l (v + 1) _ (by omega) hm' i, cOf_put]
    by_cases h : i = x.f0.f0
    · rw [if_pos h, hs.2, ← h]
      constructor
      · rintro ((h1 | h1) | ⟨y, hy, hr⟩)
        · exact .inl h1
        · exact .inr ⟨x, List.mem_cons_self .., h.symm, h1⟩
        · exact .inr ⟨y, List.mem_cons_of_mem _ hy, hr⟩
      · rintro (h1 | ⟨y, hy, hr⟩)
        · exact .inl (.inl h1)
        · rcases List.mem_cons.1 hy with hy' | hy'
          · exact .inl (.inr (hy' ▸ hr.2))
          · exact .inr ⟨y, hy', hr⟩
    · rw [if_neg h]
      constructor
      · rintro (h1 | ⟨y, hy, hr⟩)
        · exact .inl h1
        · exact .inr ⟨y, List.mem_cons_of_mem _ hy, hr⟩
      · rintro (h1 | ⟨y, hy, hr⟩)
        · exact .inl h1
        · rcases List.mem_cons.1 hy with hy' | hy'
          · exact absurd (hy' ▸ hr.1).symm h
          · exact .inr ⟨y, hy', hr⟩
theorem courses_undone : ∀ (l : List Eff) (v : Int) (m : List (Int × Course)), 0 ≤ v → ∀ i, (cOf (coursesOf l v m) i).undone = 0 ↔ (cOf m i).undone = 0 ∧ ¬ UndoneIn l i
  | [], v, m, _, i => ⟨fun h => ⟨h, fun ⟨x, hx, _⟩ => by cases hx⟩, fun h => h.1⟩
  | x :: l, v, m, hv, i => by
    have hs := step_undone (cOf m x.f0.f0) v x hv
    show (cOf (coursesOf l (v + 1) (mapPut m x.f0.f0 (courseStep (cOf m x.f0.f0) v x))) i).undone = 0 ↔ _
    rw [courses_undone l (v + 1) _ (by omega) i, cOf_put]
    by_cases h : i = x.f0.f0
    · rw [if_pos h, hs, ← h]
      constructor
      · rintro ⟨⟨h1, h2⟩, h3⟩
        refine ⟨h1, ?_⟩
        rintro ⟨y, hy, hr⟩
        rcases List.mem_cons.1 hy with hy' | hy'
        · exact h2 (hy' ▸ hr.2)
        · exact h3 ⟨y, hy', hr⟩
      · rintro ⟨h1, h2⟩
        exact ⟨⟨h1, fun h3 => h2 ⟨x, List.mem_cons_self .., h.symm, h3⟩⟩, fun ⟨y, hy, hr⟩ => h2 ⟨y, List.mem_cons_of_mem _ hy, hr⟩⟩
    · rw [if_neg h]
      constructor
      · rintro ⟨h1, h3⟩
        refine ⟨h1, ?_⟩
        rintro ⟨y, hy, hr⟩
        rcases List.mem_cons.1 hy with hy' | hy'
        · exact h (hy' ▸ hr.1).symm
        · exact h3 ⟨y, hy', hr⟩
      · rintro ⟨h1, h2⟩
        exact ⟨h1, fun ⟨y, hy, hr⟩ => h2 ⟨y, List.mem_cons_of_mem _ hy, hr⟩⟩
theorem isLeft_iff (l : List Eff) (i : Int) : isLeft (coursesOf l 0 []) i = true ↔ DoneIn l i ∧ ¬ UndoneIn l i := by
  have h1 := courses_done l 0 [] (by omega) (fun j => Int.le_refl 0) i
  have h2 := courses_undone l 0 [] (by omega) i
  unfold isLeft
  rw [Bool.and_eq_true, decide_eq_true_iff, beq_iff_eq]
  show (cOf (coursesOf l 0 []) i).done > 0 ∧ (cOf (coursesOf l 0 []) i).undone = 0 ↔ _
  rw [h1, h2]
  exact ⟨fun ⟨a, b⟩ => ⟨a.elim (fun h => absurd h (show ¬ (0 : Int) > 0 by omega)) id, b.2⟩, fun ⟨a, b⟩ => ⟨.inr a, rfl, b⟩⟩
theorem keys_courses : ∀ (l : List Eff) (v : Int) (m : List (Int × Course)) (i : Int), (i ∈ keysOf m ∨ ∃ x ∈ l, x.f0.f0 = i) → i ∈ keysOf (coursesOf l v m)
  | [], v, m, i, h => h.elim id (fun ⟨x, hx, _⟩ => by cases hx)
  | x :: l, v, m, i, h => by
    refine keys_courses l (v + 1) _ i ?_
    rw [keysOf_put]
    rcases h with h | ⟨y, hy, he⟩
    · left; split
      · exact h
      · exact List.mem_append_left _ h
    · rcases List.mem_cons.1 hy with hy' | hy'
      · left
        rw [← he, hy']
        split
        · rename_i hs
          by_cases hn : x.f0.f0 ∈ keysOf m
          · exact hn
          · rw [look_none.2 hn] at hs; cases hs
        · exact List.mem_append_right _ (List.mem_singleton.2 rfl)
      · right; exact ⟨y, hy', he⟩
theorem left_iff (l : List Eff) (i : Int) : i ∈ F.leftOf l ↔ DoneIn l i ∧ ¬ UndoneIn l i := by
  constructor
  · intro h; exact (isLeft_iff l i).1 (left_mem h).2
  · intro h
    obtain ⟨x, hx, he, _⟩ := h.1
    unfold F.leftOf
    exact List.mem_filter.2 ⟨List.mem_mergeSort.2 (keys_courses l 0 [] i (.inr ⟨x, hx, he⟩)), (isLeft_iff l i).2 h⟩
def firstP (a : Int) (b : Bool) (x : Eff) : Bool := x.f0.f0 == a && x.f0.f1 == b && x.f1
theorem first_loop (l : List Eff) (hl : l.length ≤ 1000) (a : Int) (b : Bool) (d : Nat) : ∀ (k j : Nat), j + d = l.length → d < k → argosyref20_first.l0 k l a b false (j : Int) = some (idxFrom (firstP a b) (l.drop j) (j : Int)) := by
  induction d with
  | zero =>
    intro k j hj hk
    obtain ⟨k, rfl⟩ : ∃ m, k = m + 1 := ⟨k - 1, by omega⟩
    simp only [argosyref20_first.l0]
    rw [if_neg (by omega), List.drop_eq_nil_of_le (by omega)]
    rfl
  | succ d ih =>
    intro k j hj hk
    obtain ⟨k, rfl⟩ : ∃ m, k = m + 1 := ⟨k - 1, by omega⟩
    have hlt : j < l.length := by omega
    have w : wrap64 ((j : Int) + 1) = ((j + 1 : Nat) : Int) := w64_small (by omega) (by omega)
    simp only [argosyref20_first.l0]
    rw [if_pos (by omega), if_pos (by omega), rdE l j hlt, idxFrom_drop _ _ _ hlt, w, ih k (j + 1) (by omega) (by omega)]
    rw [if_neg (by decide : ¬ false = true)]
    unfold firstP
    by_cases h1 : l[j].f0.f0 = a
    · by_cases h2 : l[j].f0.f1 = b
      · by_cases h3 : l[j].f1 = true
        · simp [h1, h2, h3]
        · simp [h1, h2, h3]
      · simp [h1, h2]
    · simp [h1]
theorem first_eq (l : List Eff) (hl : l.length ≤ 1000) (a : Int) (b : Bool) (k : Nat) (hk : l.length < k) : argosyref20_first.f k l a b false = some (idxFrom (firstP a b) l 0) := first_loop l hl a b l.length k 0 (by omega) hk
theorem first_iff (l : List Eff) (a : Int) (b : Bool) : 0 ≤ idxFrom (firstP a b) l 0 ↔ ∃ x ∈ l, x.f0.f0 = a ∧ x.f0.f1 = b ∧ x.f1 = true := by
  have e : ∀ x, firstP a b x = true ↔ x.f0.f0 = a ∧ x.f0.f1 = b ∧ x.f1 = true := by
    intro x; unfold firstP; simp [and_assoc]
  constructor
  · intro h
    by_cases hx : ∃ x ∈ l, firstP a b x = true
    · obtain ⟨x, hm, hp⟩ := hx; exact ⟨x, hm, (e x).1 hp⟩
    · rw [idx_none (firstP a b) l 0 (fun x hm => by
        rw [← Bool.not_eq_true]
        exact fun hp => hx ⟨x, hm, hp⟩)] at h
      omega
  · rintro ⟨x, hm, hp⟩
    exact idx_ge (firstP a b) l 0 ⟨x, hm, (e x).2 hp⟩
def Cand (l : List Eff) (out : List Int) (i : Int) : Prop := DoneIn l i ∧ ¬ UndoneIn l i ∧ ∀ h : 0 < out.length, out[out.length - 1] < i
theorem pass_j (l : List Eff) (out : List Int) (x4 : Int) (x5 : Bool) (j : Nat) (x7 : Int) (k : Nat) (hj : j < 1000) : argosyref20_Left.j2 (k + 1) l out x4 x5 (j : Int) x7 true = argosyref20_Left.l1 k l out x4 x5 ((j + 1 : Nat) : Int) ∧
    argosyref20_Left.j2 (k + 1) l out x4 x5 (j : Int) x7 false = (if x5 = true ∧ ¬ x7 < x4 then argosyref20_Left.l1 k l out x4 x5 ((j + 1 : Nat) : Int) else argosyref20_Left.l1 k l out x7 true ((j + 1 : Nat) : Int)) := by
  have w : wrap64 ((j : Int) + 1) = ((j + 1 : Nat) : Int) := w64_small (by omega) (by omega)
  simp only [argosyref20_Left.j2]
  rw [w]
  refine ⟨by rw [if_pos trivial], ?_⟩
  rw [if_neg (by decide : ¬ false = true)]
  by_cases h : x5 = true
  · rw [if_pos h]
    by_cases h7 : x7 < x4
    · rw [if_pos h7, if_neg (fun h' => h'.2 h7)]
    · rw [if_neg h7, if_pos ⟨h, h7⟩]
  · rw [if_neg h, if_neg (fun h' => h h'.1)]
theorem pass_loop (l : List Eff) (out : List Int) (hl : l.length ≤ 150) (ho : out.length ≤ 150) (R : Option (List Int)) (K0 : Nat) (hK : 200 ≤ K0)
    (hnone : (∀ x ∈ l, ¬ Cand l out x.f0.f0) → some out = R) (hsome : ∀ (b : Int) (k : Nat), Cand l out b → (∀ x ∈ l, Cand l out x.f0.f0 → b ≤ x.f0.f0) → K0 ≤ k → argosyref20_Left.l0 k l (out ++ [b]) = R) (d : Nat) :
    ∀ (k j : Nat) (x4 : Int) (x5 : Bool), j + d = l.length → 2 * d + K0 < k → (x5 = true → Cand l out x4) → (∀ x ∈ l.take j, Cand l out x.f0.f0 → x5 = true ∧ x4 ≤ x.f0.f0) → argosyref20_Left.l1 k l out x4 x5 (j : Int) = R := by
  induction d with
  | zero =>
    intro k j x4 x5 hj hk h1 h2
    obtain ⟨k, rfl⟩ : ∃ m, k = m + 1 := ⟨k - 1, by omega⟩
    rw [List.take_of_length_le (by omega)] at h2
    simp only [argosyref20_Left.l1]
    rw [if_neg (by omega)]
    by_cases h5 : x5 = true
    · rw [if_pos h5, if_pos (by omega)]
      exact hsome x4 k (h1 h5) (fun x hx hc => (h2 x hx hc).2) (by omega)
    · rw [if_neg h5]
      exact hnone (fun x hx hc => h5 (h2 x hx hc).1)
  | succ d ih =>
    intro k j x4 x5 hj hk h1 h2
    obtain ⟨k, rfl⟩ : ∃ m, k = m + 1 + 1 := ⟨k - 2, by omega⟩
    have hlt : j < l.length := by omega
    obtain ⟨x, hx⟩ : ∃ x, l[j] = x := ⟨_, rfl⟩
    obtain ⟨p1, p2⟩ := pass_j l out x4 x5 j x.f0.f0 k (by omega)
    have ht : l.take (j + 1) = l.take j ++ [x] := by rw [List.take_succ_eq_append_getElem hlt, hx]
    have skip : ¬ Cand l out x.f0.f0 → argosyref20_Left.l1 k l out x4 x5 ((j + 1 : Nat) : Int) = R := by
      intro hc
      refine ih k (j + 1) x4 x5 (by omega) (by omega) h1 ?_
      intro y hy hcy
      rw [ht] at hy
      rcases List.mem_append.1 hy with hy | hy
      · exact h2 y hy hcy
      · rw [List.mem_singleton.1 hy] at hcy; exact absurd hcy hc
    have take : Cand l out x.f0.f0 → argosyref20_Left.j2 (k + 1) l out x4 x5 (j : Int) x.f0.f0 false = R := by
      intro hc
      rw [p2]
      by_cases h5 : x5 = true ∧ ¬ x.f0.f0 < x4
      · rw [if_pos h5]
        refine ih k (j + 1) x4 x5 (by omega) (by omega) h1 ?_
        intro y hy hcy
        rw [ht] at hy
        rcases List.mem_append.1 hy with hy | hy
        · exact h2 y hy hcy
        · rw [List.mem_singleton.1 hy]; exact ⟨h5.1, by omega⟩
      · rw [if_neg h5]
        refine ih k (j + 1) x.f0.f0 true (by omega) (by omega) (fun _ => hc) ?_
        intro y hy hcy
        refine ⟨rfl, ?_⟩
        rw [ht] at hy
        rcases List.mem_append.1 hy with hy | hy
        · have := h2 y hy hcy
          have h7 : x.f0.f0 < x4 := by
            by_cases h7 : x.f0.f0 < x4
            · exact h7
            · exact absurd ⟨this.1, h7⟩ h5
          omega
        · rw [List.mem_singleton.1 hy]
          exact Int.le_refl _
    have f1 := first_iff l x.f0.f0 false
    have f2 := first_iff l x.f0.f0 true
    rw [argosyref20_Left.l1]
    rw [if_pos (by omega), if_pos (by omega), rdE l j hlt, hx, first_eq l (by omega) _ _ (k + 1) (by omega), first_eq l (by omega) _ _ (k + 1) (by omega)]
    simp only [Option.bind_some]
    by_cases c1 : idxFrom (firstP x.f0.f0 false) l 0 < 0
    · rw [if_pos c1, p1]
      exact skip (fun hc => by have := f1.2 hc.1; omega)
    · rw [if_neg c1]
      by_cases c2 : idxFrom (firstP x.f0.f0 true) l 0 ≥ 0
      · rw [if_pos c2, p1]
        exact skip (fun hc => hc.2.1 (f2.1 c2))
      · rw [if_neg c2]
        have hd : DoneIn l x.f0.f0 := f1.1 (by omega)
        have hu : ¬ UndoneIn l x.f0.f0 := fun h => c2 (f2.2 h)
        by_cases c3 : (out.length : Int) > 0
        · have w1 : wrap64 ((out.length : Int) - 1) = ((out.length - 1 : Nat) : Int) := by rw [w64_small (by omega) (by omega)]; omega
          rw [if_pos c3, w1, if_pos (by omega), if_pos (by omega), rdI out _ (by omega)]
          by_cases c4 : x.f0.f0 ≤ out[out.length - 1]
          · rw [decide_eq_true c4, p1]
            exact skip (fun hc => by have := hc.2.2 (by omega); omega)
          · rw [decide_eq_false c4]
            exact take ⟨hd, hu, fun h => by omega⟩
        · rw [if_neg c3]
          exact take ⟨hd, hu, fun h => by omega⟩
theorem cand_iff (l : List Eff) (t : Nat) (ht : t ≤ (F.leftOf l).length) (i : Int) : Cand l ((F.leftOf l).take t) i ↔ ∃ (s : Nat) (h : s < (F.leftOf l).length), t ≤ s ∧ (F.leftOf l)[s] = i := by
  have hp := List.pairwise_iff_getElem.1 (left_lt l)
  have hlen : ((F.leftOf l).take t).length = t := by rw [List.length_take]; omega
  constructor
  · rintro ⟨h1, h2, h3⟩
    obtain ⟨s, hs, he⟩ := List.mem_iff_getElem.1 ((left_iff l i).2 ⟨h1, h2⟩)
    refine ⟨s, hs, ?_, he⟩
    by_cases h : t ≤ s
    · exact h
    · have h4 := h3 (by omega)
      have e : ((F.leftOf l).take t)[((F.leftOf l).take t).length - 1]'(by omega) = (F.leftOf l)[t - 1]'(by omega) := by
        rw [List.getElem_take]
        congr 1
        omega
      rw [e] at h4
      by_cases hst : s = t - 1
      · subst hst
        omega
      · have := hp s (t - 1) hs (by omega) (by omega)
        omega
  · rintro ⟨s, hs, hts, he⟩
    have hm := (left_iff l i).1 (by rw [← he]; exact List.getElem_mem hs)
    refine ⟨hm.1, hm.2, fun h => ?_⟩
    have e : ((F.leftOf l).take t)[((F.leftOf l).take t).length - 1]'(by omega) = (F.leftOf l)[t - 1]'(by omega) := by
      rw [List.getElem_take]
      congr 1
      omega
    rw [e]
    have := hp (t - 1) s (by omega) hs (by omega)
    omega
theorem refLeft_loop (l : List Eff) (hl : l.length ≤ 150) (d : Nat) : ∀ (k t : Nat), t + d = (F.leftOf l).length → 303 * d + 600 ≤ k → argosyref20_Left.l0 k l ((F.leftOf l).take t) = some (F.leftOf l) := by
  have hll := left_len l
  have hp := List.pairwise_iff_getElem.1 (left_lt l)
  induction d with
  | zero =>
    intro k t ht hk
    obtain ⟨k, rfl⟩ : ∃ m, k = m + 1 := ⟨k - 1, by omega⟩
    have hlen : ((F.leftOf l).take t).length = t := by rw [List.length_take]; omega
    rw [argosyref20_Left.l0, if_pos (by omega)]
    refine pass_loop l _ hl (by omega) _ 200 (by omega) (fun _ => by rw [List.take_of_length_le (by omega)]) ?_ l.length k 0 0 false (by omega) (by omega) (fun h => by cases h) (fun x hx => by simp at hx)
    intro b k' hc _ _
    obtain ⟨s, hs, hts, _⟩ := (cand_iff l t (by omega) b).1 hc
    omega
  | succ d ih =>
    intro k t ht hk
    obtain ⟨k, rfl⟩ : ∃ m, k = m + 1 := ⟨k - 1, by omega⟩
    have hlen : ((F.leftOf l).take t).length = t := by rw [List.length_take]; omega
    have htl : t < (F.leftOf l).length := by omega
    rw [argosyref20_Left.l0, if_pos (by omega)]
    refine pass_loop l _ hl (by omega) _ (303 * d + 600) (by omega) ?_ ?_ l.length k 0 0 false (by omega) (by omega) (fun h => by cases h) (fun x hx => by simp at hx)
    · intro h
      have hc : Cand l ((F.leftOf l).take t) (F.leftOf l)[t] := (cand_iff l t (by omega) _).2 ⟨t, htl, Nat.le_refl _, rfl⟩
      obtain ⟨x, hx, he, _⟩ := hc.1
      exact absurd (by rw [he]; exact hc) (h x hx)
    · intro b k' hc hmin hk'
      have hb : b = (F.leftOf l)[t] := by
        have hc2 : Cand l ((F.leftOf l).take t) (F.leftOf l)[t] := (cand_iff l t (by omega) _).2 ⟨t, htl, Nat.le_refl _, rfl⟩
        obtain ⟨x, hx, he, _⟩ := hc2.1
        have h1 := hmin x hx (by rw [he]; exact hc2)
        obtain ⟨s, hs, hts, hse⟩ := (cand_iff l t (by omega) b).1 hc
        by_cases hst : s = t
        · subst hst; exact hse.symm
        · have := hp t s htl hs (by omega)
          omega
      rw [hb, ← List.take_succ_eq_append_getElem htl]
      exact ih k' (t + 1) (by omega) hk'
theorem refLeft_eq (l : List Eff) (hl : l.length ≤ 150) (k : Nat) (hk : 60000 ≤ k) : argosyref20_Left.f k l = some (F.leftOf l) := by
  have hll := left_len l
  have h := refLeft_loop l hl (F.leftOf l).length k 0 (by omega) (by omega)
  exact h
theorem same1_loop (l : List Int) (hl : l.length ≤ 1000) (d : Nat) : ∀ (k j : Nat), j + d = l.length → d < k → argosyref01_Same.l0 k l l (j : Int) = some true := by
  induction d with
  | zero =>
    intro k j hj hk
    obtain ⟨k, rfl⟩ : ∃ m, k = m + 1 := ⟨k - 1, by omega⟩
    simp only [argosyref01_Same.l0]
    rw [if_neg (by omega)]
  | succ d ih =>
    intro k j hj hk
    obtain ⟨k, rfl⟩ : ∃ m, k = m + 1 := ⟨k - 1, by omega⟩
    simp only [argosyref01_Same.l0]
    have w : wrap64 ((j : Int) + 1) = ((j + 1 : Nat) : Int) := w64_small (by omega) (by omega)
    rw [if_pos (by omega), if_pos (by omega), if_pos (by omega), w, ih k (j + 1) (by omega) (by omega)]
    simp
theorem same1_self (l : List Int) (hl : l.length ≤ 1000) (k : Nat) (hk : l.length < k) : argosyref01_Same.f k l l = some true := by
  unfold argosyref01_Same.f
  rw [if_pos rfl]
  exact same1_loop l hl l.length k 0 (by omega) hk
theorem tells (l : List Eff) (a : Int) (b : Bool) (c : Int) (hl : l.length ≤ 150) (hw : ∀ y ∈ l, (Lit.int .i64 y.f0.f0).wf = true) (k : Nat) (hk : 60000 ≤ k) : argosylaw20_TraceTells.f k l a b c = some true := by
  have hlast : (lastE l).length ≤ l.length := by rw [lastE_len]; exact firsts_le l []
  have hll := left_len l
  have hck : trace_Check.f l = some (likeLoop l []) := rfl
  have hfd : trace_Find.f l a b c = some (idxFrom (keyIs a b c) l 0) := rfl
  unfold argosylaw20_TraceTells.f
  rw [if_neg (by omega)]
  simp only [Option.bind_some, List.nil_append, List.length_nil]
  rw [if_pos (by omega), hck, check_eq l hl k (by omega)]
  simp only [Option.bind_some, if_true]
  rw [again_eq l (by omega), refAgain_eq l hl k (by omega)]
  simp only [Option.bind_some, if_true]
  rw [hfd, find_eq l (by omega) a b c k (by omega)]
  simp only [Option.bind_some, if_true]
  rw [last_eq l (by omega), refLast_eq l hl k (by omega)]
  simp only [Option.bind_some]
  rw [same_self (lastE l) (by omega) k (by omega)]
  simp only [Option.bind_some, if_true]
  rw [left_eq l (by omega) hw, refLeft_eq l hl k hk]
  simp only [Option.bind_some]
  rw [same1_self (F.leftOf l) (by omega) k (by omega)]
  simp only [Option.bind_some, if_true]
  rw [same_self l (by omega) k (by omega)]
  simp only [Option.bind_some, if_true]
  rw [lives_ge k (by omega)]
  rfl
theorem TraceTells : ∀ (x0 : List (S37)) (x1 : S24), (x0.length ≤ maxLen ∧ ∀ y ∈ x0, (((Lit.int .i64 y.f0.f0).wf = true) ∧ (True) ∧ ((Lit.int .i64 y.f0.f2).wf = true)) ∧ (True)) → (((Lit.int .i64 x1.f0).wf = true) ∧ (True) ∧ ((Lit.int .i64 x1.f2).wf = true)) → ∃ k, argosylaw20_TraceTells.f k x0 x1.f0 x1.f1 x1.f2 = some true := by
  intro l x1 hv _
  by_cases hl : (l.length : Int) > 150
  · refine ⟨20, ?_⟩
    unfold argosylaw20_TraceTells.f
    rw [if_pos hl, lives_ge 20 (by decide)]
    rfl
  · exact ⟨60000, tells l x1.f0 x1.f1 x1.f2 (by omega) (fun y hy => (hv.2 y hy).1.1) 60000 (Nat.le_refl _)⟩
end Go.Proofs.Ytphifpibjgeijaa.Pure
