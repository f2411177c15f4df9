import Derived.Test.YtphifpibjgeijaaFx13
namespace Go.Proofs.Ytphifpibjgeijaa.S
open Go.RowKit Go.Proofs.Ytphifpibjgeijaa.F Go.Proofs.YtphifpibjgeijaaW.PrintWords Go.Proofs.YtphifpibjgeijaaW.PrintLast

/-! Plain facts of traces. -/
abbrev Eff := S37
abbrev Key := S24
theorem w64_small {x : Int} (h0 : 0 ≤ x) (h1 : x < 9223372036854775808) : wrap64 x = x := by
  unfold wrap64
  omega
theorem ih_any {κ ν : Type} [DecidableEq κ] {k k' : κ} {v : ν} (m : List (κ × ν)) (h : k' ≠ k) : ((m.map (fun x => if x.1 = k then (k, v) else x)).find? (fun x => decide (x.1 = k'))).map (·.2) = (m.find? (fun x => decide (x.1 = k'))).map (·.2) := by
  induction m with
  | nil => rfl
  | cons y m ih =>
    rw [List.map_cons, List.find?_cons, List.find?_cons]
    by_cases hy : y.1 = k
    · rw [if_pos hy]
      have h1 : decide ((k, v).1 = k') = false := decide_eq_false (fun e => h e.symm)
      have h2 : decide (y.1 = k') = false := decide_eq_false (fun e => h (e.symm.trans hy))
      rw [h1, h2]
      exact ih
    · rw [if_neg hy]
      by_cases hk : y.1 = k'
      · rw [decide_eq_true hk]
      · rw [decide_eq_false hk]
        exact ih
theorem look_put_ne {κ ν : Type} [DecidableEq κ] (m : List (κ × ν)) {k k' : κ} (v : ν) (h : k' ≠ k) : mapLook (mapPut m k v) k' = mapLook m k' := by
  unfold mapPut
  split
  · unfold mapLook
    exact ih_any m h
  · unfold mapLook
    rw [List.find?_append]
    cases m.find? (fun x => decide (x.1 = k')) with
    | some x => rfl
    | none =>
      show (Option.or none (List.find? _ [(k, v)])).map _ = none
      rw [List.find?_cons, decide_eq_false (fun e => h e.symm)]
      rfl
/-- The effects of keys that come first (s: the keys that came). -/
def firsts : List Eff → List Key → List Eff
  | [], _ => []
  | x :: l, s => if x.f0 ∈ s then firsts l s else x :: firsts l (s ++ [x.f0])
def keys (l : List Eff) : List Key := l.map (·.f0)
/-- Each key's last effect, in order. -/
def lastE : List Eff → List Eff
  | [] => []
  | x :: l => if x.f0 ∈ keys l then lastE l else x :: lastE l

theorem firsts_mem : ∀ (l : List Eff) (s : List Key) (x : Eff), x ∈ firsts l s → x ∈ l ∧ x.f0 ∉ s
  | [], s, x, h => by cases h
  | y :: l, s, x, h => by
    unfold firsts at h
    split at h
    · have := firsts_mem l s x h
      exact ⟨List.mem_cons_of_mem _ this.1, this.2⟩
    · rename_i hy
      rcases List.mem_cons.1 h with rfl | h
      · exact ⟨List.mem_cons_self .., hy⟩
      · have := firsts_mem l _ x h
        exact ⟨List.mem_cons_of_mem _ this.1, fun hs => this.2 (List.mem_append_left _ hs)⟩
theorem firsts_key : ∀ (l : List Eff) (s : List Key) (k : Key), k ∈ keys l → k ∉ s → k ∈ keys (firsts l s)
  | [], s, k, h, _ => by cases h
  | y :: l, s, k, h, hs => by
    unfold firsts
    split
    · rename_i hy
      rcases List.mem_cons.1 h with rfl | h
      · exact absurd hy hs
      · exact firsts_key l s k h hs
    · rcases List.mem_cons.1 h with rfl | h
      · exact List.mem_cons_self ..
      · by_cases hk : k = y.f0
        · subst hk; exact List.mem_cons_self ..
        · exact List.mem_cons_of_mem _ (firsts_key l _ k h (fun hm => by
            rcases List.mem_append.1 hm with hm | hm
            · exact hs hm
            · exact hk (List.mem_singleton.1 hm)))
theorem firsts_nodup : ∀ (l : List Eff) (s : List Key), (keys (firsts l s)).Nodup
  | [], s => List.nodup_nil
  | y :: l, s => by
    unfold firsts
    split
    · exact firsts_nodup l s
    · refine List.nodup_cons.2 ⟨fun h => ?_, firsts_nodup l _⟩
      obtain ⟨z, hz, he⟩ := List.mem_map.1 h
      exact (firsts_mem l _ z hz).2 (by rw [he]; exact List.mem_append_right _ (List.mem_singleton.2 rfl))
theorem firsts_congr : ∀ (l : List Eff) (s t : List Key), (∀ k, k ∈ s ↔ k ∈ t) → firsts l s = firsts l t
  | [], s, t, h => rfl
  | y :: l, s, t, h => by
    unfold firsts
    by_cases hy : y.f0 ∈ s
    · rw [if_pos hy, if_pos ((h _).1 hy)]; exact firsts_congr l s t h
    · rw [if_neg hy, if_neg (fun h' => hy ((h _).2 h'))]
      rw [firsts_congr l _ (t ++ [y.f0]) (fun k => by rw [List.mem_append, List.mem_append, h k])]
theorem firsts_snoc : ∀ (l : List Eff) (s : List Key) (x : Eff), firsts (l ++ [x]) s = firsts l s ++ (if x.f0 ∈ s ∨ x.f0 ∈ keys l then [] else [x])
  | [], s, x => by
    show (if x.f0 ∈ s then firsts [] s else x :: firsts [] (s ++ [x.f0])) = _
    by_cases h : x.f0 ∈ s
    · rw [if_pos h, if_pos (.inl h)]; rfl
    · rw [if_neg h, if_neg (fun h' => h'.elim h (fun h'' => by cases h''))]; rfl
  | y :: l, s, x => by
    show (if y.f0 ∈ s then firsts (l ++ [x]) s else y :: firsts (l ++ [x]) (s ++ [y.f0])) = (if y.f0 ∈ s then firsts l s else y :: firsts l (s ++ [y.f0])) ++ _
    by_cases hy : y.f0 ∈ s
    · rw [if_pos hy, if_pos hy, firsts_snoc l s x]
      by_cases hx : x.f0 ∈ s ∨ x.f0 ∈ keys l
      · rw [if_pos hx, if_pos (show x.f0 ∈ s ∨ x.f0 ∈ keys (y :: l) from hx.imp_right (List.mem_cons_of_mem _))]
      · rw [if_neg hx, if_neg (fun (h : x.f0 ∈ s ∨ x.f0 ∈ keys (y :: l)) => hx (h.elim .inl (fun h => by
          rcases List.mem_cons.1 h with h | h
          · exact .inl (h ▸ hy)
          · exact .inr h)))]
    · rw [if_neg hy, if_neg hy, firsts_snoc l _ x]
      by_cases hx : x.f0 ∈ s ++ [y.f0] ∨ x.f0 ∈ keys l
      · rw [if_pos hx, if_pos]
        · rfl
        · rcases hx with h | h
          · rcases List.mem_append.1 h with h | h
            · exact .inl h
            · exact .inr (by rw [List.mem_singleton.1 h]; exact List.mem_cons_self ..)
          · exact .inr (List.mem_cons_of_mem _ h)
      · rw [if_neg hx, if_neg]
        · rfl
        · rintro (h | h)
          · exact hx (.inl (List.mem_append_left _ h))
          · rcases List.mem_cons.1 h with h | h
            · exact hx (.inl (List.mem_append_right _ (List.mem_singleton.2 h)))
            · exact hx (.inr h)
theorem lastE_eq : ∀ l : List Eff, (firsts l.reverse []).reverse = lastE l
  | [] => rfl
  | x :: l => by
    rw [List.reverse_cons, firsts_snoc, List.reverse_append, lastE_eq l]
    have hk : (x.f0 ∈ ([] : List Key) ∨ x.f0 ∈ keys l.reverse) ↔ x.f0 ∈ keys l := by
      unfold keys
      rw [List.map_reverse, List.mem_reverse]
      constructor
      · rintro (h | h)
        · cases h
        · exact h
      · exact .inr
    show _ = if x.f0 ∈ keys l then lastE l else x :: lastE l
    by_cases h : x.f0 ∈ keys l
    · rw [if_pos (hk.2 h), if_pos h]; rfl
    · rw [if_neg (fun h' => h (hk.1 h')), if_neg h]; rfl
theorem lastE_sub : ∀ (l : List Eff) (x : Eff), x ∈ lastE l → x ∈ l
  | [], x, h => h
  | y :: l, x, h => by
    unfold lastE at h
    split at h
    · exact List.mem_cons_of_mem _ (lastE_sub l x h)
    · rcases List.mem_cons.1 h with rfl | h
      · exact List.mem_cons_self ..
      · exact List.mem_cons_of_mem _ (lastE_sub l x h)
theorem lastE_key : ∀ (l : List Eff) (k : Key), k ∈ keys l → k ∈ keys (lastE l)
  | [], k, h => h
  | y :: l, k, h => by
    unfold lastE
    split
    · rename_i hy
      rcases List.mem_cons.1 h with rfl | h
      · exact lastE_key l _ hy
      · exact lastE_key l k h
    · rcases List.mem_cons.1 h with rfl | h
      · exact List.mem_cons_self ..
      · exact List.mem_cons_of_mem _ (lastE_key l k h)
theorem key_sub {l : List Eff} {k : Key} (h : k ∈ keys (lastE l)) : k ∈ keys l := by
  obtain ⟨z, hz, he⟩ := List.mem_map.1 h
  exact List.mem_map.2 ⟨z, lastE_sub l z hz, he⟩
theorem lastE_nodup : ∀ l : List Eff, (keys (lastE l)).Nodup
  | [] => List.nodup_nil
  | y :: l => by
    unfold lastE
    split
    · exact lastE_nodup l
    · rename_i hy
      exact List.nodup_cons.2 ⟨fun h => hy (key_sub h), lastE_nodup l⟩
theorem lastE_self : ∀ l : List Eff, (keys l).Nodup → lastE l = l
  | [], _ => rfl
  | y :: l, h => by
    obtain ⟨h1, h2⟩ := List.nodup_cons.1 h
    unfold lastE
    rw [if_neg (show ¬ y.f0 ∈ keys l from h1), lastE_self l h2]
theorem nodup_len {α : Type} [DecidableEq α] : ∀ (a b : List α), a.Nodup → (∀ x ∈ a, x ∈ b) → a.length ≤ b.length
  | [], b, _, _ => Nat.zero_le _
  | x :: a, b, h, hs => by
    obtain ⟨h1, h2⟩ := List.nodup_cons.1 h
    have hx := hs x (List.mem_cons_self ..)
    have := nodup_len a (b.erase x) h2 (fun y hy => (List.mem_erase_of_ne (fun (e : y = x) => h1 (e ▸ hy))).2 (hs y (List.mem_cons_of_mem _ hy)))
    rw [List.length_erase_of_mem hx] at this
    have hp : 0 < b.length := List.length_pos_of_mem hx
    simp only [List.length_cons]
    omega
theorem lastE_len (l : List Eff) : (lastE l).length = (firsts l []).length := by
  have e1 : (lastE l).length = (keys (lastE l)).length := by unfold keys; rw [List.length_map]
  have e2 : (firsts l []).length = (keys (firsts l [])).length := by unfold keys; rw [List.length_map]
  rw [e1, e2]
  apply Nat.le_antisymm
  · exact nodup_len _ _ (lastE_nodup l) (fun k hk => firsts_key l [] k (key_sub hk) (by simp))
  · refine nodup_len _ _ (firsts_nodup l []) (fun k hk => lastE_key l k ?_)
    obtain ⟨z, hz, he⟩ := List.mem_map.1 hk
    exact List.mem_map.2 ⟨z, (firsts_mem l [] z hz).1, he⟩

theorem count_len : ∀ (l : List Eff) (m : List (Key × Int)), (countKeys l m).length = m.length + (firsts l (keysOf m)).length
  | [], m => rfl
  | x :: l, m => by
    show (countKeys l _).length = _
    rw [count_len l]
    show _ = m.length + (if x.f0 ∈ keysOf m then firsts l (keysOf m) else x :: firsts l (keysOf m ++ [x.f0])).length
    have hk : ∀ v : Int, (mapPut m x.f0 v).length = (keysOf (mapPut m x.f0 v)).length := fun v => by unfold keysOf; rw [List.length_map]
    rw [hk, keysOf_put]
    by_cases h : (mapLook m x.f0).isSome
    · have hin : x.f0 ∈ keysOf m := by
        by_cases hn : x.f0 ∈ keysOf m
        · exact hn
        · rw [look_none.2 hn] at h; cases h
      rw [if_pos h, if_pos hin]
      have : (keysOf m).length = m.length := by unfold keysOf; rw [List.length_map]
      omega
    · have hin : x.f0 ∉ keysOf m := look_none.1 (by simpa using h)
      rw [if_neg h, if_neg hin]
      simp only [List.length_append, List.length_cons, List.length_nil]
      have : (keysOf m).length = m.length := by unfold keysOf; rw [List.length_map]
      omega
theorem lastsRun_eq : ∀ (l : List Eff) (m : List (Key × Int)) (n : Nat), n + l.length ≤ 1000000 → (∀ k v, mapLook m k = some v → 1 ≤ v ∧ v ≤ n) → lastsRun l m = firsts l (keysOf m)
  | [], m, n, _, _ => rfl
  | x :: l, m, n, hn, hm => by
    rw [List.length_cons] at hn
    have hput : ∀ v : Int, 1 ≤ v → v ≤ (n : Int) + 1 → ∀ k u, mapLook (mapPut m x.f0 v) k = some u → 1 ≤ u ∧ u ≤ ((n + 1 : Nat) : Int) := by
      intro v h1 h2 k u hu
      by_cases hk : k = x.f0
      · rw [hk, put_look] at hu
        cases hu
        exact ⟨h1, by omega⟩
      · rw [look_put_ne m v hk] at hu
        have := hm k u hu
        exact ⟨this.1, by omega⟩
    unfold lastsRun firsts
    cases hl : mapLook m x.f0 with
    | none =>
      have hin : x.f0 ∉ keysOf m := look_none.1 hl
      have hw : wrap64 (((none : Option Int).getD 0) + 1) = 1 := w64_small (x := 0 + 1) (by omega) (by omega)
      rw [hw, if_pos rfl, if_neg hin]
      rw [lastsRun_eq l _ (n + 1) (by omega) (hput 1 (by omega) (by omega)), keysOf_put, hl]
      rfl
    | some v =>
      have hin : x.f0 ∈ keysOf m := by
        by_cases hn : x.f0 ∈ keysOf m
        · exact hn
        · rw [look_none.2 hn] at hl; cases hl
      have hv := hm _ _ hl
      have hw : wrap64 (((some v : Option Int).getD 0) + 1) = v + 1 := w64_small (by show 0 ≤ v + 1; omega) (by show v + 1 < _; omega)
      rw [hw, if_neg (by omega), if_pos hin]
      rw [lastsRun_eq l _ (n + 1) (by omega) (hput (v + 1) (by omega) (by omega)), keysOf_put, hl]
      rfl
theorem lastsOf_eq (l : List Eff) (h : l.length ≤ 1000000) : (lastsOf l).reverse = lastE l := by
  unfold lastsOf
  rw [lastsRun_eq l.reverse [] 0 (by rw [List.length_reverse]; omega) (fun k v h => by cases h)]
  exact lastE_eq l
end Go.Proofs.Ytphifpibjgeijaa.S
