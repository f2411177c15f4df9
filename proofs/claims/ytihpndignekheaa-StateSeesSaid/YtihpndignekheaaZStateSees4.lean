-- Texts of this seat's, joined.
import Derived.Test.YtihpndignekheaaProg
import Derived.Below
import Derived.Deep.Draws
import Derived.Deep.AppendLies
import Derived.Maps.AppendAt
import Derived.OwnWalk
import Derived.Laws.BytesArg
import Derived.Laws.MakeOwn
import Derived.Laws.OwnMore
import Derived.Deep.OwnRows
import Derived.Tactics
import Derived.Lib.ConvBytes
import Derived.Laws.Slices
import Derived.WalkKit
import Derived.KernelRfl
import Derived.RowKit3
import Derived.Deep.LoopGhost
import Derived.Deep.QuietTactic
import Derived.BigQuiet
import Derived.WideLaws
import Derived.Deep.DeepCutAuto
import Derived.Deep.CutBlock
import Derived.Deep.RegionHeld3
import Derived.Laws.Rows
import Derived.Lib.AppendStr
import Derived.ArgAppend
import Derived.Laws.IdiomCopy
import Derived.OrdersHeld
import Derived.Laws.BitsLemmas
import Derived.RowKit
import Derived.Test.YtihpndignekheaaZStateSees1
import Derived.Laws.StructEq
import Derived.Test.YtihpndignekheaaZStateSees3
import Derived.Test.YtihpndignekheaaZStateSees2
import Derived.Defers
import Derived.Recover
import Derived.WalkSmall
import Derived.Shelf.Abstract
import Derived.Lib.SliceRun
import Derived.BigRegion
import Derived.Deep.RegionHeld2
section
namespace Go.Proofs.Ytihpndignekheaa.F
open Go.RowKit Go.Proofs.YtihpndignekheaaW.PrintWords Go.Proofs.YtihpndignekheaaW.PrintLast Go.Proofs.YtihpndignekheaaW.PrintMore
set_option linter.unusedVariables false
set_option linter.unusedSimpArgs false
section maps
variable {κ ν : Type}
def mapLook [DecidableEq κ] (m : List (κ × ν)) (k : κ) : Option ν := (m.find? (fun x => decide (x.1 = k))).map (·.2)
def mapPut [DecidableEq κ] (m : List (κ × ν)) (k : κ) (v : ν) : List (κ × ν) :=
 if (mapLook m k).isSome then m.map (fun x => if x.1 = k then (k, v) else x) else m ++ [(k, v)]
def keysOf (m : List (κ × ν)) : List κ := m.map (·.1)
structure MapIs (encK : κ → Value) (encV : ν → Value) (w : World) (b : Nat) (m : List (κ × ν)) : Prop where
 nodup : (keysOf m).Nodup
 at_ : ∃ es : Array MapEntry, w.heap[b]? = some (.map es m.length) ∧ es.toList = (List.range m.length).zipWith (fun i (x : κ × ν) => ({ key := encK x.1, val := encV x.2, born := i } : MapEntry)) m
theorem MapIs.of_block {encK : κ → Value} {encV : ν → Value} {w w' : World} {b : Nat} {m : List (κ × ν)} (h : MapIs encK encV w b m) (hb : w'.heap[b]? = w.heap[b]?) : MapIs encK encV w' b m := by
 obtain ⟨hn, es, h1, h2⟩ := h
 exact ⟨hn, es, hb.trans h1, h2⟩
theorem MapIs.lt {encK : κ → Value} {encV : ν → Value} {w : World} {b : Nat} {m : List (κ × ν)} (h : MapIs encK encV w b m) : b < w.heap.size := by
 obtain ⟨_, es, h1, _⟩ := h
 exact blk_lt h1
theorem MapIs.alloc {encK : κ → Value} {encV : ν → Value} {w : World} {b : Nat} {m : List (κ × ν)} (h : MapIs encK encV w b m) (o : Obj) : MapIs encK encV (w.alloc o) b m := h.of_block (Below.heap_alloc w o b h.lt)
theorem MapIs.drew {encK : κ → Value} {encV : ν → Value} {w : World} {b : Nat} {m : List (κ × ν)} (h : MapIs encK encV w b m) : MapIs encK encV w.drew b m := h.of_block rfl
theorem MapIs.below {encK : κ → Value} {encV : ν → Value} {w w' : World} {b : Nat} {m : List (κ × ν)} (h : MapIs encK encV w b m) (hb : Below w.heap.size w w') : MapIs encK encV w' b m := h.of_block (hb.block b h.lt)
theorem MapIs.grown {encK : κ → Value} {encV : ν → Value} {w w' : World} {b : Nat} {m : List (κ × ν)} {row : Option Nat} (h : MapIs encK encV w b m) (hg : w.grownBy w' row) (hr : some b ≠ row) : MapIs encK encV w' b m := h.of_block (hg.block b h.lt hr)
theorem MapIs.setCell {encK : κ → Value} {encV : ν → Value} {w : World} {b : Nat} {m : List (κ × ν)} {p : Addr} (h : MapIs encK encV w b m) (hp : b ≠ p.block) (u : Value) : MapIs encK encV (w.setCell p u) b m := h.of_block (Below.heap_setCell w p u b hp)
theorem MapIs.made (encK : κ → Value) (encV : ν → Value) (w : World) : MapIs encK encV (w.alloc (.map #[] 0)) w.heap.size ([] : List (κ × ν)) :=
 ⟨List.nodup_nil, #[], heap_alloc_new w _, rfl⟩
structure KeyOk [DecidableEq κ] (P : Program) (K : TypeId) (encK : κ → Value) : Prop where
 check : ∀ (empty : Bool) (k : κ) (w : World), (Instr.checkKey empty 10000 K (encK k)).run P w = .ok () w
 find : ∀ (k : κ) (es : List MapEntry) (ks : List κ) (w : World), es.map (·.key) = ks.map encK →
  (Instr.findKey K (encK k) es).run P w = .ok ((ks.findIdx? (fun x => decide (x = k))).bind fun i => es[i]?.map fun e => (i, e.val)) w
 same : ∀ k, Instr.sameBits 10000 (encK k) (encK k) = true
theorem entries_keys {encK : κ → Value} {encV : ν → Value} (m : List (κ × ν)) (j : Nat) : ((List.range' j m.length).zipWith (fun i (x : κ × ν) => ({ key := encK x.1, val := encV x.2, born := i } : MapEntry)) m).map (·.key) = (keysOf m).map encK := by
 induction m generalizing j with
 | nil => rfl
 | cons x m ih => simp only [List.length_cons, List.range'_succ, List.zipWith_cons_cons, List.map_cons, keysOf]; rw [ih (j + 1)]; rfl
theorem entries_at {encK : κ → Value} {encV : ν → Value} (m : List (κ × ν)) (i : Nat) : ((List.range m.length).zipWith (fun i (x : κ × ν) => ({ key := encK x.1, val := encV x.2, born := i } : MapEntry)) m)[i]? = (m[i]?).map fun x => { key := encK x.1, val := encV x.2, born := i } := by
 rw [List.getElem?_zipWith]
 by_cases h : i < m.length
 ·rw [List.getElem?_range h, List.getElem?_eq_getElem h]; rfl
 ·rw [List.getElem?_eq_none (by simp; omega), List.getElem?_eq_none (by omega)]; rfl
theorem look_idx [DecidableEq κ] (m : List (κ × ν)) (k : κ) : mapLook m k = ((keysOf m).findIdx? (fun x => decide (x = k))).bind fun i => m[i]?.map (·.2) := by
 induction m with
 | nil => rfl
 | cons x m ih =>
  unfold mapLook keysOf at *
  rw [List.find?_cons, List.map_cons, List.findIdx?_cons]
  by_cases h : x.1 = k
  ·simp [h]
  ·simp only [h, decide_false, Bool.false_eq_true, if_false]
   rw [ih]
   cases (List.map (·.1) m).findIdx? (fun x => decide (x = k)) <;> simp
section
variable {P : Program} {T K E : TypeId} {encK : κ → Value} {encV : ν → Value}
theorem map_found [DecidableEq κ] (kok : KeyOk P K encK) {w' : World} {m : List (κ × ν)} {es : Array MapEntry} (h : es.toList = (List.range m.length).zipWith (fun i (x : κ × ν) => ({ key := encK x.1, val := encV x.2, born := i } : MapEntry)) m) (k : κ) :
  (Instr.findKey K (encK k) es.toList).run P w' = .ok (((keysOf m).findIdx? (fun x => decide (x = k))).bind fun i => m[i]?.map fun x => (i, encV x.2)) w' := by
 have hk : es.toList.map (·.key) = (keysOf m).map encK := by rw [h, List.range_eq_range']; exact entries_keys m 0
 rw [kok.find k es.toList (keysOf m) w' hk]
 congr 1
 cases hx : (keysOf m).findIdx? (fun x => decide (x = k)) with
 | none => rfl
 | some i =>
  simp only [Option.bind_some]
  rw [h, entries_at, Option.map_map]; rfl
theorem run_map_lookup [DecidableEq κ] (kok : KeyOk P K encK) (ht : P.underlying T = some (.map K E)) {z : ν} (hz : ∀ w, (zeroValue E).run P w = .ok (encV z) w) {w : World} {b : Nat} {m : List (κ × ν)} (hm : MapIs encK encV w b m) (k : κ) (ok : Bool) :
  (Instr.lookup T (.map (some b)) (encK k) ok).run P w = .ok (if ok then .tuple #[encV ((mapLook m k).getD z), .bool (mapLook m k).isSome] else encV ((mapLook m k).getD z)) w := by
 obtain ⟨_, es, h1, h2⟩ := hm
 have hf := map_found (w' := w) kok h2 k
 have hl := look_idx m k
 have hg : (getObj b).run P w = .ok (.map es m.length) w := by unfold getObj; simp [Sem.run, h1]
 unfold Instr.lookup
 simp only [Sem.run_bind, run_underlying ht, hg, Result.andThen_ok, Sem.run_pure, kok.check, hf]
 cases hx : (keysOf m).findIdx? (fun x => decide (x = k)) with
 | none =>
  rw [hx] at hl
  simp only [Option.bind_none] at hl ⊢
  rw [hl]
  cases ok <;> simp [Sem.run_bind, hz, Result.andThen_ok, Sem.run_pure]
 | some i =>
  rw [hx] at hl
  simp only [Option.bind_some] at hl ⊢
  cases hy : m[i]? with
  | none =>
   rw [hy] at hl
   simp only [Option.map_none] at hl ⊢
   rw [hl]
   cases ok <;> simp [Sem.run_bind, hz, Result.andThen_ok, Sem.run_pure]
  | some x =>
   rw [hy] at hl
   simp only [Option.map_some] at hl ⊢
   rw [hl]
   cases ok <;> simp [Sem.run_bind, Result.andThen_ok, Sem.run_pure]
def entriesOf (encK : κ → Value) (encV : ν → Value) (m : List (κ × ν)) : List MapEntry := (List.range m.length).zipWith (fun i (x : κ × ν) => ({ key := encK x.1, val := encV x.2, born := i } : MapEntry)) m
theorem entriesOf_length (m : List (κ × ν)) : (entriesOf encK encV m).length = m.length := by simp [entriesOf]
theorem entriesOf_get (m : List (κ × ν)) (i : Nat) : (entriesOf encK encV m)[i]? = (m[i]?).map fun x => { key := encK x.1, val := encV x.2, born := i } := entries_at m i
theorem entriesOf_snoc (m : List (κ × ν)) (x : κ × ν) : entriesOf encK encV (m ++ [x]) = entriesOf encK encV m ++ [{ key := encK x.1, val := encV x.2, born := m.length }] := by
 apply List.ext_getElem?
 intro i
 rw [entriesOf_get]
 rcases Nat.lt_trichotomy i m.length with h | h | h
 ·rw [List.getElem?_append_left h, List.getElem?_append_left (by rw [entriesOf_length]; exact h), entriesOf_get]
 ·subst h
  rw [List.getElem?_append_right (Nat.le_refl _), List.getElem?_append_right (by rw [entriesOf_length]; exact Nat.le_refl _), entriesOf_length, Nat.sub_self]; rfl
 ·rw [List.getElem?_eq_none (by simp; omega), List.getElem?_eq_none (by simp [entriesOf_length]; omega)]; rfl
theorem MapIs.entries {w : World} {b : Nat} {m : List (κ × ν)} (h : MapIs encK encV w b m) : ∃ es : Array MapEntry, w.heap[b]? = some (.map es m.length) ∧ es.toList = entriesOf encK encV m := h.at_
theorem MapIs.put_ {w : World} {b : Nat} {m m' : List (κ × ν)} (h : MapIs encK encV w b m) (hn : (keysOf m').Nodup) {es' : Array MapEntry} (he : es'.toList = entriesOf encK encV m') {c : Nat} (hc : c = m'.length) :
  MapIs encK encV { w with heap := w.heap.setIfInBounds b (.map es' c) } b m' ∧ w.grownBy { w with heap := w.heap.setIfInBounds b (.map es' c) } (some b) := by
 have hlt := h.lt
 subst hc
 refine ⟨⟨hn, es', by simp [hlt], he⟩, rfl, rfl, rfl, by simp, fun i hi hne => ?_⟩
 have : b ≠ i := fun e => hne (by rw [e])
 simp [Array.getElem?_setIfInBounds_ne this]
theorem keysOf_put [DecidableEq κ] (m : List (κ × ν)) (k : κ) (v : ν) : keysOf (mapPut m k v) = if (mapLook m k).isSome then keysOf m else keysOf m ++ [k] := by
 unfold mapPut keysOf
 by_cases h : (mapLook m k).isSome = true
 ·rw [if_pos h, if_pos h, List.map_map]
  apply List.map_congr_left
  intro x hx
  simp only [Function.comp]
  by_cases e : x.1 = k
  ·rw [if_pos e]; exact e.symm
  ·rw [if_neg e]
 ·rw [if_neg h, if_neg h]; simp
theorem look_none [DecidableEq κ] {m : List (κ × ν)} {k : κ} : mapLook m k = none ↔ k ∉ keysOf m := by
 unfold mapLook keysOf
 rw [Option.map_eq_none_iff, List.find?_eq_none]
 constructor
 ·intro h hk
  obtain ⟨x, hx, rfl⟩ := List.mem_map.1 hk
  exact absurd (decide_eq_true rfl) (h x hx)
 ·intro h x hx hd
  exact h (List.mem_map.2 ⟨x, hx, of_decide_eq_true hd⟩)
theorem nodup_put [DecidableEq κ] {m : List (κ × ν)} (h : (keysOf m).Nodup) (k : κ) (v : ν) : (keysOf (mapPut m k v)).Nodup := by
 rw [keysOf_put]
 split
 ·exact h
 ·rename_i hs
  have hk : k ∉ keysOf m := look_none.1 (by cases hx : mapLook m k with | none => rfl | some y => rw [hx] at hs; exact absurd rfl hs)
  rw [List.nodup_append]
  exact ⟨h, List.nodup_cons.2 ⟨List.not_mem_nil, List.nodup_nil⟩, fun a ha b hb => by rw [List.mem_singleton] at hb; subst hb; rintro rfl; exact hk ha⟩
theorem idx_spec [DecidableEq κ] {m : List (κ × ν)} {k : κ} {i : Nat} (h : (keysOf m).findIdx? (fun x => decide (x = k)) = some i) : ∃ v, m[i]? = some (k, v) ∧ mapLook m k = some v := by
 have hl := look_idx m k
 rw [h] at hl
 rw [List.findIdx?_eq_some_iff_getElem] at h
 obtain ⟨hlt, hd, _⟩ := h
 have hlt' : i < m.length := by unfold keysOf at hlt; rw [List.length_map] at hlt; exact hlt
 have hk : (m[i]'hlt').1 = k := by
  have := of_decide_eq_true hd
  simpa [keysOf] using this
 refine ⟨(m[i]'hlt').2, ?_, ?_⟩
 ·rw [List.getElem?_eq_getElem hlt', ← hk]
 ·rw [hl, Option.bind_some, List.getElem?_eq_getElem hlt']; rfl
theorem put_found [DecidableEq κ] {m : List (κ × ν)} (hn : (keysOf m).Nodup) {k : κ} {i : Nat} (h : (keysOf m).findIdx? (fun x => decide (x = k)) = some i) (v : ν) : mapPut m k v = m.set i (k, v) := by
 obtain ⟨v0, hi, hl⟩ := idx_spec h
 unfold mapPut
 rw [hl, if_pos (show (some v0).isSome = true from rfl)]
 apply List.ext_getElem?
 intro j
 rw [List.getElem?_map, List.getElem?_set]
 have hlt : i < m.length := (List.getElem?_eq_some_iff.1 hi).1
 by_cases hj : i = j
 ·subst hj
  rw [if_pos rfl, if_pos hlt, hi]; simp
 ·rw [if_neg hj]
  cases hx : m[j]? with
  | none => rfl
  | some x =>
   simp only [Option.map_some]
   have hne : ¬ x.1 = k := by
    intro e
    obtain ⟨hjl, hxe⟩ := List.getElem?_eq_some_iff.1 hx
    obtain ⟨_, hie⟩ := List.getElem?_eq_some_iff.1 hi
    have h1 : (keysOf m)[j]'(by unfold keysOf; simpa using hjl) = (keysOf m)[i]'(by unfold keysOf; simpa using hlt) := by
     unfold keysOf
     rw [List.getElem_map, List.getElem_map, hxe, hie, e]
    exact hj ((List.getElem_inj hn).1 h1).symm
   rw [if_neg hne]
theorem put_new [DecidableEq κ] {m : List (κ × ν)} {k : κ} (h : (keysOf m).findIdx? (fun x => decide (x = k)) = none) (v : ν) : mapPut m k v = m ++ [(k, v)] ∧ mapLook m k = none := by
 have hl := look_idx m k
 rw [h] at hl
 unfold mapPut
 rw [hl]
 exact ⟨rfl, rfl⟩
theorem entriesOf_set (m : List (κ × ν)) (i : Nat) (k : κ) (v : ν) (es : Array MapEntry) (he : es.toList = entriesOf encK encV m) : (es.modify i fun e => { e with key := encK k, val := encV v }).toList = entriesOf encK encV (m.set i (k, v)) := by
 apply List.ext_getElem?
 intro j
 rw [Array.getElem?_toList, Array.getElem?_modify, entriesOf_get, List.getElem?_set, ← Array.getElem?_toList, he, entriesOf_get]
 by_cases hj : i = j
 ·subst hj
  rw [if_pos rfl, if_pos rfl]
  by_cases hlt : i < m.length
  ·rw [if_pos hlt, List.getElem?_eq_getElem hlt]; rfl
  ·rw [if_neg hlt, List.getElem?_eq_none (by omega)]; rfl
 ·rw [if_neg hj, if_neg hj]
theorem run_getObj {w : World} {b : Nat} {es : Array MapEntry} {c : Nat} (h : w.heap[b]? = some (.map es c)) : (getObj b).run P w = .ok (.map es c) w := by unfold getObj; simp [Sem.run, h]
theorem run_setObj {w : World} {b : Nat} {es : Array MapEntry} {c : Nat} (h : w.heap[b]? = some (.map es c)) (o : Obj) : (setObj b o).run P w = .ok () { w with heap := w.heap.setIfInBounds b o } := by unfold setObj; simp [Sem.run, h]
theorem run_map_update [DecidableEq κ] (kok : KeyOk P K encK) (ht : P.underlying T = some (.map K E)) {w : World} {b : Nat} {m : List (κ × ν)} (hm : MapIs encK encV w b m) (k : κ) (v : ν) :
  ∃ w', (Instr.mapUpdate T (.map (some b)) (encK k) (encV v)).run P w = .ok () w' ∧ MapIs encK encV w' b (mapPut m k v) ∧ w.grownBy w' (some b) := by
 obtain ⟨es, h1, h2⟩ := hm.entries
 have hf := map_found (w' := w) kok h2 k
 have hsz : es.size = m.length := by rw [← Array.length_toList, h2, entriesOf_length]
 cases hx : (keysOf m).findIdx? (fun x => decide (x = k)) with
 | none =>
  obtain ⟨hp, _⟩ := put_new hx v
  refine ⟨{ w with heap := w.heap.setIfInBounds b (.map (es.push { key := encK k, val := encV v, born := m.length }) (m.length + 1)) }, ?_, hm.put_ (nodup_put hm.nodup k v) ?_ (by rw [hp]; simp)⟩
  ·rw [hx] at hf
   unfold Instr.mapUpdate
   simp only [Sem.run_bind, run_underlying ht, run_getObj h1, Result.andThen_ok, kok.check, hf, Option.bind_none, run_setObj h1]
  ·rw [hp, entriesOf_snoc, Array.toList_push, h2]
 | some i =>
  obtain ⟨v0, hi, hl⟩ := idx_spec hx
  have hp := put_found hm.nodup hx v
  refine ⟨{ w with heap := w.heap.setIfInBounds b (.map (es.modify i fun e => { e with key := encK k, val := encV v }) m.length) }, ?_, hm.put_ (nodup_put hm.nodup k v) ?_ (by rw [hp, List.length_set])⟩
  ·rw [hx] at hf
   have hes : es[i]? = some { key := encK k, val := encV v0, born := i } := by rw [← Array.getElem?_toList, h2, entriesOf_get, hi]; rfl
   unfold Instr.mapUpdate
   simp only [Sem.run_bind, run_underlying ht, run_getObj h1, Result.andThen_ok, kok.check, hf, Option.bind_some, hi, Option.map_some, hes, Option.getD_some, Instr.keyThatStays, kok.same, if_true, Sem.run_pure, run_setObj h1]
  ·rw [hp]; exact entriesOf_set m i k v es h2
end
theorem put_look [DecidableEq κ] (m : List (κ × ν)) (k : κ) (u : ν) : mapLook (mapPut m k u) k = some u := by
 unfold mapPut
 by_cases h : (mapLook m k).isSome = true
 ·rw [if_pos h]
  unfold mapLook at *
  rw [List.find?_map]
  cases hx : m.find? (fun x => decide (x.1 = k)) with
  | none => rw [hx] at h; cases h
  | some y =>
   have : (fun x : κ × ν => decide ((if x.1 = k then (k, u) else x).1 = k)) = (fun x => decide (x.1 = k)) := by
    funext x
    by_cases e : x.1 = k <;> simp [e]
   have h2 : List.find? ((fun x : κ × ν => decide (x.1 = k)) ∘ fun x => if x.1 = k then (k, u) else x) m = some y := by
    rw [← hx]; exact congrArg (fun f => List.find? f m) this
   rw [h2]
   have hy : y.1 = k := of_decide_eq_true (by have := List.find?_some hx; exact this)
   simp [hy]
 ·rw [if_neg h]
  unfold mapLook at *
  rw [List.find?_append]
  cases hx : m.find? (fun x => decide (x.1 = k)) with
  | none => simp
  | some y => rw [hx] at h; exact absurd rfl h
end maps
end Go.Proofs.Ytihpndignekheaa.F
end

section
namespace Go.Proofs.Ytihpndignekheaa.F
open Go.RowKit Go.Proofs.YtihpndignekheaaW.PrintWords Go.Proofs.YtihpndignekheaaW.PrintLast Go.Proofs.YtihpndignekheaaW.PrintMore
attribute [local go_sem] max2_int min2_int max_two min_two max_three min_three max_four min_four
set_option linter.unusedVariables false
set_option linter.unusedSimpArgs false
attribute [local go_sem] Oper.semAt_some
instance decBytes : DecidableEq ByteArray := fun a b => decidable_of_iff (a.data = b.data) ⟨fun h => by cases a; cases b; simp_all, fun h => by rw [h]⟩
theorem beq_bytes (a b : ByteArray) : (a == b) = decide (a = b) := by
 have h : (a == b) = (a.data == b.data) := rfl
 rw [h, Bool.eq_iff_iff]
 simp only [beq_iff_eq, decide_eq_true_iff]
 exact ⟨fun h => by cases a; cases b; simp_all, fun h => by rw [h]⟩
instance lawBytes : LawfulBEq ByteArray where
 eq_of_beq := fun {a b} h => by rw [beq_bytes] at h; simpa using h
 rfl := fun {a} => by rw [beq_bytes]; simp
theorem find_now_string (k : ByteArray) : ∀ (es : List MapEntry) (ks : List ByteArray) (j : Nat), es.map (·.key) = ks.map (fun n => Value.string n) →
  Instr.findNow .string (.string k) es j = some ((ks.findIdx? (fun x => decide (x = k))).bind fun i => es[i]?.map fun e => (j + i, e.val)) := by
 intro es
 induction es with
 | nil =>
  intro ks j h
  obtain rfl : ks = [] := by cases ks <;> simp_all
  rfl
 | cons e es ih =>
  intro ks j h
  cases ks with
  | nil => simp at h
  | cons k' ks =>
   simp only [List.map_cons, List.cons.injEq] at h
   unfold Instr.findNow
   rw [h.1]
   simp only [Instr.sameNow, if_true]
   by_cases hk : k = k'
   ·subst hk
    simp [List.findIdx?_cons, beq_bytes]
   ·have hk' : ¬ k' = k := fun e => hk e.symm
    have hb : (k == k') = false := by rw [beq_bytes]; simpa using hk
    rw [hb]
    simp only [List.findIdx?_cons, decide_eq_false hk', Bool.false_eq_true, if_false]
    rw [ih ks (j + 1) h.2]
    cases ks.findIdx? (fun x => decide (x = k)) with
    | none => rfl
    | some i => simp [Nat.add_assoc, Nat.add_comm 1 i]
theorem key_ok_string {P : Program} {K : TypeId} (hK : P.underlying K = some .string) : KeyOk P K (fun n : ByteArray => Value.string n) where
 check := fun e k w => by unfold Instr.checkKey; simp [Sem.run_bind, run_underlying hK, Result.andThen_ok, Sem.run_pure]
 find := fun k es ks w h => by
  unfold Instr.findKey
  simp only [Sem.run_bind, run_underlying hK, Result.andThen_ok, find_now_string k es ks 0 h, Sem.run_pure]
  simp
 same := fun k => by simp [Instr.sameBits, beq_bytes]
theorem skip_w {n : Nat} {P : Program} {ops : Array Oper} {Q : Exit → Act → World → Prop} {rest : List Oper} {o : Oper} {a : Act} {w : World} (hw : Region.wanted o (yielded ops a.tmps) = false) (h : wpListIn Fence.wide n P ops Q rest (a.put o.dst undef) w) : wpListIn Fence.wide n P ops Q (o :: rest) a w := by
 unfold wpListIn
 rw [hw]
 simp only [Bool.false_eq_true, if_false]
 exact ⟨fun _ _ => trivial, h⟩
def nameOf (v : Vis) : ByteArray := v.n.f0
def onesOf (s : List Vis) : List (ByteArray × Int) := s.map fun v => (nameOf v, 1)
theorem look_ones (s : List Vis) (k : ByteArray) : mapLook (onesOf s) k = if k ∈ s.map nameOf then some 1 else none := by
 induction s with
 | nil => rfl
 | cons v s ih =>
  unfold mapLook onesOf at *
  by_cases h : nameOf v = k
  ·simp [List.find?_cons, h]
  ·have h' : ¬ k = nameOf v := fun e => h e.symm
   simp only [List.map_cons, List.find?_cons, h, decide_false, List.mem_cons, h', false_or]
   exact ih
theorem put_ones (s : List Vis) (v : Vis) (h : nameOf v ∉ s.map nameOf) : mapPut (onesOf s) (nameOf v) 1 = onesOf (s ++ [v]) := by
 unfold mapPut
 rw [look_ones, if_neg h]
 simp [onesOf]
def undoes (v : Vis) : Bool := v.n.f3 || !decide (v.n.f1.toList = [])
def okV (v : Vis) : Bool := undoes v && (decide (v.d ≤ 6) && soundB v.n.f5)
def okAll (s : List Vis) : Bool := decide ((s.map nameOf).Nodup) && s.all okV
theorem okAll_snoc (s : List Vis) (v : Vis) : okAll (s ++ [v]) = (okAll s && (decide (nameOf v ∉ s.map nameOf) && okV v)) := by
 unfold okAll
 rw [List.map_append, List.all_append, List.map_singleton]
 have : (s.map nameOf ++ [nameOf v]).Nodup ↔ (s.map nameOf).Nodup ∧ nameOf v ∉ s.map nameOf := by
  rw [List.nodup_append]
  simp only [List.nodup_cons, List.not_mem_nil, not_false_eq_true, List.nodup_nil, and_self, true_and, List.mem_singleton]
  constructor
  ·rintro ⟨h1, h2⟩
   exact ⟨h1, fun hin => h2 _ hin _ rfl rfl⟩
  ·rintro ⟨h1, h2⟩
   exact ⟨h1, fun a ha b hb e => h2 (by rw [← hb, ← e]; exact ha)⟩
 rw [decide_eq_decide.2 this, Bool.decide_and]
 simp only [List.all_cons, List.all_nil, Bool.and_true]
 cases decide ((s.map nameOf).Nodup) <;> cases s.all okV <;> cases decide (nameOf v ∉ s.map nameOf) <;> simp
theorem okAll_prefix (s t : List Vis) (h : okAll s = false) : okAll (s ++ t) = false := by
 unfold okAll at *
 rw [List.map_append, List.all_append]
 cases hd : decide ((s.map nameOf).Nodup)
 ·have : ¬ (s.map nameOf ++ t.map nameOf).Nodup := fun hn => by rw [List.nodup_append] at hn; rw [decide_eq_true hn.1] at hd; cases hd
  rw [decide_eq_false this]; rfl
 ·rw [hd] at h
  simp only [Bool.true_and] at h
  rw [h]; simp
def RunP (o : Bool) (w : World) (e : Ending) (w' : World) : Prop := Below w.heap.size w w' ∧ (if o then ∃ v, e = .returned v else ∃ why, e = .panicked [{ v := faultV why, recovered := false }])
def runB (r1 r2 : Int) (l : List S82) : Bool := (r1 == 0 && decide (r2 < 64)) && (soundB l && okAll (visAlts 1 l))
theorem wordOk_ : KeyOk Try.prog 9 (fun n : ByteArray => Value.string n) := key_ok_string Try.underlying9
theorem int_zero_ (w : World) : (zeroValue 3).run Try.prog w = .ok (.int .i64 0) w := by kernel_rfl
theorem below_grown {n mp : Nat} {X Y : World} (h : X.grownBy Y (some mp)) (hn : n ≤ mp) (hm : mp < X.heap.size) : Below n X Y :=
 ⟨h.os, h.tape, h.output, h.size, fun k hk => h.block k (by omega) (fun e => by have := Option.some.inj e; omega)⟩
theorem keep_grown {n mp : Nat} {X Y : World} (h : X.grownBy Y (some mp)) (hn : mp < n) : KeepUp n X Y := ⟨h.size, fun k hk hx => h.block k hx (fun e => by have := Option.some.inj e; omega)⟩
structure RunJ (w : World) (A : Option Addr) (c : Nat) (l : List S82) (mp bp : Nat) (s : List Vis) (X : World) : Prop where
 b : Below w.heap.size w X
 ok : okAll s = true
 box : X.heap[mp + 1]? = some (.cells #[.map (some mp)] 126 (0, 0))
 map : MapIs (fun n : ByteArray => Value.string n) (fun n : Int => Value.int .i64 n) X mp (onesOf s)
 d1 : X.heap[bp]? = some (.cells #[.slice A l.length c] 77 (0, 0))
 d2 : X.heap[bp + 1]? = some (.cells #[.int .i64 1] 3 (0, 0))
 lo : w.heap.size ≤ mp
 hi : mp + 2 ≤ bp
theorem RunJ.below {w : World} {A : Option Addr} {c : Nat} {l : List S82} {mp bp n : Nat} {s : List Vis} {X X' : World} (h : RunJ w A c l mp bp s X) (hb : Below n X X') (hn : bp + 2 ≤ n) : RunJ w A c l mp bp s X' := by
 have h1 := h.lo
 have h2 := h.hi
 exact ⟨h.b.trans (hb.mono (by omega)), h.ok, (hb.block _ (by omega)).trans h.box, h.map.of_block (hb.block _ (by omega)), (hb.block _ (by omega)).trans h.d1, (hb.block _ (by omega)).trans h.d2, h1, h2⟩
def RunX (w : World) (l : List S82) (X : World) (ch : List PanicEntry) : Prop := Below w.heap.size w X ∧ okAll (visAlts 1 l) = false ∧ ∃ why, ch = [{ v := faultV why, recovered := false }]
set_option maxHeartbeats 16000000 in
set_option maxRecDepth 100000 in
theorem run_walk (nm : ByteArray) (A : Option Addr) (c : Nat) (l : List S82) (w : World) (hC : k82.C w A l.length l) (hc : l.length ≤ c) (k : Nat) (r1 r2 : Int) (h1 : syntax_Check.f k nm l = some r1) (h2 : syntax_Count.f k nm l = some r2) :
  Calls Try.prog 61 #[.agg #[.string nm, .slice A l.length c]] w (RunP (runB r1 r2 l) w) := by
 have HC0 := Aside0.mk hC
 have HCA := Aside0.mk (Kd.C_alloc hC (.cells #[.string nm, .slice A l.length c] 86 (0, 0)))
 have HL := Aside0.mk hc
 have HM := Aside0.mk (Kd.C_max hC)
 have H1 := Aside0.mk h1
 have H2 := Aside0.mk h2
 have HG := Aside0.mk (blk_new w (.cells #[.string nm, .slice A l.length c] 86 (0, 0)))
 have HB := Aside0.mk (below_alloc (Below.refl w.heap.size w) (.cells #[.string nm, .slice A l.length c] 86 (0, 0)))
 clear hC hc h1 h2
 refine (callsIn_wide (n := 0)).1 ?_
 refine callsIn_of_wpB Try.func61 rfl ?_
 simp only [Try.ntmps61, List.size_toArray, List.length_cons, List.length_nil, Nat.reduceAdd, Nat.reduceSub, Array.replicate_succ, Array.replicate_zero, List.push_toArray, List.append_toArray, List.nil_append, List.cons_append]
 refine wpB_seq_k (fun K hK => ?_); gi_wp2; refine hK.out _ _ ?_; clear hK K
 have HCB := HCA
 obtain ⟨bo, hbo⟩ : ∃ bo, (r1 == 0 && decide (r2 < 64)) = bo := ⟨_, rfl⟩
 have HBO := Aside0.mk hbo
 have HFA : Aside0 (bo = false → runB r1 r2 l = false) := ⟨fun h => by unfold runB; rw [HBO.out, h]; rfl⟩
 have HTR : Aside0 (bo = true → runB r1 r2 l = (soundB l && okAll (visAlts 1 l))) := ⟨fun h => by unfold runB; rw [HBO.out, h]; rfl⟩
 have HFW : Aside0 (∀ (o : Bool) (why : ByteArray) (W : World), o = false → Below w.heap.size w W → RunP o w (.panicked [{ v := faultV why, recovered := false }]) W) := ⟨fun o why W ho hB => ⟨hB, by rw [ho]; exact ⟨why, rfl⟩⟩⟩
 clear hbo
 by_cases hr1 : r1 = 0
 ·have hx1 : (r1 == 0) = true := by simpa using hr1
  clear hr1
  refine wpB_seq_k (fun K hK => ?_)
  gi_wp2
  refine ⟨trivial, rfl, (callsIn_wide.2 (syntax_Check.calls k nm A c l r1 _ HCA.out HL.out H1.out)).mono ?_⟩
  rintro e w2 ⟨rfl, hb⟩
  have HB2 := Aside0.mk (HB.out.trans (hb.mono (by simp)))
  have HG2 := Aside0.mk (blk_below HG.out hb)
  have HC2 := Aside0.mk (Kd.C_below HCA.out hb)
  have c20 : w2.cell? ⟨w.heap.size, 0, none⟩ = some (.string nm) := (blk_cell HG2.out 0).trans rfl
  have c21 : w2.cell? ⟨w.heap.size, 1, none⟩ = some (.slice A l.length c) := (blk_cell HG2.out 1).trans rfl
  clear hb
  gi_wp2
  refine ⟨trivial, rfl, (callsIn_wide.2 (syntax_Count.calls k nm A c l r2 _ HC2.out HL.out H2.out)).mono ?_⟩
  rintro e w3 ⟨rfl, hb⟩
  (have HB3 := Aside0.mk (HB2.out.trans (hb.mono HB2.out.size)); have HG3 := Aside0.mk (blk_below HG2.out hb); have HC3 := Aside0.mk (Kd.C_below HC2.out hb); have c30 : w3.cell? ⟨w.heap.size, 0, none⟩ = some (.string nm) := (blk_cell HG3.out 0).trans rfl; have c31 : w3.cell? ⟨w.heap.size, 1, none⟩ = some (.slice A l.length c) := (blk_cell HG3.out 1).trans rfl; clear hb)
  by_cases h64 : r2 < 64
  ·have hbt : bo = true := by rw [← HBO.out, hx1]; simpa using h64
   have hd64 : decide (r2 < 64) = true := decide_eq_true h64
   have HT2 := Aside0.mk (HTR.out hbt)
   clear hbt hx1 h64
   gi_wp2
   refine ⟨trivial, rfl, (callsIn_wide.2 (must_yes _ _)).mono ?_⟩
   rintro e w3' ⟨rfl, rfl⟩
   gi_wp2
   refine hK.out _ _ ?_
   clear hK K
   refine wpB_seq_k (fun K hK => ?_)
   gi_wp2
   refine ⟨trivial, rfl, (callsIn_wide.2 (sound_walk A c l _ HC3.out HL.out)).mono ?_⟩
   rintro e w4 ⟨hb, he⟩
   (have HB4 := Aside0.mk (HB3.out.trans (hb.mono HB3.out.size)); have HG4 := Aside0.mk (blk_below HG3.out hb); have HC4 := Aside0.mk (Kd.C_below HC3.out hb); have c40 : w4.cell? ⟨w.heap.size, 0, none⟩ = some (.string nm) := (blk_cell HG4.out 0).trans rfl; have c41 : w4.cell? ⟨w.heap.size, 1, none⟩ = some (.slice A l.length c) := (blk_cell HG4.out 1).trans rfl; clear hb)
   by_cases hs : soundB l = true
   ·rw [if_pos hs] at he
    subst he
    have HT3 : Aside0 (runB r1 r2 l = okAll (visAlts 1 l)) := ⟨by rw [HT2.out, hs]; rfl⟩
    clear hs
    gi_wp2
    refine hK.out _ _ ?_
    clear hK K
    have hmm := @run_makeMap Try.prog
    refine wpB_seq_k (fun K hK => ?_)
    gi_wp2
    refine hK.out _ _ ?_
    clear hK K hmm
    obtain ⟨mp, hmp⟩ : ∃ mp, w4.heap.size = mp := ⟨_, rfl⟩
    have HMP := Aside0.mk hmp
    have hM5 := (MapIs.made (fun n : ByteArray => Value.string n) (fun n : Int => Value.int .i64 n) w4).alloc (.cells #[.map (some w4.heap.size)] 126 (0, 0))
    have hX5 := blk_new (w4.alloc (.map #[] 0)) (.cells #[.map (some w4.heap.size)] 126 (0, 0))
    have hB5 := ((Below.refl w4.heap.size w4).alloc (Nat.le_refl _) (.map #[] 0)).alloc (by simp) (.cells #[.map (some w4.heap.size)] 126 (0, 0))
    have hS5 : ((w4.alloc (.map #[] 0)).alloc (.cells #[.map (some w4.heap.size)] 126 (0, 0))).heap.size = w4.heap.size + 2 := by simp
    rw [World.size_alloc] at hX5
    obtain ⟨w5, hw5⟩ : ∃ w5, (w4.alloc (.map #[] 0)).alloc (.cells #[.map (some w4.heap.size)] 126 (0, 0)) = w5 := ⟨_, rfl⟩
    rw [hw5] at hM5 hX5 hB5 hS5
    rw [hmp] at hM5 hX5 hS5
    have HB5 := Aside0.mk (HB4.out.trans (hB5.mono HB4.out.size))
    have c51 : w5.cell? ⟨w.heap.size, 1, none⟩ = some (.slice A l.length c) := (blk_cell (blk_below HG4.out hB5) 1).trans rfl
    have HM5 := Aside0.mk hM5
    have HX5 := Aside0.mk hX5
    have HS5 := Aside0.mk hS5
    have HLO : Aside0 (w.heap.size ≤ mp) := ⟨by rw [← hmp]; exact HB4.out.size⟩
    show wpB _ _ _ _ _ _
    rw [hw5, hmp]
    clear hM5 hX5 hB5 hS5 hw5 hmp c40 c41 c30 c31 c20 c21 hd64
    refine wpB_seq_k (fun K hK => ?_)
    gi_wp2
    refine ⟨trivial, rfl, (nodes_call A l.length c 1 w5).mono ?_⟩
    rintro e w6 ⟨rfl, hX6⟩
    have HX6 := Aside0.mk hX6
    clear hX6
    gi_wp2
    refine hK.out _ _ ?_
    clear hK K c51
    obtain ⟨bp, hbp⟩ : ∃ bp, w5.heap.size = bp := ⟨_, rfl⟩
    have HS6 : Aside0 (w6.heap.size = bp + 2) := ⟨by rw [HX6.out, ← hbp]; simp⟩
    have hb6 : Below w5.heap.size w5 w6 := by rw [HX6.out]; exact ((Below.refl _ w5).alloc (Nat.le_refl _) _).alloc (by simp) _
    have hc1 : w6.heap[bp]? = some (.cells #[.slice A l.length c] 77 (0, 0)) := by rw [HX6.out, ← hbp]; exact (Below.heap_alloc _ _ _ (by simp)).trans (blk_new w5 _)
    have hc2 : w6.heap[bp + 1]? = some (.cells #[.int .i64 1] 3 (0, 0)) := by rw [HX6.out, ← hbp]; have := blk_new (w5.alloc (.cells #[.slice A l.length c] 77 (0, 0))) (.cells #[.int .i64 1] 3 (0, 0)); rwa [World.size_alloc] at this
    have HJ0 : Aside0 (RunJ w A c l mp bp [] w6) := ⟨⟨HB5.out.trans (hb6.mono HB5.out.size), rfl, blk_below HX5.out hb6, HM5.out.below hb6, hc1, hc2, HLO.out, by have := HS5.out; omega⟩⟩
    rw [hbp]
    clear hb6 hc1 hc2 hbp HX6
    refine wpB_block ?_
    refine wpB_rangeFuncP (gf := 82) (lb := #[.pointer (some ⟨bp, 0, none⟩), .pointer (some ⟨bp + 1, 0, none⟩)]) rfl (enters_of Try.func82 (by kernel_rfl) rfl) ⟨_, Try.func61⟩ (nodes_iter l 1 A c bp (bp + 1) w HC0.out HL.out) ?hsz
     (RunJ w A c l mp bp) (RunX w l) ?h0 ?hD ?hst ?hstp ?hround ?hdone ?hpanic
    case hsz => rintro v args ⟨_, _, _, _, _, _, rfl, _⟩; rfl
    case h0 => exact HJ0.out
    case hD => exact fun s X h => ⟨h.b, h.d1, h.d2⟩
    case hst => exact fun s X X' h hb => h.below hb (Nat.le_of_eq HS6.out.symm)
    case hstp => exact fun X X' ch h hb => ⟨h.1.trans (hb.mono (by have h1 := HJ0.out.lo; have h2 := HJ0.out.hi; have h3 := HS6.out; omega)), h.2⟩
    case hround =>
     rintro ly s v t args X hS hl1 hl2 hJ hv
     obtain ⟨A2', c2', A5', c5', A6', c6', rfl, hvl2, hvC2, hvl5, hvC5⟩ := hv
     have HJ := Aside0.mk hJ
     have HS := Aside0.mk hS
     have HL1 := Aside0.mk hl1
     have HL2 := Aside0.mk hl2
     have HV5 := Aside0.mk hvl5
     have HVC := Aside0.mk hvC5
     clear hS hl1 hl2 hJ hvl2 hvC2 hvl5 hvC5
     gi_wp2
     refine ⟨(Below.refl X.heap.size X).alloc (Nat.le_refl _) _, ?_⟩
     intro X4 hku hbl
     have hl3 : bp + 2 ≤ ly := by have h1 := HS6.out; have h2 := HL1.out; omega
     have hb14 : Below (bp + 2) X X4 := (((Below.refl X.heap.size X).alloc (Nat.le_refl _) _).mono (by have h2 := HL2.out; omega)).trans (hbl.mono hl3)
     have HJ4 := Aside0.mk (HJ.out.below hb14 (Nat.le_refl _))
     have hVB := hku.blk HL2.out (blk_new X (.cells #[.string v.n.f0, .string v.n.f1, .slice A2' v.n.f2.length c2', .bool v.n.f3, .bool v.n.f4, .slice A5' v.n.f5.length c5', .slice A6' v.b.f0.length c6', .int .i64 v.d] 130 (0, 0)))
     have HVB := Aside0.mk hVB
     have HNE : Aside0 (X.heap.size ≠ mp ∧ mp + 1 ≠ mp) := ⟨by have h1 := HJ.out.hi; have h2 := HL1.out; have h3 := HL2.out; omega⟩
     have q0 : X4.cell? ⟨X.heap.size, 0, none⟩ = some (.string v.n.f0) := (blk_cell hVB 0).trans rfl
     have q1 : X4.cell? ⟨X.heap.size, 1, none⟩ = some (.string v.n.f1) := (blk_cell hVB 1).trans rfl
     have q2 : X4.cell? ⟨X.heap.size, 2, none⟩ = some (.slice A2' v.n.f2.length c2') := (blk_cell hVB 2).trans rfl
     have q3 : X4.cell? ⟨X.heap.size, 3, none⟩ = some (.bool v.n.f3) := (blk_cell hVB 3).trans rfl
     have q4 : X4.cell? ⟨X.heap.size, 4, none⟩ = some (.bool v.n.f4) := (blk_cell hVB 4).trans rfl
     have q5 : X4.cell? ⟨X.heap.size, 5, none⟩ = some (.slice A5' v.n.f5.length c5') := (blk_cell hVB 5).trans rfl
     have q6 : X4.cell? ⟨X.heap.size, 6, none⟩ = some (.slice A6' v.b.f0.length c6') := (blk_cell hVB 6).trans rfl
     have q7 : X4.cell? ⟨X.heap.size, 7, none⟩ = some (.int .i64 v.d) := (blk_cell hVB 7).trans rfl
     have cm : X4.cell? ⟨mp + 1, 0, none⟩ = some (.map (some mp)) := (blk_cell HJ4.out.box 0).trans rfl
     have hl1 := run_map_lookup wordOk_ Try.underlying126 int_zero_ HJ4.out.map v.n.f0 false
     rw [look_ones] at hl1
     clear hku hbl hl3 hb14 hVB
     by_cases hin : v.n.f0 ∈ s.map nameOf
     ·rw [if_pos hin] at hl1
      change (Instr.lookup 126 (.map (some mp)) (.string v.n.f0) false).run Try.prog X4 = .ok (.int .i64 1) X4 at hl1
      have HIN := Aside0.mk hin
      obtain ⟨X5, hup, hM5, hg5⟩ := run_map_update wordOk_ Try.underlying126 HJ4.out.map v.n.f0 (2 : Int)
      change (Instr.mapUpdate 126 (.map (some mp)) (.string v.n.f0) (.int .i64 2)).run Try.prog X4 = .ok () X5 at hup
      have hl2 := run_map_lookup wordOk_ Try.underlying126 int_zero_ hM5 v.n.f0 false
      rw [put_look] at hl2
      change (Instr.lookup 126 (.map (some mp)) (.string v.n.f0) false).run Try.prog X5 = .ok (.int .i64 2) X5 at hl2
      have hVB5 : X5.heap[X.heap.size]? = _ := (hg5.block _ (lt_of_blk_ HVB.out) (fun e => HNE.out.1 (Option.some.inj e))).trans HVB.out
      have p0 : X5.cell? ⟨X.heap.size, 0, none⟩ = some (.string v.n.f0) := (blk_cell hVB5 0).trans rfl
      have p1 : X5.cell? ⟨X.heap.size, 1, none⟩ = some (.string v.n.f1) := (blk_cell hVB5 1).trans rfl
      have p2 : X5.cell? ⟨X.heap.size, 2, none⟩ = some (.slice A2' v.n.f2.length c2') := (blk_cell hVB5 2).trans rfl
      have p3 : X5.cell? ⟨X.heap.size, 3, none⟩ = some (.bool v.n.f3) := (blk_cell hVB5 3).trans rfl
      have p4 : X5.cell? ⟨X.heap.size, 4, none⟩ = some (.bool v.n.f4) := (blk_cell hVB5 4).trans rfl
      have p5 : X5.cell? ⟨X.heap.size, 5, none⟩ = some (.slice A5' v.n.f5.length c5') := (blk_cell hVB5 5).trans rfl
      have p6 : X5.cell? ⟨X.heap.size, 6, none⟩ = some (.slice A6' v.b.f0.length c6') := (blk_cell hVB5 6).trans rfl
      have p7 : X5.cell? ⟨X.heap.size, 7, none⟩ = some (.int .i64 v.d) := (blk_cell hVB5 7).trans rfl
      have cm5 : X5.cell? ⟨mp + 1, 0, none⟩ = some (.map (some mp)) := (blk_cell ((hg5.block _ (lt_of_blk_ HJ4.out.box) (fun e => HNE.out.2 (Option.some.inj e))).trans HJ4.out.box) 0).trans rfl
      have HG5 := Aside0.mk hg5
      clear hVB5 hM5 hg5 hin
      gi_wp2
      refine ⟨trivial, rfl, (show CallsIn (Fence.wide.inRound ly) 0 _ _ _ _ _ from callsIn_wide.2 (must_no _ _)).mono ?_⟩
      rintro e X6 ⟨rfl, rfl⟩
      have h2 := HJ4.out.hi
      have h3 := HS6.out
      exact ⟨rfl, keep_grown HG5.out (by omega), HJ4.out.b.trans (below_grown HG5.out HJ4.out.lo HJ4.out.map.lt), by rw [HS.out, show s ++ v :: t = (s ++ [v]) ++ t from by simp]; exact okAll_prefix _ _ (by rw [okAll_snoc, decide_eq_false (fun h => h HIN.out)]; simp), _, rfl⟩
     ·rw [if_neg hin] at hl1
      change (Instr.lookup 126 (.map (some mp)) (.string v.n.f0) false).run Try.prog X4 = .ok (.int .i64 0) X4 at hl1
      obtain ⟨X5, hup, hM5, hg5⟩ := run_map_update wordOk_ Try.underlying126 HJ4.out.map v.n.f0 (1 : Int)
      change (Instr.mapUpdate 126 (.map (some mp)) (.string v.n.f0) (.int .i64 1)).run Try.prog X4 = .ok () X5 at hup
      have hl2 := run_map_lookup wordOk_ Try.underlying126 int_zero_ hM5 v.n.f0 false
      rw [put_look] at hl2
      change (Instr.lookup 126 (.map (some mp)) (.string v.n.f0) false).run Try.prog X5 = .ok (.int .i64 1) X5 at hl2
      rw [show mapPut (onesOf s) v.n.f0 1 = onesOf (s ++ [v]) from put_ones s v hin] at hM5
      have hVB5 : X5.heap[X.heap.size]? = _ := (hg5.block _ (lt_of_blk_ HVB.out) (fun e => HNE.out.1 (Option.some.inj e))).trans HVB.out
      have p0 : X5.cell? ⟨X.heap.size, 0, none⟩ = some (.string v.n.f0) := (blk_cell hVB5 0).trans rfl
      have p1 : X5.cell? ⟨X.heap.size, 1, none⟩ = some (.string v.n.f1) := (blk_cell hVB5 1).trans rfl
      have p2 : X5.cell? ⟨X.heap.size, 2, none⟩ = some (.slice A2' v.n.f2.length c2') := (blk_cell hVB5 2).trans rfl
      have p3 : X5.cell? ⟨X.heap.size, 3, none⟩ = some (.bool v.n.f3) := (blk_cell hVB5 3).trans rfl
      have p4 : X5.cell? ⟨X.heap.size, 4, none⟩ = some (.bool v.n.f4) := (blk_cell hVB5 4).trans rfl
      have p5 : X5.cell? ⟨X.heap.size, 5, none⟩ = some (.slice A5' v.n.f5.length c5') := (blk_cell hVB5 5).trans rfl
      have p6 : X5.cell? ⟨X.heap.size, 6, none⟩ = some (.slice A6' v.b.f0.length c6') := (blk_cell hVB5 6).trans rfl
      have p7 : X5.cell? ⟨X.heap.size, 7, none⟩ = some (.int .i64 v.d) := (blk_cell hVB5 7).trans rfl
      have cm5 : X5.cell? ⟨mp + 1, 0, none⟩ = some (.map (some mp)) := (blk_cell ((hg5.block _ (lt_of_blk_ HJ4.out.box) (fun e => HNE.out.2 (Option.some.inj e))).trans HJ4.out.box) 0).trans rfl
      have h2 := HJ4.out.hi
      have h3 := HS6.out
      have hB45 : Below w.heap.size w X5 := HJ4.out.b.trans (below_grown hg5 HJ4.out.lo HJ4.out.map.lt)
      have HK5 := Aside0.mk (keep_grown (n := w6.heap.size) hg5 (by omega))
      have HC5 := Aside0.mk (Kd.C_below HVC.out hB45)
      have HOK : Aside0 (okAll (s ++ [v]) = okV v) := ⟨by rw [okAll_snoc, HJ4.out.ok, decide_eq_true (show nameOf v ∉ s.map nameOf from hin)]; simp⟩
      have HBAD : Aside0 (okV v = false → ∀ (X' : World) (why : ByteArray), Below X5.heap.size X5 X' → KeepUp w6.heap.size X4 X' ∧ RunX w l X' [{ v := faultV why, recovered := false }]) := ⟨fun hv X' why hb => ⟨HK5.out.trans (KeepUp.of_below hb (Nat.le_refl _)), hB45.trans (hb.mono hB45.size), by rw [HS.out, show s ++ v :: t = (s ++ [v]) ++ t from by simp]; exact okAll_prefix _ _ (HOK.out.trans hv), _, rfl⟩⟩
      have HGOOD : Aside0 (okV v = true → ∀ X' : World, Below X5.heap.size X5 X' → KeepUp w6.heap.size X4 X' ∧ RunJ w A c l mp bp (s ++ [v]) X') := ⟨fun hv X' hb => by
       have hz := HJ4.out
       have hsz := hg5.size
       have l1 := lt_of_blk_ hz.box
       have l2 := lt_of_blk_ hz.d1
       have l3 := lt_of_blk_ hz.d2
       refine ⟨HK5.out.trans (KeepUp.of_below hb (Nat.le_refl _)), hB45.trans (hb.mono hB45.size), HOK.out.trans hv, ?_, hM5.of_block (hb.block _ (Nat.lt_of_lt_of_le hz.map.lt hsz)), ?_, ?_, hz.lo, hz.hi⟩
       ·exact (hb.block _ (by omega)).trans ((hg5.block _ l1 (fun e => by have := Option.some.inj e; omega)).trans hz.box)
       ·exact (hb.block _ (by omega)).trans ((hg5.block _ l2 (fun e => by have := Option.some.inj e; omega)).trans hz.d1)
       ·exact (hb.block _ (by omega)).trans ((hg5.block _ l3 (fun e => by have := Option.some.inj e; omega)).trans hz.d2)⟩
      clear hVB5 hM5 hg5 hin h2 h3 hB45
      gi_wp2
      refine ⟨trivial, rfl, (show CallsIn (Fence.wide.inRound ly) 0 _ _ _ _ _ from callsIn_wide.2 (must_yes _ _)).mono ?_⟩
      rintro e X6 ⟨rfl, rfl⟩
      clear hl1 hl2 hup cm cm5 q0 q1 q2 q3 q4 q5 q6 q7
      obtain ⟨b3, hb3⟩ : ∃ b3, v.n.f3 = b3 := ⟨_, rfl⟩
      obtain ⟨g1, hg1⟩ : ∃ g1, v.n.f1 = g1 := ⟨_, rfl⟩
      have HUD : Aside0 (undoes v = (b3 || !decide (g1.toList = []))) := ⟨by rw [← hb3, ← hg1]; rfl⟩
      rw [hb3] at p3
      rw [hg1] at p1
      clear hb3 hg1
      cases b3
      ·by_cases h1 : g1.toList = []
       ·have HU : Aside0 (undoes v = false) := ⟨by rw [HUD.out, decide_eq_true h1]; rfl⟩
        gi_wp2
        refine ⟨trivial, rfl, (show CallsIn (Fence.wide.inRound ly) 0 _ _ _ _ _ from callsIn_wide.2 (must_no _ _)).mono ?_⟩
        rintro e X7 ⟨rfl, rfl⟩
        have HU2 : Aside0 (okV v = false) := ⟨by unfold okV; rw [HU.out]; rfl⟩
        exact ⟨rfl, (HBAD.out HU2.out _ ⟨#[]⟩ (Below.refl _ _)).1, (HBAD.out HU2.out _ _ (Below.refl _ _)).2⟩
       ·have HU : Aside0 (undoes v = true) := ⟨by rw [HUD.out, decide_eq_false h1]; rfl⟩
        have hx1 : g1.toList.isEmpty = false := by cases hh : g1.toList with | nil => exact absurd hh h1 | cons _ _ => rfl
        clear h1
        gi_wp2
        refine ⟨trivial, rfl, (show CallsIn (Fence.wide.inRound ly) 0 _ _ _ _ _ from callsIn_wide.2 (must_yes _ _)).mono ?_⟩
        rintro e X7 ⟨rfl, rfl⟩
        by_cases hd6 : v.d ≤ 6
        ·have hx6 : decide (v.d ≤ 6) = true := decide_eq_true hd6
         have HU2 : Aside0 (okV v = soundB v.n.f5) := ⟨by unfold okV; rw [HU.out, hx6]; rfl⟩
         gi_wp2
         refine ⟨trivial, rfl, (show CallsIn (Fence.wide.inRound ly) 0 _ _ _ _ _ from callsIn_wide.2 (must_yes _ _)).mono ?_⟩
         rintro e X8 ⟨rfl, rfl⟩
         clear hx6 hd6
         gi_wp2
         refine ⟨trivial, rfl, (show CallsIn (Fence.wide.inRound ly) 0 _ _ _ _ _ from callsIn_wide.2 (sound_walk A5' c5' v.n.f5 _ HC5.out HV5.out)).mono ?_⟩
         rintro e X9 ⟨hb, he⟩
         by_cases hs5 : soundB v.n.f5 = true
         ·rw [if_pos hs5] at he
          subst he
          have hh := HGOOD.out (HU2.out.trans hs5) _ hb
          have HH := Aside0.mk hh
          clear hh hb hs5
          gi_wp2
          exact HH.out
         ·rw [if_neg hs5] at he
          obtain ⟨why, rfl⟩ := he
          have hh := HBAD.out (by rw [HU2.out]; simpa using hs5) X9 why hb
          exact ⟨rfl, hh.1, hh.2⟩
        ·have hx6 : decide (v.d ≤ 6) = false := decide_eq_false hd6
         have HU2 : Aside0 (okV v = false) := ⟨by unfold okV; rw [HU.out, hx6]; rfl⟩
         gi_wp2
         refine ⟨trivial, rfl, (show CallsIn (Fence.wide.inRound ly) 0 _ _ _ _ _ from callsIn_wide.2 (must_no _ _)).mono ?_⟩
         rintro e X8 ⟨rfl, rfl⟩
         exact ⟨rfl, (HBAD.out HU2.out _ ⟨#[]⟩ (Below.refl _ _)).1, (HBAD.out HU2.out _ _ (Below.refl _ _)).2⟩
      ·have HU : Aside0 (undoes v = true) := ⟨by rw [HUD.out]; rfl⟩
       gi_wp2
       refine ⟨trivial, rfl, (show CallsIn (Fence.wide.inRound ly) 0 _ _ _ _ _ from callsIn_wide.2 (must_yes _ _)).mono ?_⟩
       rintro e X7 ⟨rfl, rfl⟩
       by_cases hd6 : v.d ≤ 6
       ·have hx6 : decide (v.d ≤ 6) = true := decide_eq_true hd6
        have HU2 : Aside0 (okV v = soundB v.n.f5) := ⟨by unfold okV; rw [HU.out, hx6]; rfl⟩
        gi_wp2
        refine ⟨trivial, rfl, (show CallsIn (Fence.wide.inRound ly) 0 _ _ _ _ _ from callsIn_wide.2 (must_yes _ _)).mono ?_⟩
        rintro e X8 ⟨rfl, rfl⟩
        clear hx6 hd6
        gi_wp2
        refine ⟨trivial, rfl, (show CallsIn (Fence.wide.inRound ly) 0 _ _ _ _ _ from callsIn_wide.2 (sound_walk A5' c5' v.n.f5 _ HC5.out HV5.out)).mono ?_⟩
        rintro e X9 ⟨hb, he⟩
        by_cases hs5 : soundB v.n.f5 = true
        ·rw [if_pos hs5] at he
         subst he
         have hh := HGOOD.out (HU2.out.trans hs5) _ hb
         have HH := Aside0.mk hh
         clear hh hb hs5
         gi_wp2
         exact HH.out
        ·rw [if_neg hs5] at he
         obtain ⟨why, rfl⟩ := he
         have hh := HBAD.out (by rw [HU2.out]; simpa using hs5) X9 why hb
         exact ⟨rfl, hh.1, hh.2⟩
       ·have hx6 : decide (v.d ≤ 6) = false := decide_eq_false hd6
        have HU2 : Aside0 (okV v = false) := ⟨by unfold okV; rw [HU.out, hx6]; rfl⟩
        gi_wp2
        refine ⟨trivial, rfl, (show CallsIn (Fence.wide.inRound ly) 0 _ _ _ _ _ from callsIn_wide.2 (must_no _ _)).mono ?_⟩
        rintro e X8 ⟨rfl, rfl⟩
        exact ⟨rfl, (HBAD.out HU2.out _ ⟨#[]⟩ (Below.refl _ _)).1, (HBAD.out HU2.out _ _ (Below.refl _ _)).2⟩
    case hdone =>
     intro d Wd hd hJd hmark
     refine leaves_marks (B := w6.heap.size) .returning (by simp) [d] Wd (Marks.cons (Marks.nil _ _) hd (by simp) hmark) (fun W' hW' => ?_)
     exact ⟨.tuple #[], results_none rfl _ _ _, hJd.b.trans (hW'.mono (by have h1 := HJ0.out.lo; have h2 := HJ0.out.hi; have h3 := HS6.out; omega)), by rw [HT3.out, hJd.ok]; exact ⟨_, rfl⟩⟩
    case hpanic =>
     intro d ch Wd hd hJd hmark
     refine leaves_marks (B := w6.heap.size) (.panicking ch) (by simp) [d] Wd (Marks.cons (Marks.nil _ _) hd (by simp) hmark) (fun W' hW' => ?_)
     obtain ⟨h1, h2, why, rfl⟩ := hJd
     exact HFW.out _ why _ (by rw [HT3.out, h2]) (h1.trans (hW'.mono (by have h1 := HJ0.out.lo; have h2 := HJ0.out.hi; have h3 := HS6.out; omega)))
   ·rw [if_neg hs] at he
    obtain ⟨why, rfl⟩ := he
    exact HFW.out _ why _ (by rw [HT2.out]; simp [hs]) HB4.out
  ·have hbf : bo = false := by rw [← HBO.out, hx1]; simpa using h64
   have hd64 : decide (r2 < 64) = false := decide_eq_false h64
   gi_wp2
   refine ⟨trivial, rfl, (callsIn_wide.2 (must_no _ _)).mono ?_⟩
   rintro e w3' ⟨rfl, rfl⟩
   exact HFW.out _ _ _ (HFA.out hbf) HB3.out
 ·have hx1 : (r1 == 0) = false := by simpa using hr1
  have hbf : bo = false := by rw [← HBO.out, hx1]; rfl
  clear hr1
  refine wpB_seq_k (fun K hK => ?_)
  gi_wp2
  refine ⟨trivial, rfl, (callsIn_wide.2 (syntax_Check.calls k nm A c l r1 _ HCA.out HL.out H1.out)).mono ?_⟩
  rintro e w2 ⟨rfl, hb⟩
  have HB2 := Aside0.mk (HB.out.trans (hb.mono (by simp)))
  clear hb
  gi_wp2_with (refine skip_w (by rfl) ?_)
  refine ⟨trivial, rfl, (callsIn_wide.2 (must_no _ _)).mono ?_⟩
  rintro e w3' ⟨rfl, rfl⟩
  exact HFW.out _ _ _ (HFA.out hbf) HB2.out
end Go.Proofs.Ytihpndignekheaa.F
end

section
namespace Go.Proofs.Ytihpndignekheaa.F
open Go.RowKit Go.Proofs.YtihpndignekheaaW.PrintWords Go.Proofs.YtihpndignekheaaW.PrintLast Go.Proofs.YtihpndignekheaaW.PrintMore
attribute [local go_sem] max2_int min2_int max_two min_two max_three min_three max_four min_four
set_option linter.unusedVariables false
set_option linter.unusedSimpArgs false
set_option maxHeartbeats 2000000 in
set_option maxRecDepth 100000 in
theorem guarded_idle (p : Addr) (w : World) :
  CallsD Try.prog 68 #[.pointer (some p)] .returning w fun e u' w' => e = .returned (.tuple #[]) ∧ u' = .returning ∧ w' = w := by
 refine callsD_of_wpS Try.func68 rfl fun c₀ cs hu => ?_
 apply wpS_seq
 apply wpS_region
 simp [wpOpsS, go_sem, recoverD, hu, Try.ntmps68, Exit.thenS]
 refine wpS_of_wp ?_
 go_wp2
 cases c₀
 simp_all [bodyPostS, results, Try.results68, go_sem]
theorem ta_fault (why : ByteArray) (w : World) : (Instr.typeAssert (.iface 122 (.string why)) 20 122 false).run Try.prog w = .ok (.string why) w := by kernel_rfl
set_option maxHeartbeats 4000000 in
set_option maxRecDepth 100000 in
theorem guarded_fault (why : ByteArray) (g : Nat) (x : Bool) (w : World) (hg : w.heap[g]? = some (.cells #[.bool x] 4 (0, 0))) :
  CallsD Try.prog 68 #[.pointer (some ⟨g, 0, none⟩)] (.panicking [{ v := faultV why, recovered := false }]) w fun e u' w' => e = .returned (.tuple #[]) ∧ u' = .panicking [{ v := faultV why, recovered := true }] ∧ w' = w.setCell ⟨g, 0, none⟩ (.bool false) := by
 have hz := blk_frozen hg 0
 have hc : w.cell? ⟨g, 0, none⟩ = some (.bool x) := (blk_cell hg 0).trans rfl
 clear hg
 refine callsD_of_wpS Try.func68 rfl fun c₀ cs hu => ?_
 apply wpS_seq
 apply wpS_region
 simp [wpOpsS, go_sem, recoverD, hu, Try.ntmps68, Exit.thenS, faultV]
 refine wpS_of_wp ?_
 clear hu
 have h1 := ta_fault
 go_wp2
 cases c₀
 simp_all [bodyPostS, results, Try.results68, go_sem]
theorem run_lit (g : Nat) (nm : ByteArray) (A : Option Addr) (c : Nat) (l : List S82) (w : World) (hg : w.heap[g]? = some (.cells #[.string nm, .slice A l.length c] 86 (0, 0))) (hC : k82.C w A l.length l) (hc : l.length ≤ c) (k : Nat) (r1 r2 : Int) (h1 : syntax_Check.f k nm l = some r1) (h2 : syntax_Count.f k nm l = some r2) :
  Calls Try.prog 60 #[.pointer (some ⟨g, 0, none⟩)] w (RunP (runB r1 r2 l) w) := by
 have q0 : w.cell? ⟨g, 0, none⟩ = some (.string nm) := (blk_cell hg 0).trans rfl
 have q1 : w.cell? ⟨g, 1, none⟩ = some (.slice A l.length c) := (blk_cell hg 1).trans rfl
 have HR := Aside0.mk (run_walk nm A c l w hC hc k r1 r2 h1 h2)
 clear hg hC hc h1 h2
 obtain ⟨o, ho⟩ : ∃ o, runB r1 r2 l = o := ⟨_, rfl⟩
 rw [ho] at HR ⊢
 clear ho
 cases o
 ·go_enter Try.func60, Try.ntmps60
  go_wp2_with (go_at_call 61; refine HR.out.mono ?_; rintro e w2 ⟨hb, he⟩; rw [if_neg (by simp)] at he; obtain ⟨why, rfl⟩ := he)
  exact ⟨rfl, hb, why, rfl⟩
 ·go_enter Try.func60, Try.ntmps60
  go_wp2_with (go_at_call 61; refine HR.out.mono ?_; rintro e w2 ⟨hb, he⟩; rw [if_pos rfl] at he; obtain ⟨v, rfl⟩ := he; have HB := Aside0.mk hb; clear hb)
  exact ⟨rfl, _, results_none rfl _ _ _, HB.out, _, rfl⟩
def GuardP (o : Bool) (w : World) (e : Ending) (w' : World) : Prop := Below w.heap.size w w' ∧ e = .returned (.bool o)
set_option maxHeartbeats 8000000 in
set_option maxRecDepth 100000 in
theorem guarded_walk (g : Nat) (nm : ByteArray) (A : Option Addr) (c : Nat) (l : List S82) (w : World) (hg : w.heap[g]? = some (.cells #[.string nm, .slice A l.length c] 86 (0, 0))) (hC : k82.C w A l.length l) (hc : l.length ≤ c) (k : Nat) (r1 r2 : Int) (h1 : syntax_Check.f k nm l = some r1) (h2 : syntax_Count.f k nm l = some r2) :
  Calls Try.prog 59 #[.func (.func 60) #[] #[.pointer (some ⟨g, 0, none⟩)]] w (GuardP (runB r1 r2 l) w) := by
 have hmf : ∀ (fn : Fn) (first cap : Array Value) (w : World), (Instr.makeFunc fn first cap).run Try.prog w = .ok (.func fn first cap) w := fun _ _ _ _ => rfl
 have HR := Aside0.mk (run_lit g nm A c l _ (blk_alloc hg (.cells #[.bool false] 4 (0, 0))) (Kd.C_alloc hC (.cells #[.bool false] 4 (0, 0))) hc k r1 r2 h1 h2)
 have HG := Aside0.mk (blk_new w (.cells #[.bool false] 4 (0, 0)))
 have HB0 := Aside0.mk ((Below.refl w.heap.size w).alloc (Nat.le_refl _) (.cells #[.bool false] 4 (0, 0)))
 clear hg hC hc h1 h2
 obtain ⟨o, ho⟩ : ∃ o, runB r1 r2 l = o := ⟨_, rfl⟩
 rw [ho] at HR ⊢
 clear ho
 cases o
 ·go_enter_defers Try.func59, Try.ntmps59
  go_wp2_with (go_at_call 60; refine HR.out.mono ?_; rintro e w2 ⟨hb, he⟩; rw [if_neg (by simp)] at he; obtain ⟨why, rfl⟩ := he)
  have HB2 := HB0.out.trans (hb.mono (by simp))
  have HG2 := blk_below HG.out hb
  refine leaves_cons (f := 68) (args := #[.pointer (some ⟨w.heap.size, 0, none⟩)]) (by simp) (by simp [go_sem]) ?_
  refine (guarded_fault why w.heap.size false _ HG2).mono ?_
  rintro e u' w'' ⟨rfl, rfl, rfl⟩
  have hG3 := blk_put HG2 0 (.bool false) rfl
  have hcl := (blk_cell hG3 0).trans rfl
  refine ⟨.bool false, by simp [results, Try.results59, go_sem, hcl], ?_⟩
  exact ⟨HB2.setCell (p := ⟨w.heap.size, 0, none⟩) (Nat.le_refl _) _, rfl⟩
 ·go_enter_defers Try.func59, Try.ntmps59
  go_wp2_with (go_at_call 60; refine HR.out.mono ?_; rintro e w2 ⟨hb, he⟩; rw [if_pos rfl] at he; obtain ⟨v, rfl⟩ := he; have HB2 := Aside0.mk (HB0.out.trans (hb.mono (by simp))); have HG2 := Aside0.mk (blk_below HG.out hb); have y0 : w2.cell? ⟨w.heap.size, 0, none⟩ = some (.bool false) := (blk_cell HG2.out 0).trans rfl; have y1 := blk_frozen HG2.out 0; clear hb)
  refine leaves_cons (f := 68) (args := #[.pointer (some ⟨w.heap.size, 0, none⟩)]) (by simp) (by simp [go_sem]) ?_
  refine (guarded_idle ⟨w.heap.size, 0, none⟩ _).mono ?_
  rintro e u' w'' ⟨rfl, rfl, rfl⟩
  have hG3 := blk_put HG2.out 0 (.bool true) rfl
  have hcl := (blk_cell hG3 0).trans rfl
  refine ⟨.bool true, by simp [results, Try.results59, go_sem, hcl], ?_⟩
  exact ⟨HB2.out.setCell (p := ⟨w.heap.size, 0, none⟩) (Nat.le_refl _) _, rfl⟩
set_option maxHeartbeats 8000000 in
set_option maxRecDepth 100000 in
theorem check_walk (nm : ByteArray) (A : Option Addr) (c : Nat) (l : List S82) (w : World) (hC : k82.C w A l.length l) (hc : l.length ≤ c) (k : Nat) (r1 r2 : Int) (h1 : syntax_Check.f k nm l = some r1) (h2 : syntax_Count.f k nm l = some r2) :
  Calls Try.prog 42 #[.agg #[.string nm, .slice A l.length c]] w fun e w' => e = .returned (.int .i64 (if runB r1 r2 l then 0 else 11)) ∧ Below w.heap.size w w' := by
 have hmf : ∀ (fn : Fn) (first cap : Array Value) (w : World), (Instr.makeFunc fn first cap).run Try.prog w = .ok (.func fn first cap) w := fun _ _ _ _ => rfl
 have HR := Aside0.mk (guarded_walk w.heap.size nm A c l _ (blk_new w (.cells #[.string nm, .slice A l.length c] 86 (0, 0))) (Kd.C_alloc hC (.cells #[.string nm, .slice A l.length c] 86 (0, 0))) hc k r1 r2 h1 h2)
 have HB0 := Aside0.mk ((Below.refl w.heap.size w).alloc (Nat.le_refl _) (.cells #[.string nm, .slice A l.length c] 86 (0, 0)))
 clear hC hc h1 h2
 obtain ⟨o, ho⟩ : ∃ o, runB r1 r2 l = o := ⟨_, rfl⟩
 rw [ho] at HR ⊢
 clear ho
 cases o
 all_goals
  go_enter Try.func42, Try.ntmps42
  go_wp2_with (go_at_call 59; refine HR.out.mono ?_; rintro e w2 ⟨hb, rfl⟩; have HB2 := Aside0.mk (HB0.out.trans (hb.mono (by simp))); clear hb)
  go_ret
  exact ⟨rfl, HB2.out⟩
end Go.Proofs.Ytihpndignekheaa.F
end

section
namespace Go.Proofs.Ytihpndignekheaa.F
open Go.RowKit Go.Proofs.YtihpndignekheaaW.PrintWords Go.Proofs.YtihpndignekheaaW.PrintLast Go.Proofs.YtihpndignekheaaW.PrintMore
attribute [local go_sem] max2_int min2_int max_two min_two max_three min_three max_four min_four
set_option linter.unusedVariables false
set_option linter.unusedSimpArgs false
theorem info40_ : (Try.prog.info? 37).map (fun i => (i.zero, i.size, i.bytes)) = some (some (.agg #[.string ⟨#[]⟩, .string ⟨#[]⟩, .bool false, .bool false, .int .i64 0, .int .i64 0, .int .i64 0, .slice none 0 0]), 8, 88) := by kernel_rfl
theorem info3_ : (Try.prog.info? 3).map (fun i => (i.zero, i.size, i.bytes)) = some (some (.int .i64 0), 1, 8) := by kernel_rfl
def addAfter (out : List ItemK) (a k : Int) : List ItemK := out.set a.toNat ⟨(rd_T37 out a).f0, (rd_T37 out a).f1, (rd_T37 out a).f2, (rd_T37 out a).f3, (rd_T37 out a).f4, (rd_T37 out a).f5, (rd_T37 out a).f6, (rd_T37 out a).f7 ++ [k]⟩
def arcsTo (b : List NodeK) (ats : List Int) (a : Int) : List ByteArray → List ItemK → List ItemK
 | [], out => out
 | s :: r, out => arcsTo b ats a r (addAfter out a (rd ats (namedI b s)))
def pass2 (b : List NodeK) (ats : List Int) : Nat → List NodeK → List ItemK → List ItemK
 | _, [], out => out
 | i, x :: l, out => pass2 b ats (i + 1) l (arcsTo b ats (rd ats (i : Int)) x.f2 out)
mutual
def flNode (inn alt : Int) (out : List ItemK) : S79 → List ItemK
 | ⟨nm, un, af, sb, vi, al⟩ => flAlts (out.length : Int) 0 (out ++ [⟨nm, un, sb, vi, (al.length : Int), inn, alt, []⟩]) al
def flNodes (inn alt : Int) (out : List ItemK) (nums : List Int) : List S79 → List ItemK × List Int
 | [] => (out, nums)
 | x :: l => flNodes inn alt (flNode inn alt out x) (nums ++ [(out.length : Int)]) l
def flBody (inn alt : Int) (out : List ItemK) : SB82 S79 → List ItemK
 | ⟨l⟩ => pass2 l (flNodes inn alt out [] l).2 0 l (flNodes inn alt out [] l).1
def flAlts (inn alt : Int) (out : List ItemK) : List (SB82 S79) → List ItemK
 | [] => out
 | b :: l => flAlts inn (alt + 1) (flBody inn alt out b) l
end
mutual
def wNode : S79 → Nat
 | ⟨_, _, af, _, _, al⟩ => 1 + af.length + wAlts al
def wNodes : List S79 → Nat
 | [] => 0
 | x :: l => wNode x + wNodes l
def wBody : SB82 S79 → Nat
 | ⟨l⟩ => wNodes l
def wAlts : List (SB82 S79) → Nat
 | [] => 0
 | b :: l => wBody b + wAlts l
end
def aNodes (l : List NodeK) : Nat := (l.map fun x => 1 + wAlts x.f5).sum
def sAf (l : List NodeK) : Nat := (l.map fun x => x.f2.length).sum
theorem wNode_eq (x : NodeK) : wNode x = 1 + x.f2.length + wAlts x.f5 := by cases x; simp [wNode]
theorem wNodes_eq (l : List NodeK) : wNodes l = aNodes l + sAf l := by
 induction l with
 | nil => simp [wNodes, aNodes, sAf]
 | cons x l ih => rw [wNodes, ih, wNode_eq]; simp only [aNodes, sAf, List.map_cons, List.sum_cons]; omega
theorem wBody_eq (b : BodyK) : wBody b = wNodes b.f0 := by cases b; simp [wBody]
theorem aNodes_take (l : List NodeK) (q : Nat) (h : q < l.length) : aNodes (l.take (q + 1)) = aNodes (l.take q) + (1 + wAlts l[q].f5) := by
 unfold aNodes; rw [List.take_succ_eq_append_getElem h, List.map_append, List.sum_append]; simp only [List.map_cons, List.map_nil, List.sum_cons, List.sum_nil, Nat.add_zero]
theorem sAf_take (l : List NodeK) (q : Nat) (h : q < l.length) : sAf (l.take (q + 1)) = sAf (l.take q) + l[q].f2.length := by
 unfold sAf; rw [List.take_succ_eq_append_getElem h, List.map_append, List.sum_append]; simp only [List.map_cons, List.map_nil, List.sum_cons, List.sum_nil, Nat.add_zero]
theorem aNodes_le (l : List NodeK) (q : Nat) : aNodes (l.take q) ≤ aNodes l := by
 have e : aNodes l = aNodes (l.take q) + aNodes (l.drop q) := by
  unfold aNodes; rw [← List.sum_append, ← List.map_append, List.take_append_drop]
 omega
theorem sAf_le (l : List NodeK) (q : Nat) : sAf (l.take q) ≤ sAf l := by
 have e : sAf l = sAf (l.take q) + sAf (l.drop q) := by
  unfold sAf; rw [← List.sum_append, ← List.map_append, List.take_append_drop]
 omega
theorem wAlts_take (l : List BodyK) (q : Nat) (h : q < l.length) : wAlts (l.take (q + 1)) = wAlts (l.take q) + wNodes l[q].f0 := by
 induction l generalizing q with
 | nil => simp at h
 | cons b l ih =>
  cases q with
  | zero => simp [wAlts, wBody_eq]
  | succ q =>
   simp only [List.take_succ_cons, wAlts, List.getElem_cons_succ]
   rw [ih q (by simpa using h)]; omega
theorem wAlts_le (l : List BodyK) (q : Nat) : wAlts (l.take q) ≤ wAlts l := by
 induction l generalizing q with
 | nil => simp [wAlts]
 | cons b l ih =>
  cases q with
  | zero => simp [wAlts]
  | succ q => simp only [List.take_succ_cons, wAlts]; have := ih q; omega
theorem flNode_eq (inn alt : Int) (out : List ItemK) (x : NodeK) : flNode inn alt out x = flAlts (out.length : Int) 0 (out ++ [⟨x.f0, x.f1, x.f3, x.f4, (x.f5.length : Int), inn, alt, []⟩]) x.f5 := by cases x; simp [flNode]
theorem flBody_eq (inn alt : Int) (out : List ItemK) (b : BodyK) : flBody inn alt out b = pass2 b.f0 (flNodes inn alt out [] b.f0).2 0 b.f0 (flNodes inn alt out [] b.f0).1 := by cases b; simp [flBody]
def Bnd (N : Nat) (xs : List ItemK) : Prop := xs.length ≤ N ∧ ∀ it ∈ xs, it.f7.length ≤ N
theorem Bnd.mono {N M : Nat} {xs : List ItemK} (h : Bnd N xs) (hN : N ≤ M) : Bnd M xs := ⟨Nat.le_trans h.1 hN, fun it hi => Nat.le_trans (h.2 it hi) hN⟩
theorem Bnd.snoc {N : Nat} {xs : List ItemK} (h : Bnd N xs) {it : ItemK} (hi : it.f7 = []) : Bnd (N + 1) (xs ++ [it]) :=
 ⟨by rw [List.length_append]; have := h.1; simpa using this, fun y hy => by
  rcases List.mem_append.1 hy with hy | hy
  ·exact Nat.le_succ_of_le (h.2 y hy)
  ·rw [List.mem_singleton.1 hy, hi]; simp⟩
theorem Bnd.add {N : Nat} {xs : List ItemK} (h : Bnd N xs) {a k : Int} (ha : a.toNat < xs.length) : Bnd (N + 1) (addAfter xs a k) :=
 ⟨by unfold addAfter; rw [List.length_set]; exact Nat.le_succ_of_le h.1, fun y hy => by
  unfold addAfter at hy
  rcases List.mem_or_eq_of_mem_set hy with hy | rfl
  ·exact Nat.le_succ_of_le (h.2 y hy)
  ·have hm : rd_T37 xs a ∈ xs := by unfold rd_T37; rw [List.getD_eq_getElem?_getD, List.getElem?_eq_getElem ha]; exact List.getElem_mem ha
   have := h.2 _ hm
   simp only [List.length_append, List.length_singleton]
   omega⟩
theorem arcsN_some (b : List NodeK) (i : Int) : ∀ (r bef : List ByteArray) (out o : List S147), arcsN b i bef r out = some o → ∀ s ∈ r, 0 ≤ namedI b s
 | [], _, _, _, _, s, hs => by cases hs
 | t :: r, bef, out, o, h, s, hs => by
  unfold arcsN at h
  split at h
  ·rename_i hc
   simp only [Bool.and_eq_true, decide_eq_true_eq] at hc
   rcases List.mem_cons.1 hs with rfl | hs
   ·exact hc.1.1
   ·exact arcsN_some b i r _ _ _ h s hs
  ·cases h
theorem arcsL_some (b : List NodeK) : ∀ (l : List NodeK) (i : Int) (out o : List S147), arcsL b i l out = some o → ∀ x ∈ l, ∀ s ∈ x.f2, 0 ≤ namedI b s
 | [], _, _, _, _, x, hx => by cases hx
 | y :: l, i, out, o, h, x, hx => by
  unfold arcsL at h
  split at h
  ·cases h
  ·rename_i o2 ho
   rcases List.mem_cons.1 hx with rfl | hx
   ·exact arcsN_some b i _ _ _ _ ho
   ·exact arcsL_some b l _ _ _ h x hx
theorem idxF_lt {α : Type} (p : α → Bool) : ∀ (l : List α) (i : Int), idxF p l i < i + (l.length : Int) ∨ idxF p l i = -1
 | [], i => by simp [idxF]
 | x :: l, i => by
  unfold idxF
  split
  ·left; simp only [List.length_cons]; omega
  ·rcases idxF_lt p l (i + 1) with h | h
   ·left; simp only [List.length_cons]; omega
   ·right; exact h
theorem sound_named {l : List BodyK} (h : soundB l = true) {b : BodyK} (hb : b ∈ l) : b.f0.length ≤ 16 ∧ ∀ x ∈ b.f0, ∀ s ∈ x.f2, 0 ≤ namedI b.f0 s ∧ namedI b.f0 s < (b.f0.length : Int) := by
 unfold soundB at h
 rw [Bool.and_eq_true, List.all_eq_true] at h
 have h1 := h.2 b hb
 unfold bodySound at h1
 simp only [Bool.and_eq_true, decide_eq_true_eq] at h1
 refine ⟨h1.1.2, fun x hx s hs => ?_⟩
 have h2 := h1.2
 split at h2
 ·cases h2
 ·rename_i a ha
  have h3 := arcsL_some _ _ _ _ _ ha x hx s hs
  refine ⟨h3, ?_⟩
  unfold namedI at h3 ⊢
  rcases idxF_lt (isName s) b.f0 0 with h4 | h4
  ·omega
  ·omega
theorem itm_get {W : World} {base : Nat} {ok : Nat → Prop} {v : Value} {out : List ItemK} (HS : Kd.S k37 37 W base ok v out) {a : Nat} (ha : a < out.length) :
  ∃ (g cap : Nat) (oki : Nat → Prop) (v7 : Value) (cs : List Value), v = .slice (some ⟨g, 0, none⟩) out.length cap ∧ W.cell? ⟨g, a * 8 + 7, none⟩ = some v7 ∧ W.frozen? ⟨g, a * 8 + 7, none⟩ = false ∧ Kd.R (Kd.int .i64) 3 W base oki v7 (rd_T37 out (a : Int)).f7 ∧ (∀ k, oki k → ok k ∧ k ≠ g) ∧ ok g ∧ base ≤ g ∧
   cs = [.string (rd_T37 out (a : Int)).f0, .string (rd_T37 out (a : Int)).f1, .bool (rd_T37 out (a : Int)).f2, .bool (rd_T37 out (a : Int)).f3, .int .i64 (rd_T37 out (a : Int)).f4, .int .i64 (rd_T37 out (a : Int)).f5, .int .i64 (rd_T37 out (a : Int)).f6, v7] ∧
   Kd.H k37 37 W base ok (.slice (some ⟨g, 0, none⟩) out.length cap) out (a : Int) oki cs := by
 obtain ⟨g, cap, rfl, hbg, hglt, _⟩ := Kd.S_form HS (by omega)
 obtain ⟨oki, c, hcl, hM, hcc, hfr, hoki, hH⟩ := Kd.S_elem HS z37 (a : Int) (by omega) (by omega)
 have hrd : out.getD (a : Int).toNat z37 = rd_T37 out (a : Int) := rfl
 rw [hrd] at hM
 obtain ⟨v7, rfl, hR⟩ := k37_openM hM
 have h1 := hcc 7 v7 rfl
 have h2 := hfr 7
 rw [Int.toNat_natCast] at h1 h2
 refine ⟨g, cap, oki, v7, _, rfl, h1, h2, hR, hoki, (Kd.S_R HS).1 g (by simp [Value.ownBlock]), hbg, rfl, hH⟩
theorem itm_back {W w1 : World} {base g cap a n : Nat} {ok oki : Nat → Prop} {v7 v1 : Value} {out : List ItemK} {x : ItemK} {l : List Int} (ha : a < n)
  (hH : Kd.H k37 37 W base ok (.slice (some ⟨g, 0, none⟩) n cap) out (a : Int) oki [.string x.f0, .string x.f1, .bool x.f2, .bool x.f3, .int .i64 x.f4, .int .i64 x.f5, .int .i64 x.f6, v7]) (hg : W.grownBy w1 v7.ownBlock) (hve : ∀ k, v7.ownBlock = some k → oki k)
  (hfresh : ∀ k, W.heap.size ≤ k → ok k) (hR : Kd.R (Kd.int .i64) 3 w1 base (fun k => oki k ∨ W.heap.size ≤ k) v1 l) :
  Kd.S k37 37 (w1.setCell ⟨g, a * 8 + 7, none⟩ v1) base ok (.slice (some ⟨g, 0, none⟩) n cap) (out.set a ⟨x.f0, x.f1, x.f2, x.f3, x.f4, x.f5, x.f6, l⟩) ∧ w1.grownBy (w1.setCell ⟨g, a * 8 + 7, none⟩ v1) (some g) := by
 have h2 := Kd.H_widen hH
 have h3 := Kd.H_grown h2 hg (fun k hk => .inl (hve k hk))
 have h4 := Kd.S_seg0 h3 (by omega) (by omega) (seg := [v1]) (j := 7) (Nat.le_refl 8) (x' := (⟨x.f0, x.f1, x.f2, x.f3, x.f4, x.f5, x.f6, l⟩ : ItemK)) (okp := fun k => oki k ∨ ok k ∧ W.heap.size ≤ k) (k37_mkM _ _ _ _ (Kd.R_mono hR (fun k hk => hk.elim .inl (fun h => .inr ⟨hfresh k h, h⟩)))) (fun _ hk => hk)
 rw [Int.toNat_natCast] at h4
 simpa [show (k37).sz = 8 from rfl, World.setCells] using h4
theorem frozen_al {W : World} {a : Addr} {v : Value} {o : Obj} (h : W.cell? a = some v) (hf : W.frozen? a = false) : (W.alloc o).frozen? a = false := by
 have := Below.heap_alloc W o a.block (World.block_lt_of_cell? W a h)
 simpa [World.frozen?, this] using hf
theorem ats_set (nums : List Int) (m n q : Nat) (hn : nums.length = q) (hq : q < n) : (nums ++ List.replicate (n - q) (0 : Int)).set q (m : Int) = (nums ++ [(m : Int)]) ++ List.replicate (n - (q + 1)) 0 := by
 obtain ⟨d, rfl⟩ : ∃ d, n = q + 1 + d := ⟨n - (q + 1), by omega⟩
 rw [show q + 1 + d - q = d + 1 by omega, show q + 1 + d - (q + 1) = d by omega, List.replicate_succ, List.set_append_right _ _ (by omega), hn, Nat.sub_self]
 simp
theorem Q_drew_ {W : World} {base : Nat} {ok : Nat → Prop} {v : Value} {xs : List Int} (h : Kd.Q (Kd.int .i64) 3 W base ok v xs) : Kd.Q (Kd.int .i64) 3 W.drew base ok v xs := Kd.Q_below h (below_drew (Below.refl _ _))
theorem at_cell {W : World} {base g n cap q : Nat} {ok : Nat → Prop} {nums : List Int} {m : Int} {z : List Int} (h : Kd.Q (Kd.int .i64) 3 W base ok (.slice (some ⟨g, 0, none⟩) n cap) ((nums ++ [m]) ++ z)) (hn : nums.length = q) (hq : q < n) : W.drew.cell? ⟨g, q, none⟩ = some (.int .i64 m) := by
 have h1 := (Kd.Q_cell (0 : Int) (Q_drew_ h) (q : Int) (by omega) (by omega)).1
 rw [Int.toNat_natCast, Nat.zero_add] at h1
 rw [h1]
 simp [rdOf, ← hn]
def Stop_ (p : Prop) : Prop := p
theorem stop_ {p : Prop} (h : Stop_ p) : p := h
theorem frozen_below {W W2 : World} {a : Addr} {v : Value} (hb : Below W.heap.size W W2) (h : W.cell? a = some v) (hf : W.frozen? a = false) : W2.drew.frozen? a = false := by
 have := hb.block a.block (World.block_lt_of_cell? W a h)
 have h2 : W2.drew.heap[a.block]? = W.heap[a.block]? := this
 simpa [World.frozen?, h2] using hf
theorem at_form {W : World} {base g N : Nat} {v : Value} {xs : List Int} (h : Kd.R (Kd.int .i64) 3 W base (fun k => k = g) v xs) (hb : ∃ b, v.ownBlock = some b ∧ N ≤ b) : ∃ c, v = .slice (some ⟨g, 0, none⟩) xs.length c := by
 obtain ⟨A, c, rfl⟩ := Kd.R_slice h
 obtain ⟨b, hb, _⟩ := hb
 cases A with
 | none => simp [Value.ownBlock] at hb
 | some a =>
  obtain ⟨g', rfl⟩ := Kd.R_head h
  have : g' = g := h.1 g' (by simp [Value.ownBlock])
  subst this
  exact ⟨c, rfl⟩
theorem addAfter_length (out : List ItemK) (a k : Int) : (addAfter out a k).length = out.length := by simp [addAfter]
theorem arcsTo_length (b : List NodeK) (ats : List Int) (a : Int) : ∀ (r : List ByteArray) (out : List ItemK), (arcsTo b ats a r out).length = out.length
 | [], _ => rfl
 | s :: r, out => by rw [arcsTo, arcsTo_length b ats a r, addAfter_length]
theorem pass2_length (b : List NodeK) (ats : List Int) : ∀ (l : List NodeK) (i : Nat) (out : List ItemK), (pass2 b ats i l out).length = out.length
 | [], _, _ => rfl
 | x :: l, i, out => by rw [pass2, pass2_length b ats l, arcsTo_length]
mutual
theorem flNode_len (inn alt : Int) (out : List ItemK) : ∀ x : S79, out.length < (flNode inn alt out x).length
 | ⟨nm, un, af, sb, vi, al⟩ => by
  unfold flNode
  have := flAlts_len (out.length : Int) 0 (out ++ [⟨nm, un, sb, vi, (al.length : Int), inn, alt, []⟩]) al
  rw [List.length_append] at this
  simp only [List.length_singleton] at this
  omega
theorem flNodes_len (inn alt : Int) (out : List ItemK) (nums : List Int) : ∀ l : List S79, out.length ≤ (flNodes inn alt out nums l).1.length
 | [] => by simp [flNodes]
 | x :: l => by
  unfold flNodes
  have h1 := flNode_len inn alt out x
  have h2 := flNodes_len inn alt (flNode inn alt out x) (nums ++ [(out.length : Int)]) l
  omega
theorem flBody_len (inn alt : Int) (out : List ItemK) : ∀ b : SB82 S79, out.length ≤ (flBody inn alt out b).length
 | ⟨l⟩ => by
  unfold flBody
  rw [pass2_length]
  exact flNodes_len inn alt out [] l
theorem flAlts_len (inn alt : Int) (out : List ItemK) : ∀ l : List (SB82 S79), out.length ≤ (flAlts inn alt out l).length
 | [] => by simp [flAlts]
 | b :: l => by
  unfold flAlts
  have h1 := flBody_len inn alt out b
  have h2 := flAlts_len inn (alt + 1) (flBody inn alt out b) l
  omega
end
def FlatP (w0 w : World) (ok : Nat → Prop) (N : Nat) (r : List ItemK) (e : Ending) (w' : World) : Prop := Below w0.heap.size w0 w' ∧ Kept w w' ok ∧ Bnd N r ∧ ∃ v, e = .returned v ∧ Kd.S k37 37 w' w0.heap.size (fun k => ok k ∨ w.heap.size ≤ k) v r
def FlatC (l : List BodyK) : Prop := ∀ (d : Int) (w0 w : World) (A : Option Addr) (c : Nat) (ok : Nat → Prop) (v : Value) (xs : List ItemK) (inn : Int) (N : Nat), Kd.C k82 w0 A l.length l → l.length ≤ c → soundB l = true → (∀ u ∈ visAlts d l, soundB u.n.f5 = true) →
 Below w0.heap.size w0 w → Kd.S k37 37 w w0.heap.size ok v xs → Bnd N xs → N + wAlts l ≤ 1000000 → Calls Try.prog 43 #[v, .int .i64 inn, .slice A l.length c] w (FlatP w0 w ok (N + wAlts l) (flAlts inn 0 xs l))
theorem flAlts_drop (inn alt : Int) (out : List ItemK) (l : List BodyK) (i : Nat) (h : i < l.length) : flAlts inn alt out (l.drop i) = flAlts inn (alt + 1) (flBody inn alt out l[i]) (l.drop (i + 1)) := by rw [List.drop_eq_getElem_cons h]; simp [flAlts]
theorem flNodes_drop (inn alt : Int) (out : List ItemK) (nums : List Int) (l : List NodeK) (i : Nat) (h : i < l.length) : flNodes inn alt out nums (l.drop i) = flNodes inn alt (flNode inn alt out l[i]) (nums ++ [(out.length : Int)]) (l.drop (i + 1)) := by rw [List.drop_eq_getElem_cons h]; simp [flNodes]
theorem vis_child {d : Int} {l : List BodyK} {i : Nat} (h : i < l.length) {q : Nat} (hq : q < l[i].f0.length) {P : Vis → Prop} (hall : ∀ u ∈ visAlts d l, P u) : P ⟨l[i].f0[q], l[i], d⟩ ∧ ∀ u ∈ visAlts (wrap64 (d + 1)) l[i].f0[q].f5, P u := by
 rw [visAlts_split d l i h] at hall
 have h1 : ∀ u ∈ visNodes l[i] d l[i].f0, P u := fun u hu => hall u (List.mem_append_right _ (List.mem_append_left _ hu))
 rw [visNodes_split l[i] d l[i].f0 q hq] at h1
 exact ⟨h1 _ (List.mem_append_right _ List.mem_cons_self), fun u hu => h1 u (List.mem_append_right _ (List.mem_cons_of_mem _ (List.mem_append_left _ hu)))⟩
set_option maxHeartbeats 16000000 in
set_option maxRecDepth 100000 in
theorem flat_walk (l : List BodyK) (ih : ∀ b ∈ l, ∀ x ∈ b.f0, FlatC x.f5) : FlatC l := by
 intro d w0 w A c ok v xs inn N hC hc hs hall hB hS hN hW
 have IH := Aside0.mk ih
 have HC := Aside0.mk hC
 have HLC := Aside0.mk hc
 have HSB := Aside0.mk hs
 have HALL := Aside0.mk hall
 have HB0 := Aside0.mk hB
 have HS0 := Aside0.mk hS
 have HN0 := Aside0.mk hN
 have HW0 := Aside0.mk hW
 have HM := Aside0.mk (Kd.C_max hC)
 obtain ⟨A0, c0, rfl⟩ := Kd.S_slice hS
 clear ih hC hc hs hall hB hS hN hW
 go_enter Try.func43, Try.ntmps43
 go_wp2
 go_loopg [0, 19] l.length (fun kq v0 v19 w' => ∃ (i : Nat) (out : List ItemK), i + kq = l.length ∧ v19 = .int .i64 i ∧ Aside0 (Below w0.heap.size w0 w') ∧ Aside0 (Kept w w' ok) ∧ Aside0 (Bnd (N + wAlts (l.take i)) out) ∧ Aside0 (flAlts inn 0 xs l = flAlts inn (i : Int) out (l.drop i)) ∧ Aside0 (Kd.S k37 37 w' w0.heap.size (fun k => ok k ∨ w.heap.size ≤ k) v0 out))
 case atStart => exact ⟨0, xs, by omega, rfl, HB0, ⟨Kept.refl _ _⟩, ⟨by simpa [wAlts] using HN0.out⟩, ⟨rfl⟩, ⟨Kd.S_mono HS0.out (fun _ hk => .inl hk)⟩⟩
 case round =>
  obtain ⟨wo, hwo⟩ : ∃ x, x = wr := ⟨_, rfl⟩
  subst hwo
  obtain ⟨i, out, hi, rfl, HB, HK, HN, HI, HS⟩ := hrel
  have hm := HM.out
  cases gk with
  | zero =>
   obtain rfl : i = l.length := by omega
   obtain ⟨A1, c1, rfl⟩ := Kd.S_slice HS.out
   have HE : Aside0 (flAlts inn 0 xs l = out) := ⟨by rw [HI.out, List.drop_eq_nil_of_le (Nat.le_refl _)]; simp [flAlts]⟩
   have HN' : Aside0 (Bnd (N + wAlts l) out) := ⟨by have := HN.out; rwa [List.take_length] at this⟩
   go_wp2
   go_ret
   refine ⟨HB.out, HK.out, ?_, _, rfl, ?_⟩
   ·rw [HE.out]; exact HN'.out
   ·rw [HE.out]; exact HS.out
  | succ k =>
   have hlt : i < l.length := by omega
   obtain ⟨A1, c1, rfl⟩ := Kd.S_slice HS.out
   obtain ⟨ad, A2, c2, e0, x0, l2, g2⟩ := at_T82 HC.out (i : Int) (by omega) (by omega)
   subst e0
   rw [Int.toNat_natCast] at x0
   replace x0 := (HB.out.cell (World.block_lt_of_cell? w0 _ x0)).trans x0
   have hrd : rd_T82 l (i : Int) = l[i] := by unfold rd_T82; rw [Int.toNat_natCast, List.getD_eq_getElem?_getD, List.getElem?_eq_getElem hlt]; rfl
   rw [hrd] at x0 l2 g2
   have HNB := Aside0.mk (sound_named HSB.out (List.getElem_mem hlt))
   have HIHB : Aside0 (∀ x ∈ l[i].f0, FlatC x.f5) := ⟨fun x hx => IH.out l[i] (List.getElem_mem hlt) x hx⟩
   have HCH : Aside0 (∀ x ∈ l[i].f0, soundB x.f5 = true ∧ ∀ u ∈ visAlts (wrap64 (d + 1)) x.f5, soundB u.n.f5 = true) := ⟨fun x hx => by obtain ⟨q, hq, rfl⟩ := List.getElem_of_mem hx; exact vis_child (P := fun u => soundB u.n.f5 = true) hlt hq HALL.out⟩
   have HWT : Aside0 (wAlts (l.take (i + 1)) = wAlts (l.take i) + wNodes l[i].f0) := ⟨wAlts_take l i hlt⟩
   have HWL : Aside0 (N + wAlts (l.take (i + 1)) ≤ 1000000) := ⟨Nat.le_trans (Nat.add_le_add_left (wAlts_le l (i + 1)) N) HW0.out⟩
   have HD : Aside0 (flAlts inn (i : Int) out (l.drop i) = flAlts inn ((i : Int) + 1) (pass2 l[i].f0 (flNodes inn i out [] l[i].f0).2 0 l[i].f0 (flNodes inn i out [] l[i].f0).1) (l.drop (i + 1))) := ⟨by rw [flAlts_drop inn i out l i hlt, flBody_eq]⟩
   obtain ⟨⟨b⟩, hbx⟩ : ∃ x, l[i] = x := ⟨_, rfl⟩
   simp only [hbx] at x0 l2 g2 HNB HIHB HCH HWT HD
   have HI2 := Aside0.mk hi
   have HNX : Aside0 (Value.int .i64 (wrap64 ((i : Int) + 1)) = .int .i64 ((i + 1 : Nat) : Int)) := ⟨by rw [show wrap64 ((i : Int) + 1) = ((i + 1 : Nat) : Int) from by unfold wrap64; omega]⟩
   have hlt' : (i : Int) < (l.length : Int) := by omega
   have h0 : (0 : Int) ≤ i := by omega
   have HCB := Aside0.mk g2
   have HLB := Aside0.mk l2
   have hb16 := HNB.out.1
   clear hrd hbx hi g2 l2
   have HGB := Aside0.mk (blk_new wo (.cells #[.slice A2 b.length c2] 82 (0, 0)))
   have HBB := Aside0.mk (HB.out.alloc HB.out.size (.cells #[.slice A2 b.length c2] 82 (0, 0)))
   have HKB := Aside0.mk (HK.out.alloc (.cells #[.slice A2 b.length c2] 82 (0, 0)))
   have HSB2 := Aside0.mk (Kd.S_alloc HS.out (.cells #[.slice A2 b.length c2] 82 (0, 0)))
   go_wp2_with ((with_reducible refine gate_dst (N := 27) rfl ?_); refine Kd.R_make (Kd.int .i64) (w0 := wo.alloc (.cells #[.slice A2 b.length c2] 82 (0, 0))) w0.heap.size 3 rfl (N := 27) rfl 35 _ _ rfl (b.length : Int) rfl rfl Try.underlying35 (.int .i64 0) 8 info3_ rfl (by decide) (by omega) (0 : Int) (ok := fun k => k = wo.heap.size + 1) (okp := fun _ => False) rfl (fun _ hk => hk.elim) (by simp) (by omega) (by omega) (Below.refl _ _) HBB.out.size ?_; intro vA wA hA hbA hgA hkA; obtain ⟨cA, rfl⟩ := at_form hA hkA; have HQA := Aside0.mk (Kd.Q_of_R hA); have HBA := Aside0.mk (HBB.out.trans hbA); have HKA := Aside0.mk (Kept.of_grown hgA HKB.out (fun k hk => by cases hk)); have HSA := Aside0.mk (Kd.S_mono (Kd.S_grown (Kd.S_bound HSB2.out) hgA (fun k _ => by simp)) (fun k hk => (⟨hk.1, by have h1 := hk.2.2.1; simp at h1; omega⟩ : (ok k ∨ w.heap.size ≤ k) ∧ k ≠ wo.heap.size + 1))); have HGA := Aside0.mk (blk_grown HGB.out hgA (by simp)); have c0 : wA.cell? ⟨wo.heap.size, 0, none⟩ = some (.slice A2 b.length c2) := (blk_cell HGA.out 0).trans rfl; clear hA hbA hgA hkA)
   rw [show (List.replicate ((b.length : Int)).toNat (0 : Int)).length = b.length from by simp] at HQA
   have HSZ : Aside0 (w.heap.size ≤ wo.heap.size) := ⟨HK.out.1⟩
   clear c0
   go_loopg [0, 31] b.length (fun kq v0 v31 w' => ∃ (q : Nat) (o2 : List ItemK) (nums : List Int), q + kq = b.length ∧ v31 = .int .i64 q ∧ Aside0 (nums.length = q) ∧ Aside0 (∀ m ∈ nums, 0 ≤ m ∧ m < (o2.length : Int)) ∧ Aside0 (flNodes inn i out [] b = flNodes inn i o2 nums (b.drop q)) ∧ Aside0 (Below w0.heap.size w0 w') ∧ Aside0 (Kept w w' ok) ∧
    Aside0 (Kd.S k37 37 w' w0.heap.size (fun k => (ok k ∨ w.heap.size ≤ k) ∧ k ≠ wo.heap.size + 1) v0 o2) ∧ Aside0 (Kd.Q (Kd.int .i64) 3 w' w0.heap.size (fun k => k = wo.heap.size + 1) (.slice (some ⟨wo.heap.size + 1, 0, none⟩) b.length cA) (nums ++ List.replicate (b.length - q) 0)) ∧
    Aside0 (w'.heap[wo.heap.size]? = some (.cells #[.slice A2 b.length c2] 82 (0, 0))) ∧ Aside0 (Bnd (N + wAlts (l.take i) + aNodes (b.take q)) o2))
   case atStart => exact ⟨0, out, [], by omega, rfl, ⟨rfl⟩, ⟨fun m hm => by cases hm⟩, ⟨rfl⟩, HBA, HKA, HSA, by simpa using HQA, HGA, ⟨by simpa [aNodes] using HN.out⟩⟩
   case round =>
    obtain ⟨w1, hw1⟩ : ∃ x, x = wr := ⟨_, rfl⟩
    subst hw1
    obtain ⟨q, o2, nums, hq, rfl, HNL, HNM, HI3, HB1, HK1, HS1, HQ1, HG1, HN1⟩ := hrel
    obtain ⟨A3, c3, rfl⟩ := Kd.S_slice HS1.out
    cases gk with
    | zero =>
     obtain rfl : q = b.length := by omega
     have HFE : Aside0 (flNodes inn i out [] b = (o2, nums)) := ⟨by rw [HI3.out, List.drop_eq_nil_of_le (Nat.le_refl _)]; simp [flNodes]⟩
     rw [Nat.sub_self, List.replicate_zero, List.append_nil] at HQ1
     have HN1' : Aside0 (Bnd (N + wAlts (l.take i) + aNodes b) o2) := ⟨by have := HN1.out; rwa [List.take_length] at this⟩
     have c0 : w1.cell? ⟨wo.heap.size, 0, none⟩ = some (.slice A2 b.length c2) := (blk_cell HG1.out 0).trans rfl
     go_wp2
     clear c0
     go_loopg [70] b.length (fun kq v70 w' => ∃ (q : Nat) (o3 : List ItemK), q + kq = b.length ∧ v70 = .int .i64 q ∧ Aside0 (o3.length = o2.length) ∧ Aside0 (pass2 b nums 0 b o2 = pass2 b nums q (b.drop q) o3) ∧ Aside0 (Below w0.heap.size w0 w') ∧ Aside0 (Kept w w' ok) ∧
      Aside0 (Kd.S k37 37 w' w0.heap.size (fun k => (ok k ∨ w.heap.size ≤ k) ∧ k ≠ wo.heap.size + 1) (.slice A3 o2.length c3) o3) ∧ Aside0 (Kd.Q (Kd.int .i64) 3 w' w0.heap.size (fun k => k = wo.heap.size + 1) (.slice (some ⟨wo.heap.size + 1, 0, none⟩) b.length cA) nums) ∧
      Aside0 (w'.heap[wo.heap.size]? = some (.cells #[.slice A2 b.length c2] 82 (0, 0))) ∧ Aside0 (Bnd (N + wAlts (l.take i) + aNodes b + sAf (b.take q)) o3))
     case atStart => exact ⟨0, o2, by omega, rfl, ⟨rfl⟩, ⟨rfl⟩, HB1, HK1, HS1, HQ1, HG1, ⟨by simpa [sAf] using HN1'.out⟩⟩
     case round =>
      obtain ⟨w2, hw2⟩ : ∃ x, x = wr := ⟨_, rfl⟩
      subst hw2
      obtain ⟨q, o3, hq, rfl, HO3, HP3, HB2, HK2, HS2, HQ2, HG2, HN2⟩ := hrel
      cases gk with
      | zero =>
       obtain rfl : q = b.length := by omega
       have HE3 : Aside0 (pass2 b nums 0 b o2 = o3) := ⟨by rw [HP3.out, List.drop_eq_nil_of_le (Nat.le_refl _)]; rfl⟩
       go_wp2
       go_roundg k
       case measure => omega
       case rel => exact ⟨i + 1, o3, by have := HI2.out; omega, by first | exact HNX.out | go_num, HB2, HK2, ⟨HN2.out.mono (by have h1 := HWT.out; have h2 := wNodes_eq b; rw [List.take_length]; omega)⟩, ⟨by rw [HI.out, HD.out, HFE.out, HE3.out]; rfl⟩, ⟨Kd.S_mono HS2.out (fun _ hk => hk.1)⟩⟩
      | succ k2 =>
       have hltq : q < b.length := by omega
       obtain ⟨adn, Af, cf, Aal, cal, en, y0, y1, y2, y3, y4, y5, lf, gf, lal, gal⟩ := at_T79 HCB.out (q : Int) (by omega) (by omega)
       subst en
       rw [Int.toNat_natCast] at y0 y1 y2 y3 y4 y5
       replace y0 := (HB2.out.cell (World.block_lt_of_cell? w0 _ y0)).trans y0
       replace y1 := (HB2.out.cell (World.block_lt_of_cell? w0 _ y1)).trans y1
       replace y2 := (HB2.out.cell (World.block_lt_of_cell? w0 _ y2)).trans y2
       replace y3 := (HB2.out.cell (World.block_lt_of_cell? w0 _ y3)).trans y3
       replace y4 := (HB2.out.cell (World.block_lt_of_cell? w0 _ y4)).trans y4
       replace y5 := (HB2.out.cell (World.block_lt_of_cell? w0 _ y5)).trans y5
       have hrq : rd_T79 b (q : Int) = b[q] := by unfold rd_T79; rw [Int.toNat_natCast, List.getD_eq_getElem?_getD, List.getElem?_eq_getElem hltq]; rfl
       rw [hrq] at y0 y1 y2 y3 y4 y5 lf gf lal gal
       have HSN : Aside0 (∀ s ∈ b[q].f2, 0 ≤ namedI b s ∧ namedI b s < (b.length : Int)) := ⟨HNB.out.2 _ (List.getElem_mem hltq)⟩
       have HPD : Aside0 (pass2 b nums q (b.drop q) o3 = pass2 b nums (q + 1) (b.drop (q + 1)) (arcsTo b nums (rd nums (q : Int)) b[q].f2 o3)) := ⟨by rw [List.drop_eq_getElem_cons hltq]; rfl⟩
       have HST : Aside0 (sAf (b.take (q + 1)) = sAf (b.take q) + b[q].f2.length) := ⟨sAf_take b q hltq⟩
       have HLIM : Aside0 (N + wAlts (l.take i) + aNodes b + sAf (b.take (q + 1)) ≤ 1000000) := ⟨by have h1 := sAf_le b (q + 1); have h2 := wNodes_eq b; have h3 := HWT.out; have h4 := HWL.out; omega⟩
       have HRD : Aside0 (0 ≤ rd nums (q : Int) ∧ rd nums (q : Int) < (o2.length : Int)) := ⟨by have := HNM.out (nums[q]'(by have := HNL.out; omega)) (List.getElem_mem _); unfold rd; rw [Int.toNat_natCast, List.getD_eq_getElem?_getD, List.getElem?_eq_getElem (by have := HNL.out; omega)]; exact this⟩
       obtain ⟨⟨nm, un, af, sb, vi, al⟩, hxx⟩ : ∃ x, b[q] = x := ⟨_, rfl⟩
       simp only [hxx] at y0 y1 y2 y3 y4 y5 lf gf lal gal HSN HPD HST
       have HAFC := Aside0.mk gf
       have HLF := Aside0.mk lf
       have hmf := Kd.C_max gf
       have hq0 : (0 : Int) ≤ (q : Int) := by omega
       have hq1 : (q : Int) < (b.length : Int) := by omega
       have HQN := Aside0.mk hq
       have HNX2 : Aside0 (Value.int .i64 (wrap64 ((q : Int) + 1)) = .int .i64 ((q + 1 : Nat) : Int)) := ⟨by rw [show wrap64 ((q : Int) + 1) = ((q + 1 : Nat) : Int) from by unfold wrap64; omega]⟩
       obtain ⟨an, han⟩ : ∃ an : Nat, rd nums (q : Int) = (an : Int) := ⟨(rd nums (q : Int)).toNat, by have := HRD.out; omega⟩
       have HAN := Aside0.mk han
       have HANL : Aside0 (an < o2.length) := ⟨by have h1 := HRD.out.2; rw [han] at h1; omega⟩
       have HB3 := Aside0.mk (HB2.out.alloc HB2.out.size (.cells #[.string nm, .string un, .slice Af af.length cf, .bool sb, .bool vi, .slice Aal al.length cal] 79 (0, 0)))
       have HK3 := Aside0.mk (HK2.out.alloc (.cells #[.string nm, .string un, .slice Af af.length cf, .bool sb, .bool vi, .slice Aal al.length cal] 79 (0, 0)))
       have HS3 := Aside0.mk (Kd.S_alloc HS2.out (.cells #[.string nm, .string un, .slice Af af.length cf, .bool sb, .bool vi, .slice Aal al.length cal] 79 (0, 0)))
       have HQ3 := Aside0.mk (Kd.Q_below HQ2.out ((Below.refl _ _).alloc (Nat.le_refl _) (.cells #[.string nm, .string un, .slice Af af.length cf, .bool sb, .bool vi, .slice Aal al.length cal] 79 (0, 0))))
       have HG3 := Aside0.mk (blk_alloc HG2.out (.cells #[.string nm, .string un, .slice Af af.length cf, .bool sb, .bool vi, .slice Aal al.length cal] 79 (0, 0)))
       clear hrq hxx gf lf gal lal hq han
       go_wp2
       go_loopg [78] af.length (fun kq v78 w' => ∃ (r : Nat) (o4 : List ItemK), r + kq = af.length ∧ v78 = .int .i64 r ∧ Aside0 (o4.length = o2.length) ∧ Aside0 (arcsTo b nums (rd nums (q : Int)) af o3 = arcsTo b nums (rd nums (q : Int)) (af.drop r) o4) ∧ Aside0 (Below w0.heap.size w0 w') ∧ Aside0 (Kept w w' ok) ∧
        Aside0 (Kd.S k37 37 w' w0.heap.size (fun k => (ok k ∨ w.heap.size ≤ k) ∧ k ≠ wo.heap.size + 1) (.slice A3 o2.length c3) o4) ∧ Aside0 (Kd.Q (Kd.int .i64) 3 w' w0.heap.size (fun k => k = wo.heap.size + 1) (.slice (some ⟨wo.heap.size + 1, 0, none⟩) b.length cA) nums) ∧
        Aside0 (w'.heap[wo.heap.size]? = some (.cells #[.slice (some adn) b.length c2] 82 (0, 0))) ∧ Aside0 (Bnd (N + wAlts (l.take i) + aNodes b + sAf (b.take q) + r) o4))
       case atStart => exact ⟨0, o3, by omega, rfl, HO3, ⟨rfl⟩, HB3, HK3, HS3, HQ3, HG3, HN2⟩
       case round =>
        obtain ⟨w3, hw3⟩ : ∃ x, x = wr := ⟨_, rfl⟩
        subst hw3
        obtain ⟨r, o4, hr, rfl, HO4, HP4, HB4, HK4, HS4, HQ4, HG4, HN4⟩ := hrel
        cases gk with
        | zero =>
         obtain rfl : r = af.length := by omega
         have HE4 : Aside0 (arcsTo b nums (rd nums (q : Int)) af o3 = o4) := ⟨by rw [HP4.out, List.drop_eq_nil_of_le (Nat.le_refl _)]; rfl⟩
         go_wp2
         go_roundg k2
         case measure => omega
         case rel => exact ⟨q + 1, o4, by have := HQN.out; omega, by first | exact HNX2.out | go_num, HO4, ⟨by rw [HP3.out, HPD.out, HE4.out]⟩, HB4, HK4, HS4, HQ4, HG4, ⟨HN4.out.mono (by have := HST.out; omega)⟩⟩
        | succ k3 =>
         have hltr : r < af.length := by omega
         obtain ⟨gO, cO, oki, v7, cs7, ev, hc7, hf7, hR7, hoki, hokg, hglt, rfl, hH7⟩ := itm_get HS4.out (a := an) (by have h1 := HANL.out; have h2 := HO4.out; omega)
         rw [HO4.out] at ev hH7
         injection ev with e1 e2 e3
         subst e1
         subst e3
         clear e2
         obtain ⟨A7, c7, rfl⟩ := Kd.R_slice hR7
         obtain ⟨ads, es, z0⟩ := Kd.at_string HAFC.out (r : Int) (by omega) (by omega)
         subst es
         rw [Int.toNat_natCast] at z0
         replace z0 := (HB4.out.cell (World.block_lt_of_cell? w0 _ z0)).trans z0
         have hrs : rdOf ByteArray.empty af (r : Int) = af[r] := by unfold rdOf; rw [Int.toNat_natCast, List.getD_eq_getElem?_getD, List.getElem?_eq_getElem hltr]; rfl
         rw [hrs] at z0
         have HPE : Aside0 (arcsTo b nums (rd nums (q : Int)) (af.drop r) o4 = arcsTo b nums (rd nums (q : Int)) (af.drop (r + 1)) (addAfter o4 (rd nums (q : Int)) (rd nums (namedI b af[r])))) := ⟨by rw [List.drop_eq_getElem_cons hltr]; rfl⟩
         have HSI := Aside0.mk (HSN.out _ (List.getElem_mem hltr))
         obtain ⟨s, hss⟩ : ∃ s, af[r] = s := ⟨_, rfl⟩
         rw [hss] at z0 HPE HSI
         obtain ⟨kn, hkn⟩ : ∃ kn : Nat, namedI b s = (kn : Int) := ⟨(namedI b s).toNat, by have := HSI.out; omega⟩
         have HKN := Aside0.mk hkn
         have HKNL : Aside0 (kn < b.length) := ⟨by have h1 := HSI.out.2; rw [hkn] at h1; omega⟩
         have HNM4 := Aside0.mk (fun (W : World) (h : Kd.C k79 W (some adn) b.length b) => named_walk (some adn) c2 b s W h)
         rw [hkn] at HNM4
         have HR7 := Aside0.mk hR7
         have HOKI := Aside0.mk hoki
         have HOKG := Aside0.mk hokg
         have HBGO := Aside0.mk hglt
         have HH7 := Aside0.mk hH7
         have HC7 := Aside0.mk hc7
         have HF7 := Aside0.mk hf7
         have HRN := Aside0.mk hr
         have hr0 : (0 : Int) ≤ (r : Int) := by omega
         have hr1 : (r : Int) < (af.length : Int) := by omega
         have hk0 : (0 : Int) ≤ (kn : Int) := by omega
         have hk1 : (kn : Int) < (b.length : Int) := by have := HKNL.out; omega
         have ha0 : (0 : Int) ≤ (an : Int) := by omega
         have ha1 : (an : Int) < (o2.length : Int) := by have h1 := HANL.out; omega
         have c0 : w3.cell? ⟨wo.heap.size, 0, none⟩ = some (.slice (some adn) b.length c2) := (blk_cell HG4.out 0).trans rfl
         have HNX3 : Aside0 (Value.int .i64 (wrap64 ((r : Int) + 1)) = .int .i64 ((r + 1 : Nat) : Int)) := ⟨by rw [show wrap64 ((r : Int) + 1) = ((r + 1 : Nat) : Int) from by unfold wrap64; omega]⟩
         clear hrs hss hkn hR7 hoki hokg hH7 hc7 hf7 hglt hr
         go_wp2_with (go_at_call 62; (with_reducible refine (HNM4.out _ (Kd.C_below HCB.out HB4.out)).mono ?_); rintro e w4 ⟨rfl, hb4⟩; have HB5 := Aside0.mk hb4; clear hb4 c0 z0)
         have HB6 := Aside0.mk (HB4.out.trans (HB5.out.mono HB4.out.size))
         have HQ6 := Aside0.mk (Kd.Q_below HQ4.out HB5.out)
         have HCO5 : Aside0 (w4.drew.cell? ⟨gO, an * 8 + 7, none⟩ = some (.slice A7 (rd_T37 o4 (an : Int)).f7.length c7)) := ⟨(HB5.out.cell (World.block_lt_of_cell? _ _ HC7.out)).trans HC7.out⟩
         have HFO5 : Aside0 (w4.drew.frozen? ⟨gO, an * 8 + 7, none⟩ = false) := ⟨frozen_below HB5.out HC7.out HF7.out⟩
         have HCA5 : Aside0 (w4.drew.cell? ⟨wo.heap.size + 1, q, none⟩ = some (.int .i64 an)) := ⟨by have h := (Kd.Q_cell (0 : Int) (Q_drew_ HQ6.out) (q : Int) (by omega) (by omega)).1; rw [Int.toNat_natCast, Nat.zero_add] at h; rw [h, show rdOf (0 : Int) nums (q : Int) = (an : Int) from HAN.out]⟩
         have HCK5 : Aside0 (w4.drew.cell? ⟨wo.heap.size + 1, kn, none⟩ = some (.int .i64 (rd nums (kn : Int)))) := ⟨by have h := (Kd.Q_cell (0 : Int) (Q_drew_ HQ6.out) (kn : Int) (by omega) (by omega)).1; rw [Int.toNat_natCast, Nat.zero_add] at h; rw [h]; rfl⟩
         have HL7 : Aside0 (((rd_T37 o4 (an : Int)).f7.length + 1) * 8 ≤ 140737488355328) := ⟨by have h1 := HN4.out.2 (rd_T37 o4 (an : Int)) (by unfold rd_T37; rw [Int.toNat_natCast, List.getD_eq_getElem?_getD, List.getElem?_eq_getElem (by have h1 := HANL.out; have h2 := HO4.out; omega)]; exact List.getElem_mem _); have h2 := HLIM.out; have h3 := HST.out; have h4 := HRN.out; omega⟩
         --MARK19
         refine start_ (n := 22) (S := fun w' => w'.cell? ⟨wo.heap.size + 1, q, none⟩ = some (.int .i64 an) ∧ w'.cell? ⟨wo.heap.size + 1, kn, none⟩ = some (.int .i64 (rd nums (kn : Int))) ∧ w'.cell? ⟨gO, an * 8 + 7, none⟩ = some (.slice A7 (rd_T37 o4 (an : Int)).f7.length c7)) (ds := [21]) #[false, false, false, false, false, false, false, false, false, false, false, false, false, false, false, false, false, false, false, false, false, false] (by kernel_rfl) rfl rfl ⟨HCA5.out, HCK5.out, HCO5.out⟩ (fun hHeld => ?_)
         refine pure_ (i := 0) (N := some 85) (v := ?_) (a' := ?_) #[true, false, false, false, false, false, false, false, false, false, false, false, false, false, false, false, false, false, false, false, false, false] rfl rfl (by kernel_rfl) (fun _ _ _ h => h) (Or.inl ⟨by rfl, ?_⟩) ?_ ?_
         rotate_left
         ·intro w'
          go_simp
          with_reducible rfl
         rotate_left
         ·simp only [Act.put, List.setIfInBounds_toArray, List.set_cons_zero, List.set_cons_succ, i64_w, i32_w]
          rfl
         refine pure_ (i := 1) (N := some 86) (v := ?_) (a' := ?_) #[true, true, false, false, false, false, false, false, false, false, false, false, false, false, false, false, false, false, false, false, false, false] rfl rfl (by kernel_rfl) (fun _ _ _ h => h) (Or.inl ⟨by rfl, ?_⟩) ?_ ?_
         rotate_left
         ·intro w'
          go_simp
          with_reducible rfl
         rotate_left
         ·simp only [Act.put, List.setIfInBounds_toArray, List.set_cons_zero, List.set_cons_succ, i64_w, i32_w]
          rfl
         refine pure_ (i := 2) (N := some 87) (v := ?_) (a' := ?_) #[true, true, true, false, false, false, false, false, false, false, false, false, false, false, false, false, false, false, false, false, false, false] rfl rfl (by kernel_rfl) (fun _ _ _ h => h) (Or.inl ⟨by rfl, ?_⟩) ?_ ?_
         rotate_left
         ·intro w'
          go_simp
          with_reducible rfl
         rotate_left
         ·simp only [Act.put, List.setIfInBounds_toArray, List.set_cons_zero, List.set_cons_succ, i64_w, i32_w]
          rfl
         refine pure_ (i := 3) (N := some 88) (v := ?_) (a' := ?_) #[true, true, true, true, false, false, false, false, false, false, false, false, false, false, false, false, false, false, false, false, false, false] rfl rfl (by kernel_rfl) (fun _ _ _ h => h) (Or.inl ⟨by rfl, ?_⟩) ?_ ?_
         rotate_left
         ·intro w'
          go_simp
          with_reducible rfl
         rotate_left
         ·simp only [Act.put, List.setIfInBounds_toArray, List.set_cons_zero, List.set_cons_succ, i64_w, i32_w]
          rfl
         refine pure_ (i := 5) (N := some 90) (v := ?_) (a' := ?_) #[true, true, true, true, false, true, false, false, false, false, false, false, false, false, false, false, false, false, false, false, false, false] rfl rfl (by kernel_rfl) (fun _ _ _ h => h) (Or.inl ⟨by rfl, ?_⟩) ?_ ?_
         rotate_left
         ·intro w'
          go_simp
          with_reducible rfl
         rotate_left
         ·simp only [Act.put, List.setIfInBounds_toArray, List.set_cons_zero, List.set_cons_succ, i64_w, i32_w]
          rfl
         refine pure_ (i := 6) (N := some 91) (v := ?_) (a' := ?_) #[true, true, true, true, false, true, true, false, false, false, false, false, false, false, false, false, false, false, false, false, false, false] rfl rfl (by kernel_rfl) (fun _ _ _ h => h) (Or.inl ⟨by rfl, ?_⟩) ?_ ?_
         rotate_left
         ·intro w'
          go_simp
          with_reducible rfl
         rotate_left
         ·simp only [Act.put, List.setIfInBounds_toArray, List.set_cons_zero, List.set_cons_succ, i64_w, i32_w]
          rfl
         refine pure_ (i := 7) (N := some 92) (v := ?_) (a' := ?_) #[true, true, true, true, false, true, true, true, false, false, false, false, false, false, false, false, false, false, false, false, false, false] rfl rfl (by kernel_rfl) (fun _ _ _ h => h) (Or.inl ⟨by rfl, ?_⟩) ?_ ?_
         rotate_left
         ·intro w'
          go_simp
          with_reducible rfl
         rotate_left
         ·simp only [Act.put, List.setIfInBounds_toArray, List.set_cons_zero, List.set_cons_succ, i64_w, i32_w]
          rfl
         refine pure_ (i := 8) (N := some 93) (v := ?_) (a' := ?_) #[true, true, true, true, false, true, true, true, true, false, false, false, false, false, false, false, false, false, false, false, false, false] rfl rfl (by kernel_rfl) (fun _ _ _ h => h) (Or.inl ⟨by rfl, ?_⟩) ?_ ?_
         rotate_left
         ·intro w'
          go_simp
          with_reducible rfl
         rotate_left
         ·simp only [Act.put, List.setIfInBounds_toArray, List.set_cons_zero, List.set_cons_succ, i64_w, i32_w]
          rfl
         refine pure_ (i := 13) (N := some 98) (v := ?_) (a' := ?_) #[true, true, true, true, false, true, true, true, true, false, false, false, false, true, false, false, false, false, false, false, false, false] rfl rfl (by kernel_rfl) (fun _ _ _ h => h) (Or.inl ⟨by rfl, ?_⟩) ?_ ?_
         rotate_left
         ·intro w'
          go_simp
          with_reducible rfl
         rotate_left
         ·simp only [Act.put, List.setIfInBounds_toArray, List.set_cons_zero, List.set_cons_succ, i64_w, i32_w]
          rfl
         refine pure_ (i := 14) (N := some 99) (v := ?_) (a' := ?_) #[true, true, true, true, false, true, true, true, true, false, false, false, false, true, true, false, false, false, false, false, false, false] rfl rfl (by kernel_rfl) (fun _ _ _ h => h) (Or.inl ⟨by rfl, ?_⟩) ?_ ?_
         rotate_left
         ·intro w'
          go_simp
          with_reducible rfl
         rotate_left
         ·simp only [Act.put, List.setIfInBounds_toArray, List.set_cons_zero, List.set_cons_succ, i64_w, i32_w]
          rfl
         refine pure_ (i := 15) (N := some 100) (v := ?_) (a' := ?_) #[true, true, true, true, false, true, true, true, true, false, false, false, false, true, true, true, false, false, false, false, false, false] rfl rfl (by kernel_rfl) (fun _ _ _ h => h) (Or.inl ⟨by rfl, ?_⟩) ?_ ?_
         rotate_left
         ·intro w'
          go_simp
          with_reducible rfl
         rotate_left
         ·simp only [Act.put, List.setIfInBounds_toArray, List.set_cons_zero, List.set_cons_succ, i64_w, i32_w]
          rfl
         refine take_ (i := 4) (N := some 89) (v := ?_) (a' := ?_) #[true, true, true, true, true, true, true, true, true, false, false, false, false, true, true, true, false, false, false, false, false, false] rfl rfl (by kernel_rfl) (fun _ _ _ h => h) (Or.inl ⟨by rfl, ?_⟩) hHeld ?_ ?_
         rotate_left
         ·rintro w' ⟨s0, s1, s2⟩
          go_simp
          with_reducible rfl
         rotate_left
         ·simp only [Act.put, List.setIfInBounds_toArray, List.set_cons_zero, List.set_cons_succ, i64_w, i32_w]
          rfl
         refine take_ (i := 9) (N := some 94) (v := ?_) (a' := ?_) #[true, true, true, true, true, true, true, true, true, true, false, false, false, true, true, true, false, false, false, false, false, false] rfl rfl (by kernel_rfl) (fun _ _ _ h => h) (Or.inl ⟨by rfl, ?_⟩) hHeld ?_ ?_
         rotate_left
         ·rintro w' ⟨s0, s1, s2⟩
          go_simp
          with_reducible rfl
         rotate_left
         ·simp only [Act.put, List.setIfInBounds_toArray, List.set_cons_zero, List.set_cons_succ, i64_w, i32_w]
          rfl
         refine pure_ (i := 10) (N := some 95) (v := ?_) (a' := ?_) #[true, true, true, true, true, true, true, true, true, true, true, false, false, true, true, true, false, false, false, false, false, false] rfl rfl (by kernel_rfl) (fun _ _ _ h => h) (Or.inl ⟨by rfl, ?_⟩) ?_ ?_
         rotate_left
         ·intro w'
          go_simp
          with_reducible rfl
         rotate_left
         ·simp only [Act.put, List.setIfInBounds_toArray, List.set_cons_zero, List.set_cons_succ, i64_w, i32_w]
          rfl
         refine pure_ (i := 11) (N := some 96) (v := ?_) (a' := ?_) #[true, true, true, true, true, true, true, true, true, true, true, true, false, true, true, true, false, false, false, false, false, false] rfl rfl (by kernel_rfl) (fun _ _ _ h => h) (Or.inl ⟨by rfl, ?_⟩) ?_ ?_
         rotate_left
         ·intro w'
          go_simp
          with_reducible rfl
         rotate_left
         ·simp only [Act.put, List.setIfInBounds_toArray, List.set_cons_zero, List.set_cons_succ, i64_w, i32_w]
          rfl
         refine take_ (i := 12) (N := some 97) (v := ?_) (a' := ?_) #[true, true, true, true, true, true, true, true, true, true, true, true, true, true, true, true, false, false, false, false, false, false] rfl rfl (by kernel_rfl) (fun _ _ _ h => h) (Or.inl ⟨by rfl, ?_⟩) hHeld ?_ ?_
         rotate_left
         ·rintro w' ⟨s0, s1, s2⟩
          go_simp
          with_reducible rfl
         rotate_left
         ·simp only [Act.put, List.setIfInBounds_toArray, List.set_cons_zero, List.set_cons_succ, i64_w, i32_w]
          rfl
         refine take_ (i := 16) (N := some 101) (v := ?_) (a' := ?_) #[true, true, true, true, true, true, true, true, true, true, true, true, true, true, true, true, true, false, false, false, false, false] rfl rfl (by kernel_rfl) (fun _ _ _ h => h) (Or.inl ⟨by rfl, ?_⟩) hHeld ?_ ?_
         rotate_left
         ·rintro w' ⟨s0, s1, s2⟩
          go_simp
          with_reducible rfl
         rotate_left
         ·simp only [Act.put, List.setIfInBounds_toArray, List.set_cons_zero, List.set_cons_succ, i64_w, i32_w]
          rfl
         refine one_ (i := 17) (N := some 102) #[true, true, true, true, true, true, true, true, true, true, true, true, true, true, true, true, true, true, false, false, false, false] rfl rfl (by kernel_rfl) (by decide) (fun K hK => ?_)
         refine value_ (w1 := ?_) (v := ?_) (by rfl) rfl ?_ ?_
         rotate_left 2
         ·go_simp
          constructor
          ·rfl
          ·rfl
         refine hK.out _ _ ⟨(cell_al hHeld.1), (cell_al hHeld.2.1), (cell_al hHeld.2.2)⟩ (fun hHeld => ?_)
         clear hK K
         refine norm_ (a' := ?_) ?_ ?_
         rotate_left
         ·show Act.put _ (some 102) _ = _
          simp only [Act.put, List.setIfInBounds_toArray, List.set_cons_zero, List.set_cons_succ, i64_w, i32_w]
          rfl
         refine one_ (i := 18) (N := some 103) #[true, true, true, true, true, true, true, true, true, true, true, true, true, true, true, true, true, true, true, false, false, false] rfl rfl (by kernel_rfl) (by decide) (fun K hK => ?_)
         refine Kd.R_append_step (Kd.int .i64) (w0 := w4.drew) w0.heap.size (by rfl) (.tmp 97) (.tmp 102) 35 3 (.int .i64 0) 8 rfl Try.underlying35 info3_ rfl (by decide) (by omega) (.slice A7 (rd_T37 o4 (an : Int)).f7.length c7) (rd_T37 o4 (an : Int)).f7 (rd nums (kn : Int)) [.int .i64 (rd nums (kn : Int))] (fun k => oki k ∨ w4.drew.heap.size ≤ k) (fun _ => False) rfl rfl rfl (fun _ hk => hk.elim) (fun k hk => .inr hk) (Kd.R_drew (Kd.R_mono (Kd.R_below HR7.out HB5.out) (fun _ hk => .inl hk))) (Below.refl _ _) HB6.out.size HL7.out ?_
         intro v1 w9 hR9 hb9 hg9 hat9
         obtain ⟨A9, c9, e9⟩ := Kd.R_slice hR9
         rw [List.length_append] at e9
         have e8 : v1 = .slice A9 ((rd_T37 o4 (an : Int)).f7.length + 1) c9 := e9
         subst e8
         clear e9
         have HB9 := Aside0.mk hb9
         have HR9 := Aside0.mk hR9
         have HG9 := Aside0.mk hg9
         have HNA : Aside0 (some (wo.heap.size + 1) ≠ (Value.slice A7 (rd_T37 o4 (an : Int)).f7.length c7).ownBlock) := ⟨fun e => (HOKI.out _ (HR7.out.1 _ e.symm)).1.2 rfl⟩
         have HNO : Aside0 (some gO ≠ (Value.slice A7 (rd_T37 o4 (an : Int)).f7.length c7).ownBlock) := ⟨fun e => (HOKI.out _ (HR7.out.1 _ e.symm)).2 rfl⟩
         have q9 := cell_grown hg9 HCO5.out HNO.out
         have f9 := frozen_grown hg9 HCO5.out HFO5.out HNO.out
         clear hb9 hg9 hat9 hR9
         refine hK.out _ _ ⟨(cell_grown HG9.out HCA5.out HNA.out), (cell_grown HG9.out HCK5.out HNA.out), q9⟩ (fun hHeld => ?_)
         clear hK K
         refine norm_ (a' := ?_) ?_ ?_
         rotate_left
         ·show Act.put _ (some 103) _ = _
          simp only [Act.put, List.setIfInBounds_toArray, List.set_cons_zero, List.set_cons_succ, i64_w, i32_w]
          rfl
         refine pure_ (i := 19) (N := some 104) (v := ?_) (a' := ?_) #[true, true, true, true, true, true, true, true, true, true, true, true, true, true, true, true, true, true, true, true, false, false] rfl rfl (by kernel_rfl) (fun _ _ _ h => h) (Or.inl ⟨by rfl, ?_⟩) ?_ ?_
         rotate_left
         ·intro w'
          go_simp
          with_reducible rfl
         rotate_left
         ·simp only [Act.put, List.setIfInBounds_toArray, List.set_cons_zero, List.set_cons_succ, i64_w, i32_w]
          rfl
         refine pure_ (i := 20) (N := some 105) (v := ?_) (a' := ?_) #[true, true, true, true, true, true, true, true, true, true, true, true, true, true, true, true, true, true, true, true, true, false] rfl rfl (by kernel_rfl) (fun _ _ _ h => h) (Or.inl ⟨by rfl, ?_⟩) ?_ ?_
         rotate_left
         ·intro w'
          go_simp
          with_reducible rfl
         rotate_left
         ·simp only [Act.put, List.setIfInBounds_toArray, List.set_cons_zero, List.set_cons_succ, i64_w, i32_w]
          rfl
         refine last_ (i := 21) (N := none) #[true, true, true, true, true, true, true, true, true, true, true, true, true, true, true, true, true, true, true, true, true, true] rfl rfl (by kernel_rfl) (by decide) (fun K hK => ?_)
         refine skip_ (w1 := ?_) (by rfl) rfl ?_ ?_
         rotate_left
         ·go_simp
          rfl
         refine hK.out _ _ ?_
         clear hK K
         refine done_ (by kernel_rfl) ?_
         --END19
         go_wp2
         go_roundg k3
         case measure => omega
         case rel =>
          have hga : wo.heap.size + 1 < w4.heap.size := World.block_lt_of_cell? _ _ HCA5.out
          have hgb : some wo.heap.size ≠ (Value.slice (some ⟨gO, 0, none⟩) o2.length c3).ownBlock := Kd.S_ne HS4.out HG4.out (by decide)
          have hgb2 : wo.heap.size ≠ gO := fun e => hgb (by rw [e]; rfl)
          refine ⟨r + 1, addAfter o4 (an : Int) (rd nums (kn : Int)), by have := HRN.out; omega, by first | exact HNX3.out | go_num, ⟨by rw [addAfter_length]; exact HO4.out⟩, ⟨by rw [HP4.out, HPE.out, HAN.out, HKN.out]⟩, ⟨?_⟩, ⟨?_⟩, ⟨?_⟩, ⟨?_⟩, ⟨?_⟩, ⟨HN4.out.add (by rw [Int.toNat_natCast]; have h1 := HANL.out; have h2 := HO4.out; omega)⟩⟩
          ·exact (HB6.out.drew.trans HB9.out).setCell (p := ⟨gO, an * 8 + 7, none⟩) HBGO.out _
          ·exact (Kept.of_grown HG9.out (HK4.out.below HB5.out).drew (fun k hk => (HOKI.out k (HR7.out.1 k hk)).1.1)).setCell (p := ⟨gO, an * 8 + 7, none⟩) HOKG.out.1 _
          ·have hS := (itm_back (a := an) HANL.out (Kd.H_drew (Kd.H_below HH7.out HB5.out)) HG9.out HR7.out.1 (fun k hk => ⟨.inr (Nat.le_trans (HK4.out.below HB5.out).1 hk), by have h1 : w4.heap.size ≤ k := hk; omega⟩) HR9.out).1
           unfold addAfter
           rw [Int.toNat_natCast]
           exact hS
          ·exact Kd.Q_far (p := ⟨gO, an * 8 + 7, none⟩) (Kd.Q_step (Q_drew_ HQ6.out) (fun k hk hlt => HG9.out.block k hlt (fun e => HNA.out (by rw [← e, hk])))) (fun k hk => by show k ≠ gO; rw [hk]; intro e; exact HOKG.out.2 e.symm) _
          ·exact (Below.heap_setCell _ _ _ _ hgb2).trans (blk_grown (blk_drew (blk_below HG4.out HB5.out)) HG9.out (Kd.R_ne HR7.out HG4.out (by decide)))
    | succ k2 =>
     have hltq : q < b.length := by omega
     obtain ⟨adn, Af, cf, Aal, cal, en, y0, y1, y2, y3, y4, y5, lf, gf, lal, gal⟩ := at_T79 HCB.out (q : Int) (by omega) (by omega)
     subst en
     rw [Int.toNat_natCast] at y0 y1 y2 y3 y4 y5
     replace y0 := (HB1.out.cell (World.block_lt_of_cell? w0 _ y0)).trans y0
     replace y1 := (HB1.out.cell (World.block_lt_of_cell? w0 _ y1)).trans y1
     replace y2 := (HB1.out.cell (World.block_lt_of_cell? w0 _ y2)).trans y2
     replace y3 := (HB1.out.cell (World.block_lt_of_cell? w0 _ y3)).trans y3
     replace y4 := (HB1.out.cell (World.block_lt_of_cell? w0 _ y4)).trans y4
     replace y5 := (HB1.out.cell (World.block_lt_of_cell? w0 _ y5)).trans y5
     have hrq : rd_T79 b (q : Int) = b[q] := by unfold rd_T79; rw [Int.toNat_natCast, List.getD_eq_getElem?_getD, List.getElem?_eq_getElem hltq]; rfl
     rw [hrq] at y0 y1 y2 y3 y4 y5 lf gf lal gal
     have hbm := List.getElem_mem hltq
     have HXI := Aside0.mk (HIHB.out _ hbm)
     have HXC := Aside0.mk (HCH.out _ hbm)
     have HFN : Aside0 (flNodes inn i o2 nums (b.drop q) = flNodes inn i (flAlts (o2.length : Int) 0 (o2 ++ [⟨b[q].f0, b[q].f1, b[q].f3, b[q].f4, (b[q].f5.length : Int), inn, i, []⟩]) b[q].f5) (nums ++ [(o2.length : Int)]) (b.drop (q + 1))) := ⟨by rw [flNodes_drop inn i o2 nums b q hltq, flNode_eq]⟩
     have HAT : Aside0 (aNodes (b.take (q + 1)) = aNodes (b.take q) + (1 + wAlts b[q].f5)) := ⟨aNodes_take b q hltq⟩
     have HLIM : Aside0 (N + wAlts (l.take i) + aNodes (b.take (q + 1)) ≤ 1000000) := ⟨by have h1 := aNodes_le b (q + 1); have h2 := wNodes_eq b; have h3 := HWT.out; have h4 := HWL.out; omega⟩
     obtain ⟨⟨nm, un, af, sb, vi, al⟩, hxx⟩ : ∃ x, b[q] = x := ⟨_, rfl⟩
     simp only [hxx] at y0 y1 y2 y3 y4 y5 lf gf lal gal HXI HXC HFN HAT
     have HALC := Aside0.mk gal
     have HALL5 := Aside0.mk lal
     have hq0 : (0 : Int) ≤ (q : Int) := by omega
     have hq1 : (q : Int) < (b.length : Int) := by omega
     have HQN := Aside0.mk hq
     have hQc := Kd.Q_cell (0 : Int) HQ1.out (q : Int) (by omega) (by omega)
     rw [Int.toNat_natCast, Nat.zero_add] at hQc
     have hc1 := cell_al (o := (.cells #[.string nm, .string un, .slice Af af.length cf, .bool sb, .bool vi, .slice Aal al.length cal] 79 (0, 0))) hQc.1
     have hf1 := frozen_al (o := (.cells #[.string nm, .string un, .slice Af af.length cf, .bool sb, .bool vi, .slice Aal al.length cal] 79 (0, 0))) hQc.1 hQc.2
     have hlA : wo.heap.size + 1 < w1.heap.size := World.block_lt_of_cell? _ _ hQc.1
     have HLA := Aside0.mk hlA
     clear hrq hbm hxx gf lf gal lal hq hQc
     have HNX2 : Aside0 (Value.int .i64 (wrap64 ((q : Int) + 1)) = .int .i64 ((q + 1 : Nat) : Int)) := ⟨by rw [show wrap64 ((q : Int) + 1) = ((q + 1 : Nat) : Int) from by unfold wrap64; omega]⟩
     have HLO : Aside0 ((o2.length + 1) * 88 ≤ 140737488355328) := ⟨by have h1 := HN1.out.1; have h2 := HLIM.out; have h3 := HAT.out; omega⟩
     go_wp2_with (first
      | ((with_reducible refine gate_store (t := 3) (p := 40) rfl ?_); refine stop_ ?_))
     unfold Stop_
     refine store_event (t := 3) (p := 40) (v := ?vo) (w1 := ((w1.alloc (.cells #[.string nm, .string un, .slice Af af.length cf, .bool sb, .bool vi, .slice Aal al.length cal] 79)).setCell ⟨wo.heap.size + 1, q, none⟩ (.int .i64 o2.length))) ?hg ?ho ?hn ?hr ?_; (case ho => rfl); (case hg => rfl); (case hn => rfl); (case hr => first | (go_simp; done) | (go_simp; rfl)); intro w2 hw
     have HB2 : Aside0 (Below w0.heap.size w0 w2) := ⟨by rw [hw]; exact (HB1.out.alloc HB1.out.size _).setCell (p := ⟨wo.heap.size + 1, q, none⟩) (by have := HB.out.size; show w0.heap.size ≤ wo.heap.size + 1; omega) _⟩
     have HK2 : Aside0 (Kept w w2 ok) := ⟨by rw [hw]; exact (HK1.out.alloc _).setCell (p := ⟨wo.heap.size + 1, q, none⟩) (.inr (by have := HSZ.out; show w.heap.size ≤ wo.heap.size + 1; omega)) _⟩
     have HS2 : Aside0 (Kd.S k37 37 w2 w0.heap.size (fun k => (ok k ∨ w.heap.size ≤ k) ∧ k ≠ wo.heap.size + 1) (.slice A3 o2.length c3) o2) := ⟨by rw [hw]; exact Kd.S_far (p := ⟨wo.heap.size + 1, q, none⟩) (Kd.S_alloc HS1.out _) (fun _ hk => hk.2) _⟩
     have HQ2 : Aside0 (Kd.Q (Kd.int .i64) 3 w2 w0.heap.size (fun k => k = wo.heap.size + 1) (.slice (some ⟨wo.heap.size + 1, 0, none⟩) b.length cA) ((nums ++ [(o2.length : Int)]) ++ List.replicate (b.length - (q + 1)) 0)) := ⟨by rw [hw, ← ats_set nums o2.length b.length q HNL.out (by have := HQN.out; omega)]; have hp := (Kd.Q_putg (Kd.Q_below HQ1.out ((Below.refl _ _).alloc (Nat.le_refl _) (.cells #[.string nm, .string un, .slice Af af.length cf, .bool sb, .bool vi, .slice Aal al.length cal] 79 (0, 0)))) (q : Int) (by omega) (by have := HQN.out; omega) (o2.length : Int)).1; rw [Int.toNat_natCast, Nat.zero_add] at hp; exact hp⟩
     have HG2 : Aside0 (w2.heap[wo.heap.size]? = some (.cells #[.slice (some adn) b.length c2] 82 (0, 0))) := ⟨by rw [hw]; exact (Below.heap_setCell _ _ _ _ (by show wo.heap.size ≠ wo.heap.size + 1; omega)).trans (blk_alloc HG1.out _)⟩
     have HN2 : Aside0 (w2.heap[w1.heap.size]? = some (.cells #[.string nm, .string un, .slice Af af.length cf, .bool sb, .bool vi, .slice Aal al.length cal] 79 (0, 0))) := ⟨by rw [hw]; exact (Below.heap_setCell _ _ _ _ (by have := HLA.out; show w1.heap.size ≠ wo.heap.size + 1; omega)).trans (blk_new w1 _)⟩
     have HSZ2 : Aside0 (wo.heap.size + 1 < w2.heap.size) := ⟨by rw [hw]; have := HLA.out; simp [World.setCell]; omega⟩
     have n0 := (blk_cell HN2.out 0).trans rfl
     have n1 := (blk_cell HN2.out 1).trans rfl
     have n3 := (blk_cell HN2.out 3).trans rfl
     have n4 := (blk_cell HN2.out 4).trans rfl
     have n5 := (blk_cell HN2.out 5).trans rfl
     clear hw hc1 hf1
     go_wp2_with ((with_reducible refine gate_builtin (b := .append) (xs := #[.tmp 41, .tmp 56]) rfl ?_); at_builtin; refine stop_ ?_)
     unfold Stop_
     refine Kd.S_append k37 (w0 := w2) w0.heap.size rfl (.tmp 41) (.tmp 56) 22 37 (.agg #[.string ⟨#[]⟩, .string ⟨#[]⟩, .bool false, .bool false, .int .i64 0, .int .i64 0, .int .i64 0, .slice none 0 0]) 88 rfl Try.underlying22 info40_ rfl (by decide) (by omega) (.slice A3 o2.length c3) o2 ⟨nm, un, sb, vi, (al.length : Int), inn, i, []⟩ [.string nm, .string un, .bool sb, .bool vi, .int .i64 al.length, .int .i64 inn, .int .i64 i, .slice none 0 0] (fun k => (ok k ∨ w.heap.size ≤ k) ∧ k ≠ wo.heap.size + 1) (fun _ => False) rfl rfl (k37_mkM _ _ _ _ (Kd.R_nil _ _ _ _ _)) (fun _ hk => hk.elim) (fun k hk => ⟨.inr (Nat.le_trans HK2.out.1 hk), by have := HSZ2.out; omega⟩) (Kd.S_mono HS2.out (fun _ hk => ⟨hk, fun h => h⟩)) (Below.refl _ _) HB2.out.size HLO.out ?_
     intro v3 w3 hS3 hb3 hg3 hat3
     have HS3 := Aside0.mk hS3
     have HB3 := Aside0.mk (HB2.out.trans hb3)
     have HK3 := Aside0.mk (Kept.of_grown hg3 HK2.out (fun k hk => ((Kd.S_R HS2.out).1 k hk).1))
     have HG3 := Aside0.mk (blk_grown HG2.out hg3 (Kd.S_ne HS2.out HG2.out (by decide)))
     have HN3 := Aside0.mk (blk_grown HN2.out hg3 (Kd.S_ne HS2.out HN2.out (by decide)))
     have HQ3 := Aside0.mk (Kd.Q_step HQ2.out (fun k hk hlt => hg3.block k hlt (fun e => ((Kd.S_R HS2.out).1 k e.symm).2 hk)))
     have HSZ3 : Aside0 (w.heap.size ≤ w3.heap.size) := ⟨HK3.out.1⟩
     have HLA3 : Aside0 (wo.heap.size + 1 < w3.heap.size) := ⟨Nat.lt_of_lt_of_le HSZ2.out hb3.size⟩
     clear hS3 hb3 hg3 hat3 n0 n1 n3 n4 n5
     go_wp2
     obtain ⟨A4, c4, e4⟩ := Kd.S_slice HS3.out
     rw [List.length_append] at e4
     have e5 : v3 = .slice A4 (o2.length + 1) c4 := e4
     subst e5
     clear e4
     --MARK10
     refine start_ (n := 9) (S := fun w' => w'.cell? ⟨wo.heap.size + 1, q, none⟩ = some (.int .i64 o2.length) ∧ w'.cell? ⟨w1.heap.size, 5, none⟩ = some (.slice Aal al.length cal)) (ds := [7]) #[false, false, false, false, false, false, false, false, false] (by kernel_rfl) rfl rfl ⟨(at_cell HQ3.out HNL.out (by have := HQN.out; omega)), ((blk_cell (blk_drew HN3.out) 5).trans rfl)⟩ (fun hHeld => ?_)
     refine pure_ (i := 0) (N := some 58) (v := ?_) (a' := ?_) #[true, false, false, false, false, false, false, false, false] rfl rfl (by kernel_rfl) (fun _ _ _ h => h) (Or.inl ⟨by rfl, ?_⟩) ?_ ?_
     rotate_left
     ·intro w'
      go_simp
      with_reducible rfl
     rotate_left
     ·simp only [Act.put, List.setIfInBounds_toArray, List.set_cons_zero, List.set_cons_succ, i64_w, i32_w]
      rfl
     refine pure_ (i := 1) (N := some 59) (v := ?_) (a' := ?_) #[true, true, false, false, false, false, false, false, false] rfl rfl (by kernel_rfl) (fun _ _ _ h => h) (Or.inl ⟨by rfl, ?_⟩) ?_ ?_
     rotate_left
     ·intro w'
      go_simp
      with_reducible rfl
     rotate_left
     ·simp only [Act.put, List.setIfInBounds_toArray, List.set_cons_zero, List.set_cons_succ, i64_w, i32_w]
      rfl
     refine pure_ (i := 2) (N := some 60) (v := ?_) (a' := ?_) #[true, true, true, false, false, false, false, false, false] rfl rfl (by kernel_rfl) (fun _ _ _ h => h) (Or.inl ⟨by rfl, ?_⟩) ?_ ?_
     rotate_left
     ·intro w'
      go_simp
      with_reducible rfl
     rotate_left
     ·simp only [Act.put, List.setIfInBounds_toArray, List.set_cons_zero, List.set_cons_succ, i64_w, i32_w]
      rfl
     refine pure_ (i := 3) (N := some 61) (v := ?_) (a' := ?_) #[true, true, true, true, false, false, false, false, false] rfl rfl (by kernel_rfl) (fun _ _ _ h => h) (Or.inl ⟨by rfl, ?_⟩) ?_ ?_
     rotate_left
     ·intro w'
      go_simp
      with_reducible rfl
     rotate_left
     ·simp only [Act.put, List.setIfInBounds_toArray, List.set_cons_zero, List.set_cons_succ, i64_w, i32_w]
      rfl
     refine pure_ (i := 5) (N := some 63) (v := ?_) (a' := ?_) #[true, true, true, true, false, true, false, false, false] rfl rfl (by kernel_rfl) (fun _ _ _ h => h) (Or.inl ⟨by rfl, ?_⟩) ?_ ?_
     rotate_left
     ·intro w'
      go_simp
      with_reducible rfl
     rotate_left
     ·simp only [Act.put, List.setIfInBounds_toArray, List.set_cons_zero, List.set_cons_succ, i64_w, i32_w]
      rfl
     refine take_ (i := 4) (N := some 62) (v := ?_) (a' := ?_) #[true, true, true, true, true, true, false, false, false] rfl rfl (by kernel_rfl) (fun _ _ _ h => h) (Or.inl ⟨by rfl, ?_⟩) hHeld ?_ ?_
     rotate_left
     ·rintro w' ⟨s0, s1⟩
      go_simp
      with_reducible rfl
     rotate_left
     ·simp only [Act.put, List.setIfInBounds_toArray, List.set_cons_zero, List.set_cons_succ, i64_w, i32_w]
      rfl
     refine take_ (i := 6) (N := some 64) (v := ?_) (a' := ?_) #[true, true, true, true, true, true, true, false, false] rfl rfl (by kernel_rfl) (fun _ _ _ h => h) (Or.inl ⟨by rfl, ?_⟩) hHeld ?_ ?_
     rotate_left
     ·rintro w' ⟨s0, s1⟩
      go_simp
      with_reducible rfl
     rotate_left
     ·simp only [Act.put, List.setIfInBounds_toArray, List.set_cons_zero, List.set_cons_succ, i64_w, i32_w]
      rfl
     refine last_ (i := 7) (N := some 65) #[true, true, true, true, true, true, true, true, false] rfl rfl (by kernel_rfl) (by decide) (fun K hK => ?_)
     refine goes_ Try.func43 (by kernel_rfl) rfl #[.slice A4 (o2.length + 1) c4, .int .i64 o2.length, .slice Aal al.length cal] (by rfl) rfl rfl (by first | rfl | (simp only [List.map_toArray, List.map_cons, List.map_nil]; rfl)) ?_
     refine (HXI.out (wrap64 (d + 1)) w0 w3.drew Aal cal (fun k => ((ok k ∨ w.heap.size ≤ k) ∧ k ≠ wo.heap.size + 1) ∧ k ≠ wo.heap.size) _ (o2 ++ [⟨nm, un, sb, vi, (al.length : Int), inn, (i : Int), []⟩]) (o2.length : Int) (N + wAlts (l.take i) + aNodes (b.take q) + 1) HALC.out HALL5.out HXC.out.1 HXC.out.2 HB3.out.drew (Kd.S_drew (Kd.S_types HS3.out HG3.out (by decide))) (HN1.out.snoc rfl) (by have h1 := HLIM.out; have h2 := HAT.out; omega)).mono ?_
     rintro e w4 ⟨hb4, hk4, hn4, v4, rfl, hS4⟩
     refine ⟨_, rfl, ?_⟩
     have HB4 := Aside0.mk hb4
     have HK4 := Aside0.mk (HK3.out.drew.then_ hk4 (fun _ hk => hk.1.1))
     have HG4 := Aside0.mk (blk_kept (blk_drew HG3.out) hk4 (fun h => h.2 rfl))
     have HQ4 := Aside0.mk (Kd.Q_kept (Q_drew_ HQ3.out) hk4 (fun k hk h => h.1.2 hk))
     have HS4 : Aside0 (Kd.S k37 37 w4 w0.heap.size (fun k => (ok k ∨ w.heap.size ≤ k) ∧ k ≠ wo.heap.size + 1) v4 _) := ⟨Kd.S_mono hS4 (fun k hk => hk.elim (fun h => h.1) (fun h => ⟨.inr (Nat.le_trans HSZ3.out h), fun e => by have h1 := blk_lt HG3.out; have h2 : w3.heap.size ≤ k := h; have h3 := HLA3.out; omega⟩))⟩
     have HN4 := Aside0.mk hn4
     clear hb4 hk4 hn4 hS4
     refine hK.out _ _ ?_
     clear hK K
     refine norm_ (a' := ?_) ?_ ?_
     rotate_left
     ·show Act.put _ (some 65) _ = _
      simp only [Act.put, List.setIfInBounds_toArray, List.set_cons_zero, List.set_cons_succ, i64_w, i32_w]
      rfl
     refine pure_ (i := 8) (N := some 0) (v := ?_) (a' := ?_) #[true, true, true, true, true, true, true, true, true] rfl rfl (by kernel_rfl) (fun _ _ _ h => h) (Or.inl ⟨by rfl, ?_⟩) ?_ ?_
     rotate_left
     ·intro w'
      go_simp
      with_reducible rfl
     rotate_left
     ·simp only [Act.put, List.setIfInBounds_toArray, List.set_cons_zero, List.set_cons_succ, i64_w, i32_w]
      rfl
     refine done_ (by kernel_rfl) ?_
     --END10
     go_wp2
     go_roundg k2
     case measure => omega
     case rel =>
      refine ⟨q + 1, _, nums ++ [(o2.length : Int)], by have := HQN.out; omega, by first | exact HNX2.out | go_num, ⟨by rw [List.length_append, HNL.out]; rfl⟩, ⟨fun m hm => ?_⟩, ⟨by rw [HI3.out, HFN.out]⟩, HB4, HK4, HS4, ⟨HQ4.out⟩, HG4, ⟨HN4.out.mono (by have := HAT.out; omega)⟩⟩
      have h1 := flAlts_len (o2.length : Int) 0 (o2 ++ [⟨nm, un, sb, vi, (al.length : Int), inn, (i : Int), []⟩]) al
      rw [List.length_append] at h1
      simp only [List.length_singleton] at h1
      rcases List.mem_append.1 hm with hm | hm
      ·have := HNM.out m hm; omega
      ·rw [List.mem_singleton.1 hm]; omega
theorem flat_all (n : Nat) : ∀ l : List S82, SizeOf.sizeOf l < n → FlatC l := by
 induction n with
 | zero => intro l h; exact absurd h (Nat.not_lt_zero _)
 | succ n ih =>
  intro l h
  refine flat_walk l (fun b hb x hx => ih _ ?_)
  have h1 := List.sizeOf_lt_of_mem hb
  have h2 : SizeOf.sizeOf x < SizeOf.sizeOf b := by
   have := List.sizeOf_lt_of_mem hx
   cases b
   simp only [SB82.mk.sizeOf_spec] at *
   omega
  have h3 : SizeOf.sizeOf x.f5 < SizeOf.sizeOf x := by
   cases x
   simp only [S79.mk.sizeOf_spec]
   omega
  omega
theorem flat_call (l : List S82) : FlatC l := flat_all (SizeOf.sizeOf l + 1) l (by omega)
end Go.Proofs.Ytihpndignekheaa.F
end

section
namespace Go.Proofs.Ytihpndignekheaa.F
open Go.RowKit Go.Proofs.YtihpndignekheaaW.PrintWords Go.Proofs.YtihpndignekheaaW.PrintLast Go.Proofs.YtihpndignekheaaW.PrintMore
attribute [local go_sem] max2_int min2_int max_two min_two max_three min_three max_four min_four
set_option linter.unusedVariables false
set_option linter.unusedSimpArgs false
mutual
def dNode (a : Int) : S79 → Int
 | ⟨_, _, _, sb, _, al⟩ => if sb then mx a (wrap64 (dAlts 0 al + 1)) else a
def dNodes (a : Int) : List S79 → Int
 | [] => a
 | x :: l => dNodes (dNode a x) l
def dBody (a : Int) : SB82 S79 → Int
 | ⟨l⟩ => dNodes a l
def dAlts (a : Int) : List (SB82 S79) → Int
 | [] => a
 | b :: l => dAlts (dBody a b) l
end
def depthI (l : List BodyK) : Int := wrap64 (dAlts 0 l + 1)
mutual
def cNode (a : Int) : S79 → Int
 | ⟨_, _, _, _, _, al⟩ => wrap64 (a + cAlts 0 al)
def cNodes (a : Int) : List S79 → Int
 | [] => a
 | x :: l => cNodes (cNode a x) l
def cBody (a : Int) : SB82 S79 → Int
 | ⟨l⟩ => cNodes (wrap64 (a + (l.length : Int))) l
def cAlts (a : Int) : List (SB82 S79) → Int
 | [] => a
 | b :: l => cAlts (cBody a b) l
end
def countI (l : List BodyK) : Int := cAlts 0 l
theorem dNode_eq (a : Int) (x : NodeK) : dNode a x = if x.f3 then mx a (depthI x.f5) else a := by cases x; simp [dNode, depthI]
theorem cNode_eq (a : Int) (x : NodeK) : cNode a x = wrap64 (a + countI x.f5) := by cases x; simp [cNode, countI]
theorem dBody_eq (a : Int) (b : BodyK) : dBody a b = dNodes a b.f0 := by cases b; simp [dBody]
theorem cBody_eq (a : Int) (b : BodyK) : cBody a b = cNodes (wrap64 (a + (b.f0.length : Int))) b.f0 := by cases b; simp [cBody]
mutual
def lenNode : S79 → Prop
 | ⟨_, _, _, _, _, al⟩ => al.length ≤ 9223372036854775807 ∧ lenAlts al
def lenNodes : List S79 → Prop
 | [] => True
 | x :: l => lenNode x ∧ lenNodes l
def lenBody : SB82 S79 → Prop
 | ⟨l⟩ => l.length ≤ 9223372036854775807 ∧ lenNodes l
def lenAlts : List (SB82 S79) → Prop
 | [] => True
 | b :: l => lenBody b ∧ lenAlts l
end
theorem lenNode_eq (x : NodeK) : lenNode x ↔ x.f5.length ≤ 9223372036854775807 ∧ lenAlts x.f5 := by cases x; simp [lenNode]
theorem lenBody_eq (b : BodyK) : lenBody b ↔ b.f0.length ≤ 9223372036854775807 ∧ lenNodes b.f0 := by cases b; simp [lenBody]
theorem lenNodes_iff : ∀ l : List NodeK, lenNodes l ↔ ∀ x ∈ l, lenNode x
 | [] => by simp [lenNodes]
 | x :: l => by simp [lenNodes, lenNodes_iff l]
theorem lenAlts_iff : ∀ l : List BodyK, lenAlts l ↔ ∀ b ∈ l, lenBody b
 | [] => by simp [lenAlts]
 | x :: l => by simp [lenAlts, lenAlts_iff l]
theorem size_child {l : List BodyK} {b : BodyK} {x : NodeK} (hb : b ∈ l) (hx : x ∈ b.f0) : SizeOf.sizeOf x.f5 < SizeOf.sizeOf l := by
 have h1 := List.sizeOf_lt_of_mem hb
 have h2 : SizeOf.sizeOf x < SizeOf.sizeOf b := by
  have := List.sizeOf_lt_of_mem hx
  cases b
  simp only [SB82.mk.sizeOf_spec] at *
  omega
 have h3 : SizeOf.sizeOf x.f5 < SizeOf.sizeOf x := by
  cases x
  simp only [S79.mk.sizeOf_spec]
  omega
 omega
theorem len_of_C (n : Nat) : ∀ (l : List BodyK) (w : World) (A : Option Addr), SizeOf.sizeOf l < n → k82.C w A l.length l → lenAlts l := by
 induction n with
 | zero => intro l w A h; exact absurd h (Nat.not_lt_zero _)
 | succ n ih =>
  intro l w A h hC
  rw [lenAlts_iff]
  intro b hb
  obtain ⟨i, hi, rfl⟩ := List.getElem_of_mem hb
  obtain ⟨ad, A2, c2, _, _, l2, g2⟩ := at_T82 hC (i : Int) (by omega) (by omega)
  have hrd : rd_T82 l (i : Int) = l[i] := by unfold rd_T82; rw [Int.toNat_natCast, List.getD_eq_getElem?_getD, List.getElem?_eq_getElem hi]; rfl
  rw [hrd] at g2
  rw [lenBody_eq]
  refine ⟨Kd.C_max g2, ?_⟩
  rw [lenNodes_iff]
  intro x hx
  have hsz := size_child hb hx
  obtain ⟨q, hq, rfl⟩ := List.getElem_of_mem hx
  obtain ⟨_, _, _, A5, c5, _, _, _, _, _, _, _, _, _, l5, g5⟩ := at_T79 g2 (q : Int) (by omega) (by omega)
  have hrq : rd_T79 l[i].f0 (q : Int) = l[i].f0[q] := by unfold rd_T79; rw [Int.toNat_natCast, List.getD_eq_getElem?_getD, List.getElem?_eq_getElem hq]; rfl
  rw [hrq] at g5
  rw [lenNode_eq]
  exact ⟨Kd.C_max g5, ih _ w A5 (by omega) g5⟩
theorem rd_body {l : List BodyK} {i : Nat} (hi : i < l.length) : rd_T82 l (i : Int) = l[i] := by unfold rd_T82; rw [Int.toNat_natCast, List.getD_eq_getElem?_getD, List.getElem?_eq_getElem hi]; rfl
theorem rd_node {l : List NodeK} {i : Nat} (hi : i < l.length) : rd_T79 l (i : Int) = l[i] := by unfold rd_T79; rw [Int.toNat_natCast, List.getD_eq_getElem?_getD, List.getElem?_eq_getElem hi]; rfl
theorem w64_next {i n : Nat} (h : i < n) (hn : n ≤ 9223372036854775807) : wrap64 ((i : Int) + 1) = ((i + 1 : Nat) : Int) := by unfold wrap64; omega
theorem count_l1 (l : List BodyK) (hl : l.length ≤ 9223372036854775807) (i : Nat) (hi : i < l.length) (b : List NodeK) (hb : b.length ≤ 9223372036854775807) (hev : ∀ x ∈ b, ∀ nm, Ev (fun k => syntax_Count.f k nm x.f5) (countI x.f5))
  (r : Int → Int) (h0 : ∀ a, Ev (fun k => syntax_Count.l0 k a l (l.length : Int) ((i + 1 : Nat) : Int)) (r a)) (d : Nat) : ∀ (q : Nat) (a : Int), q + d = b.length → Ev (fun k => syntax_Count.l1 k a l (l.length : Int) (i : Int) b (b.length : Int) (q : Int)) (r (cNodes a (b.drop q))) := by
 induction d with
 | zero =>
  intro q a hq
  rw [List.drop_eq_nil_of_le (by omega)]
  refine Ev.step (f := fun k => syntax_Count.l0 k a l (l.length : Int) ((i + 1 : Nat) : Int)) (fun k => ?_) (by simpa [cNodes] using h0 a)
  simp only [syntax_Count.l1]
  rw [if_neg (by omega), w64_next hi hl]
 | succ d ih =>
  intro q a hq
  have hlt : q < b.length := by omega
  rw [List.drop_eq_getElem_cons hlt, cNodes, cNode_eq]
  have hc := hev _ (List.getElem_mem hlt) (⟨#[]⟩ : ByteArray)
  refine Ev.step (f := fun k => (syntax_Count.f k (⟨#[]⟩ : ByteArray) b[q].f5).bind fun t => syntax_Count.l1 k (wrap64 (a + t)) l (l.length : Int) (i : Int) b (b.length : Int) ((q + 1 : Nat) : Int)) (fun k => ?_) (Ev.bind hc (ih (q + 1) _ (by omega)))
  simp only [syntax_Count.l1]
  rw [if_pos (by omega), if_pos (by omega), if_pos (by omega), rd_node hlt, w64_next hlt hb]
theorem count_l0 (l : List BodyK) (hl : l.length ≤ 9223372036854775807) (hb : ∀ b ∈ l, b.f0.length ≤ 9223372036854775807) (hev : ∀ b ∈ l, ∀ x ∈ b.f0, ∀ nm, Ev (fun k => syntax_Count.f k nm x.f5) (countI x.f5)) (d : Nat) :
  ∀ (i : Nat) (a : Int), i + d = l.length → Ev (fun k => syntax_Count.l0 k a l (l.length : Int) (i : Int)) (cAlts a (l.drop i)) := by
 induction d with
 | zero =>
  intro i a hi
  rw [List.drop_eq_nil_of_le (by omega)]
  refine Ev.step (f := fun _ => some a) (fun k => ?_) (by simpa [cAlts] using Ev.now a)
  simp only [syntax_Count.l0]
  rw [if_neg (by omega)]
 | succ d ih =>
  intro i a hi
  have hlt : i < l.length := by omega
  have hm := List.getElem_mem hlt
  rw [List.drop_eq_getElem_cons hlt, cAlts, cBody_eq]
  have h1 := count_l1 l hl i hlt l[i].f0 (hb _ hm) (hev _ hm) (fun a => cAlts a (l.drop (i + 1))) (fun a => ih (i + 1) a (by omega)) l[i].f0.length 0 (wrap64 (a + (l[i].f0.length : Int))) (by omega)
  rw [List.drop_zero] at h1
  refine Ev.step (fun k => ?_) h1
  simp only [syntax_Count.l0]
  rw [if_pos (by omega), if_pos (by omega), if_pos (by omega), rd_body hlt]
  rfl
theorem count_ev (n : Nat) : ∀ (l : List BodyK) (nm : ByteArray), SizeOf.sizeOf l < n → l.length ≤ 9223372036854775807 → lenAlts l → Ev (fun k => syntax_Count.f k nm l) (countI l) := by
 induction n with
 | zero => intro l nm h; exact absurd h (Nat.not_lt_zero _)
 | succ n ih =>
  intro l nm h hl hlen
  rw [lenAlts_iff] at hlen
  have h1 := count_l0 l hl (fun b hb => ((lenBody_eq b).1 (hlen b hb)).1) (fun b hb x hx nm => by
   have h2 := (lenNodes_iff _).1 ((lenBody_eq b).1 (hlen b hb)).2 x hx
   rw [lenNode_eq] at h2
   exact ih x.f5 nm (by have := size_child hb hx; omega) h2.1 h2.2) l.length 0 0 (by omega)
  rw [List.drop_zero] at h1
  refine Ev.step (fun k => ?_) h1
  simp only [syntax_Count.f]
  rfl
theorem depth_l1 (l : List BodyK) (hl : l.length ≤ 9223372036854775807) (i : Nat) (hi : i < l.length) (b : List NodeK) (hb : b.length ≤ 9223372036854775807) (hev : ∀ x ∈ b, ∀ nm, Ev (fun k => syntax_Depth.f k nm x.f5) (depthI x.f5))
  (r : Int → Int) (h0 : ∀ a, Ev (fun k => syntax_Depth.l0 k a l (l.length : Int) ((i + 1 : Nat) : Int)) (r a)) (d : Nat) : ∀ (q : Nat) (a : Int), q + d = b.length → Ev (fun k => syntax_Depth.l1 k a l (l.length : Int) (i : Int) b (b.length : Int) (q : Int)) (r (dNodes a (b.drop q))) := by
 induction d with
 | zero =>
  intro q a hq
  rw [List.drop_eq_nil_of_le (by omega)]
  refine Ev.step (f := fun k => syntax_Depth.l0 k a l (l.length : Int) ((i + 1 : Nat) : Int)) (fun k => ?_) (by simpa [dNodes] using h0 a)
  simp only [syntax_Depth.l1]
  rw [if_neg (by omega), w64_next hi hl]
 | succ d ih =>
  intro q a hq
  have hlt : q < b.length := by omega
  rw [List.drop_eq_getElem_cons hlt, dNodes, dNode_eq]
  have hc := hev _ (List.getElem_mem hlt) (⟨#[]⟩ : ByteArray)
  by_cases hs : b[q].f3 = true
  ·rw [if_pos hs]
   refine Ev.step (f := fun k => (syntax_Depth.f k (⟨#[]⟩ : ByteArray) b[q].f5).bind fun t => syntax_Depth.l1 k (mx a t) l (l.length : Int) (i : Int) b (b.length : Int) ((q + 1 : Nat) : Int)) (fun k => ?_) (Ev.bind hc (ih (q + 1) _ (by omega)))
   simp only [syntax_Depth.l1]
   rw [if_pos (by omega), if_pos (by omega), if_pos (by omega), rd_node hlt, if_pos hs, w64_next hlt hb]
  ·rw [if_neg hs]
   refine Ev.step (fun k => ?_) (ih (q + 1) a (by omega))
   simp only [syntax_Depth.l1]
   rw [if_pos (by omega), if_pos (by omega), if_pos (by omega), rd_node hlt, if_neg hs, w64_next hlt hb]
theorem depth_l0 (l : List BodyK) (hl : l.length ≤ 9223372036854775807) (hb : ∀ b ∈ l, b.f0.length ≤ 9223372036854775807) (hev : ∀ b ∈ l, ∀ x ∈ b.f0, ∀ nm, Ev (fun k => syntax_Depth.f k nm x.f5) (depthI x.f5)) (d : Nat) :
  ∀ (i : Nat) (a : Int), i + d = l.length → Ev (fun k => syntax_Depth.l0 k a l (l.length : Int) (i : Int)) (wrap64 (dAlts a (l.drop i) + 1)) := by
 induction d with
 | zero =>
  intro i a hi
  rw [List.drop_eq_nil_of_le (by omega)]
  refine Ev.step (f := fun _ => some (wrap64 (a + 1))) (fun k => ?_) (by simpa [dAlts] using Ev.now (wrap64 (a + 1)))
  simp only [syntax_Depth.l0]
  rw [if_neg (by omega)]
 | succ d ih =>
  intro i a hi
  have hlt : i < l.length := by omega
  have hm := List.getElem_mem hlt
  rw [List.drop_eq_getElem_cons hlt, dAlts, dBody_eq]
  have h1 := depth_l1 l hl i hlt l[i].f0 (hb _ hm) (hev _ hm) (fun a => wrap64 (dAlts a (l.drop (i + 1)) + 1)) (fun a => ih (i + 1) a (by omega)) l[i].f0.length 0 a (by omega)
  rw [List.drop_zero] at h1
  refine Ev.step (fun k => ?_) h1
  simp only [syntax_Depth.l0]
  rw [if_pos (by omega), if_pos (by omega), if_pos (by omega), rd_body hlt]
  rfl
theorem depth_ev (n : Nat) : ∀ (l : List BodyK) (nm : ByteArray), SizeOf.sizeOf l < n → l.length ≤ 9223372036854775807 → lenAlts l → Ev (fun k => syntax_Depth.f k nm l) (depthI l) := by
 induction n with
 | zero => intro l nm h; exact absurd h (Nat.not_lt_zero _)
 | succ n ih =>
  intro l nm h hl hlen
  rw [lenAlts_iff] at hlen
  have h1 := depth_l0 l hl (fun b hb => ((lenBody_eq b).1 (hlen b hb)).1) (fun b hb x hx nm => by
   have h2 := (lenNodes_iff _).1 ((lenBody_eq b).1 (hlen b hb)).2 x hx
   rw [lenNode_eq] at h2
   exact ih x.f5 nm (by have := size_child hb hx; omega) h2.1 h2.2) l.length 0 0 (by omega)
  rw [List.drop_zero] at h1
  refine Ev.step (fun k => ?_) h1
  simp only [syntax_Depth.f]
  rfl
def checkI (nm : ByteArray) (l : List BodyK) : Int := if okName nm then (if depthI l > 70 then 2 else if countI l > 1000 then 2 else if bodiesOk l then 0 else 2) else 2
theorem check_ev (nm : ByteArray) (l : List BodyK) (hl : l.length ≤ 9223372036854775807) (hlen : lenAlts l) : Ev (fun k => syntax_Check.f k nm l) (checkI nm l) := by
 obtain ⟨k1, h1⟩ := count_ev (SizeOf.sizeOf l + 1) l nm (by omega) hl hlen
 obtain ⟨k2, h2⟩ := depth_ev (SizeOf.sizeOf l + 1) l nm (by omega) hl hlen
 refine ⟨max k1 k2, fun k hk => ?_⟩
 simp only [syntax_Check.f, names_of, Option.bind_some, h1 k (by omega), h2 k (by omega), syntax_bodies.f]
 unfold checkI
 repeat' split
 all_goals rfl
def checkB (nm : ByteArray) (l : List BodyK) : Bool := runB (checkI nm l) (countI l) l
theorem checkB_walk (nm : ByteArray) (A : Option Addr) (c : Nat) (l : List BodyK) (w : World) (hC : k82.C w A l.length l) (hc : l.length ≤ c) :
  Calls Try.prog 42 #[.agg #[.string nm, .slice A l.length c]] w fun e w' => e = .returned (.int .i64 (if checkB nm l then 0 else 11)) ∧ Below w.heap.size w w' := by
 have hlen := len_of_C (SizeOf.sizeOf l + 1) l w A (by omega) hC
 obtain ⟨k1, h1⟩ := count_ev (SizeOf.sizeOf l + 1) l nm (by omega) (Kd.C_max hC) hlen
 obtain ⟨k2, h2⟩ := check_ev nm l (Kd.C_max hC) hlen
 exact check_walk nm A c l w hC hc (max k1 k2) _ _ (h2 _ (by omega)) (h1 _ (by omega))
theorem arcsN_good (b : List NodeK) (i : Int) : ∀ (r bef : List ByteArray) (out o : List S147), arcsN b i bef r out = some o → goodPre b bef → goodPre b (bef ++ r)
 | [], bef, _, _, _, h => by simpa using h
 | t :: r, bef, out, o, h, hp => by
  unfold arcsN at h
  split at h
  ·rename_i hc
   simp only [Bool.and_eq_true, decide_eq_true_eq, Bool.not_eq_true'] at hc
   have := arcsN_good b i r _ _ _ h (goodPre_snoc hp hc.1.1 hc.2)
   simpa using this
  ·cases h
theorem arcsL_good (b : List NodeK) : ∀ (l : List NodeK) (i : Int) (out o : List S147), arcsL b i l out = some o → ∀ x ∈ l, x.f2.length ≤ b.length
 | [], _, _, _, _, x, hx => by cases hx
 | y :: l, i, out, o, h, x, hx => by
  unfold arcsL at h
  split at h
  ·cases h
  ·rename_i o2 ho
   rcases List.mem_cons.1 hx with rfl | hx
   ·have := goodPre_len (arcsN_good b i _ _ _ _ ho ⟨by simp, fun s hs => by simp at hs⟩)
    simpa using this
   ·exact arcsL_good b l _ _ _ h x hx
theorem sound_after {l : List BodyK} (h : soundB l = true) {b : BodyK} (hb : b ∈ l) {x : NodeK} (hx : x ∈ b.f0) : x.f2.length ≤ 16 := by
 have h16 := (sound_named h hb).1
 unfold soundB at h
 rw [Bool.and_eq_true, List.all_eq_true] at h
 have h1 := h.2 b hb
 unfold bodySound at h1
 simp only [Bool.and_eq_true] at h1
 have h2 := h1.2
 split at h2
 ·cases h2
 ·rename_i a ha
  exact Nat.le_trans (arcsL_good _ _ _ _ _ ha x hx) h16
theorem visNodes_len (b : BodyK) (d : Int) (m : Nat) : ∀ l : List NodeK, (∀ x ∈ l, (visAlts (wrap64 (d + 1)) x.f5).length ≤ m) → (visNodes b d l).length ≤ l.length * (1 + m)
 | [], _ => by simp [visNodes]
 | x :: l, h => by
  rw [visNodes, visNode_eq, List.length_append, List.length_cons, List.length_cons, Nat.succ_mul]
  have h1 := h x List.mem_cons_self
  have h2 := visNodes_len b d m l (fun y hy => h y (List.mem_cons_of_mem _ hy))
  omega
theorem visBody_eq (d : Int) (b : BodyK) : visBody d b = visNodes b d b.f0 := by cases b; simp [visBody]
theorem visAlts_len (d : Int) (m : Nat) : ∀ l : List BodyK, (∀ b ∈ l, b.f0.length ≤ 16 ∧ ∀ x ∈ b.f0, (visAlts (wrap64 (d + 1)) x.f5).length ≤ m) → (visAlts d l).length ≤ l.length * (16 * (1 + m))
 | [], _ => by simp [visAlts]
 | b :: l, h => by
  rw [visAlts, visBody_eq, List.length_append, List.length_cons, Nat.succ_mul]
  have h1 := h b List.mem_cons_self
  have h2 := visAlts_len d m l (fun y hy => h y (List.mem_cons_of_mem _ hy))
  have h3 := visNodes_len b d m b.f0 h1.2
  have h4 : b.f0.length * (1 + m) ≤ 16 * (1 + m) := Nat.mul_le_mul_right _ h1.1
  omega
def gCap : Nat → Nat
 | 0 => 0
 | n + 1 => 64 * (1 + gCap n)
theorem soundB_len {l : List BodyK} (h : soundB l = true) : l.length ≤ 4 := by
 unfold soundB at h
 rw [Bool.and_eq_true, decide_eq_true_eq] at h
 exact h.1
theorem vis_mem {d : Int} {l : List BodyK} {b : BodyK} {x : NodeK} (hb : b ∈ l) (hx : x ∈ b.f0) {P : Vis → Prop} (hall : ∀ u ∈ visAlts d l, P u) : P ⟨x, b, d⟩ ∧ ∀ u ∈ visAlts (wrap64 (d + 1)) x.f5, P u := by
 obtain ⟨i, hi, rfl⟩ := List.getElem_of_mem hb
 obtain ⟨q, hq, rfl⟩ := List.getElem_of_mem hx
 exact vis_child hi hq hall
theorem vis_cap (n : Nat) : ∀ (l : List BodyK) (d : Int), 1 ≤ d → 7 - d ≤ (n : Int) → soundB l = true → (∀ u ∈ visAlts d l, u.d ≤ 6 ∧ soundB u.n.f5 = true) → (visAlts d l).length ≤ gCap n := by
 induction n with
 | zero =>
  intro l d h1 h2 hs hall
  have h3 := visAlts_len d 0 l (fun b hb => ⟨(sound_named hs hb).1, fun x hx => by
   have := (vis_mem hb hx hall).1.1
   simp only at this
   omega⟩)
  have h4 : ∀ b ∈ l, b.f0 = [] := fun b hb => by
   cases hf : b.f0 with
   | nil => rfl
   | cons x r =>
    have := (vis_mem (x := x) hb (by rw [hf]; exact List.mem_cons_self) hall).1.1
    simp only at this
    omega
  have h5 : ∀ l : List BodyK, (∀ b ∈ l, b.f0 = []) → visAlts d l = [] := by
   intro l hl
   induction l with
   | nil => rfl
   | cons b l ih => rw [visAlts, visBody_eq, hl b List.mem_cons_self, ih (fun y hy => hl y (List.mem_cons_of_mem _ hy))]; rfl
  rw [h5 l h4]
  simp [gCap]
 | succ n ih =>
  intro l d h1 h2 hs hall
  have h3 := visAlts_len d (gCap n) l (fun b hb => ⟨(sound_named hs hb).1, fun x hx => by
   obtain ⟨h5, h6⟩ := vis_mem hb hx hall
   have h7 : wrap64 (d + 1) = d + 1 := by have := h5.1; simp only at this; unfold wrap64; omega
   rw [h7] at h6 ⊢
   exact ih x.f5 (d + 1) (by omega) (by omega) h5.2 h6⟩)
  have h4 : l.length * (16 * (1 + gCap n)) ≤ 4 * (16 * (1 + gCap n)) := Nat.mul_le_mul_right _ (soundB_len hs)
  simp only [gCap]
  omega
theorem cNodes_len (b : BodyK) (d : Int) : ∀ (l : List NodeK) (a : Int), (∀ x ∈ l, ∀ d, countI x.f5 = wrap64 ((visAlts d x.f5).length : Int)) → wrap64 a = a → cNodes a l = wrap64 (a + (((visNodes b d l).length : Int) - (l.length : Int)))
 | [], a, _, ha => by simp [cNodes, visNodes, ha]
 | x :: l, a, h, ha => by
  rw [cNodes, cNode_eq, h x List.mem_cons_self (wrap64 (d + 1)), cNodes_len b d l _ (fun y hy => h y (List.mem_cons_of_mem _ hy)) (by unfold wrap64; omega)]
  rw [visNodes, visNode_eq, List.length_append, List.length_cons, List.length_cons]
  unfold wrap64
  omega
theorem cAlts_len (d : Int) : ∀ (l : List BodyK) (a : Int), (∀ b ∈ l, ∀ x ∈ b.f0, ∀ d, countI x.f5 = wrap64 ((visAlts d x.f5).length : Int)) → wrap64 a = a → cAlts a l = wrap64 (a + ((visAlts d l).length : Int))
 | [], a, _, ha => by simp [cAlts, visAlts, ha]
 | b :: l, a, h, ha => by
  rw [cAlts, cBody_eq, cNodes_len b d b.f0 _ (h b List.mem_cons_self) (by unfold wrap64; omega), cAlts_len d l _ (fun y hy => h y (List.mem_cons_of_mem _ hy)) (by unfold wrap64; omega)]
  rw [visAlts, visBody_eq, List.length_append]
  unfold wrap64
  omega
theorem count_vis (n : Nat) : ∀ (l : List BodyK) (d : Int), SizeOf.sizeOf l < n → countI l = wrap64 ((visAlts d l).length : Int) := by
 induction n with
 | zero => intro l d h; exact absurd h (Nat.not_lt_zero _)
 | succ n ih =>
  intro l d h
  unfold countI
  rw [cAlts_len d l 0 (fun b hb x hx d => ih x.f5 d (by have := size_child hb hx; omega)) (by unfold wrap64; omega), Int.zero_add]
theorem wNodes_len (b : BodyK) (d : Int) : ∀ l : List NodeK, (∀ x ∈ l, x.f2.length ≤ 16 ∧ wAlts x.f5 ≤ 17 * (visAlts (wrap64 (d + 1)) x.f5).length) → wNodes l ≤ 17 * (visNodes b d l).length
 | [], _ => by simp [wNodes]
 | x :: l, h => by
  rw [wNodes, wNode_eq, visNodes, visNode_eq, List.length_append, List.length_cons]
  have h1 := h x List.mem_cons_self
  have h2 := wNodes_len b d l (fun y hy => h y (List.mem_cons_of_mem _ hy))
  omega
theorem wAlts_len (d : Int) : ∀ l : List BodyK, (∀ b ∈ l, ∀ x ∈ b.f0, x.f2.length ≤ 16 ∧ wAlts x.f5 ≤ 17 * (visAlts (wrap64 (d + 1)) x.f5).length) → wAlts l ≤ 17 * (visAlts d l).length
 | [], _ => by simp [wAlts]
 | b :: l, h => by
  rw [wAlts, wBody_eq, visAlts, visBody_eq, List.length_append]
  have h1 := wNodes_len b d b.f0 (h b List.mem_cons_self)
  have h2 := wAlts_len d l (fun y hy => h y (List.mem_cons_of_mem _ hy))
  omega
theorem wAlts_vis (n : Nat) : ∀ (l : List BodyK) (d : Int), SizeOf.sizeOf l < n → soundB l = true → (∀ u ∈ visAlts d l, soundB u.n.f5 = true) → wAlts l ≤ 17 * (visAlts d l).length := by
 induction n with
 | zero => intro l d h; exact absurd h (Nat.not_lt_zero _)
 | succ n ih =>
  intro l d h hs hall
  refine wAlts_len d l (fun b hb x hx => ⟨sound_after hs hb hx, ?_⟩)
  obtain ⟨h1, h2⟩ := vis_mem (P := fun u => soundB u.n.f5 = true) hb hx hall
  exact ih x.f5 _ (by have := size_child hb hx; omega) h1 h2
theorem check_small {nm : ByteArray} {l : List BodyK} (h : checkB nm l = true) : soundB l = true ∧ (∀ u ∈ visAlts 1 l, soundB u.n.f5 = true) ∧ wAlts l ≤ 1088 ∧ countI l = ((visAlts 1 l).length : Int) ∧ (visAlts 1 l).length < 64 ∧ checkI nm l = 0 := by
 unfold checkB runB at h
 simp only [Bool.and_eq_true, decide_eq_true_eq, beq_iff_eq] at h
 obtain ⟨⟨h1, h2⟩, h3, h4⟩ := h
 unfold okAll at h4
 rw [Bool.and_eq_true, List.all_eq_true] at h4
 have hall : ∀ u ∈ visAlts 1 l, u.d ≤ 6 ∧ soundB u.n.f5 = true := fun u hu => by
  have := h4.2 u hu
  unfold okV at this
  simp only [Bool.and_eq_true, decide_eq_true_eq] at this
  exact this.2
 have h5 := vis_cap 6 l 1 (by omega) (by omega) h3 hall
 have h6 := count_vis (SizeOf.sizeOf l + 1) l 1 (by omega)
 have h7 : gCap 6 = 69810262080 := by decide
 have h8 : countI l = ((visAlts 1 l).length : Int) := by rw [h6]; unfold wrap64; omega
 have h9 := wAlts_vis (SizeOf.sizeOf l + 1) l 1 (by omega) h3 (fun u hu => (hall u hu).2)
 refine ⟨h3, fun u hu => (hall u hu).2, by omega, h8, by omega, h1⟩
def rootOf (nm : ByteArray) (l : List BodyK) : ItemK := ⟨nm, ⟨#[]⟩, true, true, (l.length : Int), -1, 0, []⟩
def makeL (nm : ByteArray) (l : List BodyK) : List ItemK := flAlts 0 0 [rootOf nm l] l
def MakeP (nm : ByteArray) (l : List BodyK) (w : World) (e : Ending) (w' : World) : Prop := Below w.heap.size w w' ∧ (if checkB nm l then ∃ v, e = .returned (.tuple #[.agg #[v], .int .i64 0]) ∧ Kd.S k37 37 w' w.heap.size (fun _ => True) v (makeL nm l) else e = .returned (.tuple #[.agg #[.slice none 0 0], .int .i64 11]))
theorem root_row {W : World} {base : Nat} {ok : Nat → Prop} (nm : ByteArray) (l : List BodyK) (hb : base ≤ W.heap.size) (hok : ok W.heap.size) :
  Kd.S k37 37 (W.alloc (.cells #[.string nm, .string ⟨#[]⟩, .bool true, .bool true, .int .i64 l.length, .int .i64 (-1), .int .i64 0, .slice none 0 0] 37)) base ok (.slice (some ⟨W.heap.size, 0, none⟩) 1 1) [rootOf nm l] := by
 refine Kd.S_bare ⟨fun k hk => ?_, ?_⟩
 ·have : W.heap.size = k := by simpa [Value.ownBlock] using hk
  rw [← this]; exact hok
 ·exact OwnRow.lit (R := (Kd.bare k37).M (W.alloc (.cells #[.string nm, .string ⟨#[]⟩, .bool true, .bool true, .int .i64 l.length, .int .i64 (-1), .int .i64 0, .slice none 0 0] 37)) base (fun k => ok k ∧ some k ≠ (Value.slice (some ⟨W.heap.size, 0, none⟩) 1 1).ownBlock)) (size := 8) W base (ps := [rootOf nm l]) (inner := [.string nm, .string ⟨#[]⟩, .bool true, .bool true, .int .i64 l.length, .int .i64 (-1), .int .i64 0, .slice none 0 0])
   (Reps.front (show (k37).M _ base (fun _ => False) (rootOf nm l) _ from k37_mkM _ _ _ _ (Kd.R_nil _ _ _ _ _)) rfl (Reps.none _ _) rfl) hb (by simp)
set_option maxHeartbeats 8000000 in
set_option maxRecDepth 100000 in
theorem make_walk (nm : ByteArray) (A : Option Addr) (c : Nat) (l : List BodyK) (w : World) (hC : k82.C w A l.length l) (hc : l.length ≤ c) : Calls Try.prog 33 #[.agg #[.string nm, .slice A l.length c]] w (MakeP nm l w) := by
 have HC := Aside0.mk hC
 have HL := Aside0.mk hc
 have HS := Aside0.mk (fun h : checkB nm l = true => check_small h)
 have HCW := Aside0.mk (fun (W : World) (h : k82.C W A l.length l) => checkB_walk nm A c l W h hc)
 clear hC hc
 obtain ⟨o, ho⟩ : ∃ o, checkB nm l = o := ⟨_, rfl⟩
 have HO := Aside0.mk ho
 rw [ho] at HS HCW
 clear ho
 have HG0 := Aside0.mk (blk_alloc (blk_new w (.cells #[.string nm, .slice A l.length c] 86 (0, 0))) (.cells #[.slice none 0 0] 24 (0, 0)))
 have HG1 := Aside0.mk (blk_new (w.alloc (.cells #[.string nm, .slice A l.length c] 86 (0, 0))) (.cells #[.slice none 0 0] 24 (0, 0)))
 have HB0 := Aside0.mk (((Below.refl w.heap.size w).alloc (Nat.le_refl _) (.cells #[.string nm, .slice A l.length c] 86 (0, 0))).alloc (by simp) (.cells #[.slice none 0 0] 24 (0, 0)))
 rw [show (w.alloc (.cells #[.string nm, .slice A l.length c] 86 (0, 0))).heap.size = w.heap.size + 1 from by simp] at HG1
 have HC0 := Aside0.mk (Kd.C_below HC.out HB0.out)
 go_enter Try.func33, Try.ntmps33
 cases o with
 | false =>
  go_wp2_with (go_at_call 42; refine (HCW.out _ HC0.out).mono ?_; rintro e w2 ⟨rfl, hb⟩; have HB2 := Aside0.mk (HB0.out.trans (hb.mono HB0.out.size)); have HG2 := Aside0.mk (blk_below HG1.out hb); have y0 : w2.cell? ⟨w.heap.size + 1, 0, none⟩ = some (.slice none 0 0) := (blk_cell HG2.out 0).trans rfl; have y1 := blk_frozen HG2.out 0; clear hb)
  have HR := blk_put HG2.out 0 (.slice none 0 0) rfl
  refine bodyPost_ret (results_ct rfl _ _ (w.heap.size + 1) 24 #[.slice none 0 0] (0, 0) _ rfl HR Try.underlying24 rfl (by kernel_rfl)) rfl ?_
  refine ⟨?_, ?_⟩
  ·exact HB2.out.setCell (p := ⟨w.heap.size + 1, 0, none⟩) (by show w.heap.size ≤ w.heap.size + 1; omega) _
  ·rw [HO.out]
   rfl
 | true =>
  have HSM := Aside0.mk (HS.out rfl)
  go_wp2_with (first
   | (go_at_call 42; refine (HCW.out _ HC0.out).mono ?_; rintro e w2 ⟨rfl, hb⟩; have HB2 := Aside0.mk (HB0.out.trans (hb.mono HB0.out.size)); have HG2 := Aside0.mk (blk_below HG1.out hb); have HGA := Aside0.mk (blk_below HG0.out hb); have x0 : w2.cell? ⟨w.heap.size, 0, none⟩ = some (.string nm) := (blk_cell HGA.out 0).trans rfl; have x1 : w2.cell? ⟨w.heap.size, 1, none⟩ = some (.slice A l.length c) := (blk_cell HGA.out 1).trans rfl; have hn1 : w.heap.size < w2.heap.size := blk_lt HGA.out; have hn2 : ¬ (w.heap.size = w2.heap.size) := (by omega); have hn3 : ¬ (w.heap.size = w2.heap.size + 1) := (by omega); have hn4 : w.heap.size < w2.heap.size + 1 := (by omega); have hn5 : ¬ (w2.heap.size = w.heap.size) := (by omega); have hn6 : ¬ (w2.heap.size + 1 = w.heap.size) := (by omega); clear hb)
   | (go_at_call 43; refine stop_ ?_))
  unfold Stop_
  have hw1 : w.heap.size + 1 < w2.heap.size := blk_lt HG2.out
  have hS := root_row (W := w2.alloc (.cells #[.string nm, .string ⟨#[]⟩, .bool true, .bool true, .int .i64 l.length, .int .i64 (-1), .int .i64 0, .slice none 0 0] 37)) (base := w.heap.size) (ok := fun k => k ≠ w.heap.size + 1) nm l (by simp; omega) (by simp; omega)
  rw [show (w2.alloc (.cells #[.string nm, .string ⟨#[]⟩, .bool true, .bool true, .int .i64 l.length, .int .i64 (-1), .int .i64 0, .slice none 0 0] 37)).heap.size = w2.heap.size + 1 from by simp] at hS
  refine (flat_call l 1 w _ A c (fun k => k ≠ w.heap.size + 1) _ [rootOf nm l] 0 1 HC.out HL.out HSM.out.1 HSM.out.2.1 ((HB2.out.alloc HB2.out.size _).alloc (by simp; omega) _) hS ⟨by simp, fun it hi => by rw [List.mem_singleton.1 hi]; simp [rootOf]⟩ (by have := HSM.out.2.2.1; omega)).mono ?_
  rintro e w5 ⟨hb5, hk5, _, v5, rfl, hS5⟩
  have HB5 := Aside0.mk hb5
  have HS5 := Aside0.mk hS5
  have HG5 := Aside0.mk (blk_kept (blk_alloc (blk_alloc HG2.out _) _) hk5 (fun h => h rfl))
  obtain ⟨A6, c6, rfl⟩ := Kd.S_slice hS5
  have y0 : w5.cell? ⟨w.heap.size + 1, 0, none⟩ = some (.slice none 0 0) := (blk_cell HG5.out 0).trans rfl
  have y1 := blk_frozen HG5.out 0
  have y2 := (Kd.S_far (p := ⟨w.heap.size + 1, 0, none⟩) ((Kd.S_mono (Kd.S_bound HS5.out) (fun k hk => (by rcases hk.1 with h | h; exact h; simp at h; omega : k ≠ w.heap.size + 1)))) (fun _ hk => hk) (.slice A6 (flAlts 0 0 [rootOf nm l] l).length c6))
  have HY := Aside0.mk y2
  clear hb5 hk5 hS5 hS hw1 y2 x0 x1 hn1 hn2 hn3 hn4 hn5 hn6
  simp only []
  go_at_K
  go_wp2
  have HR := blk_put HG5.out 0 (.slice A6 (flAlts 0 0 [rootOf nm l] l).length c6) rfl
  refine bodyPost_ret (results_ct rfl _ _ (w.heap.size + 1) 24 #[.slice A6 (flAlts 0 0 [rootOf nm l] l).length c6] (0, 0) _ rfl HR Try.underlying24 rfl (by kernel_rfl)) rfl ?_
  refine ⟨?_, ?_⟩
  ·exact HB5.out.setCell (p := ⟨w.heap.size + 1, 0, none⟩) (by show w.heap.size ≤ w.heap.size + 1; omega) _
  ·rw [HO.out, if_pos rfl]
   exact ⟨_, rfl, Kd.S_mono HY.out (fun _ _ => trivial)⟩
def plan_Make.f (a0_0 : ByteArray) (l0_1 : List S82) : Option (List S37 × Int) := some (if checkB a0_0 l0_1 then (makeL a0_0 l0_1, 0) else ([], 11))
theorem plan_Make.calls (a0_0 : ByteArray) (A0_1 : Option Addr) (c0_1 : Nat) (l0_1 : List S82) (r1 : List S37) (r2 : Int) (w : World) (hr0_1 : Kd.C k82 w A0_1 l0_1.length l0_1) (hc0_1 : l0_1.length ≤ c0_1) (h : plan_Make.f a0_0 l0_1 = some (r1, r2)) :
  Calls Try.prog 33 #[.agg #[.string a0_0, .slice A0_1 l0_1.length c0_1]] w fun e w' => ∃ v0_ : Value, e = .returned (.tuple #[.agg #[v0_], .int .i64 r2]) ∧ Kd.N k37 37 w' w.heap.size (fun k_ => (w.heap.size ≤ k_)) v0_ r1 ∧ Below w.heap.size w w' := by
 unfold plan_Make.f at h
 refine (make_walk a0_0 A0_1 c0_1 l0_1 w hr0_1 hc0_1).mono ?_
 rintro e w' ⟨hb, he⟩
 split at h
 ·rename_i hc
  obtain ⟨rfl, rfl⟩ := Prod.mk.inj (Option.some.inj h)
  rw [if_pos hc] at he
  obtain ⟨v, rfl, hR⟩ := he
  exact ⟨v, rfl, Kd.N_mono (Kd.S_N (Kd.S_bound hR)) (fun k hk => hk.2.1), hb⟩
 ·rename_i hc
  obtain ⟨rfl, rfl⟩ := Prod.mk.inj (Option.some.inj h)
  rw [if_neg hc] at he
  subst he
  exact ⟨_, rfl, Kd.N_nil _ _ _ _ _, hb⟩
end Go.Proofs.Ytihpndignekheaa.F
end

section
namespace Go.Proofs.Ytihpndignekheaa.F
open Go.RowKit Go.Proofs.YtihpndignekheaaW.PrintWords Go.Proofs.YtihpndignekheaaW.PrintLast Go.Proofs.YtihpndignekheaaW.PrintMore
attribute [local go_sem] max2_int min2_int max_two min_two max_three min_three max_four min_four
set_option linter.unusedVariables false
set_option linter.unusedSimpArgs false
def slices_Equal_int_int.l0 : Nat → List Int → List Int → Int → Int → Option (Bool)
 | 0, _, _, _, _ => none
 | k + 1, x0, x1, x12, x13 => if x13 < x12 then (if 0 ≤ x13 then (if x13 < (x0.length : Int) then (if x13 < (x1.length : Int) then (if (rd x0 x13) = (rd x1 x13) then (slices_Equal_int_int.l0 k x0 x1 x12 (wrap64 (x13 + 1))) else (some false)) else (none)) else (none)) else (none)) else (some true)
def slices_Equal_int_int.f (k : Nat) (l0 : List Int) (l1 : List Int) : Option (Bool) := if (l0.length : Int) = (l1.length : Int) then (slices_Equal_int_int.l0 k l0 l1 (l0.length : Int) 0) else (some false)
set_option maxHeartbeats 8000000 in
set_option maxRecDepth 100000 in
theorem slices_Equal_int_int.calls (k : Nat) (A0 : Option Addr) (c0 : Nat) (l0 : List Int) (A1 : Option Addr) (c1 : Nat) (l1 : List Int) (r : Bool) (w : World) (hr0 : Kd.C (Kd.int .i64) w A0 l0.length l0) (hc0 : l0.length ≤ c0) (hr1 : Kd.C (Kd.int .i64) w A1 l1.length l1) (hc1 : l1.length ≤ c1) (h : slices_Equal_int_int.f k l0 l1 = some r) :
  Calls Try.prog 65 #[.slice A0 l0.length c0, .slice A1 l1.length c1] w fun e w' => e = .returned (.bool r) ∧ Drawn0 w w' := by
 have HR0 := Aside0.mk hr0
 have HC0 := Aside0.mk hc0
 clear hr0 hc0
 have HR1 := Aside0.mk hr1
 have HC1 := Aside0.mk hc1
 clear hr1 hc1
 have H : (if (l0.length : Int) = (l1.length : Int) then (slices_Equal_int_int.l0 k l0 l1 (l0.length : Int) 0) else (some false)) = some r := h
 clear h
 by_cases c3 : (l0.length : Int) = (l1.length : Int)
 ·rw [if_pos c3] at H
  have c3b0 : ((l0.length : Int) == (l1.length : Int)) = true := beq_iff_eq.mpr c3
  have c3b1 : ((l0.length : Int) != (l1.length : Int)) = false := bne_eq_false_iff_eq.mpr c3
  have c3b2 : (l0.length == l1.length) = true := by first | simpa using c3 | (simp at c3 ⊢; omega)
  clear c3
  have H' := Aside0.mk H
  clear H
  go_enter Try.func65, Try.ntmps65
  go_wp2
  repeat (go_quiet (fail); try go_wp2)
  go_loopg [13] k (fun kq v13 w' => ∃ (x13_1 : Int), v13 = .int .i64 x13_1 ∧ Aside0 (slices_Equal_int_int.l0 kq l0 l1 (l0.length : Int) x13_1 = some r) ∧ Aside0 (kq ≤ k) ∧ Drawn0 w w')
  case atStart => exact ⟨(0), (by first | rfl | (simp; done) | (simp [*]; done)), H', ⟨Nat.le_refl _⟩, by repeat (first | exact Drawn0.refl _ | apply Drawn0.step)⟩
  case round =>
   clear H'
   try clear c1
   try clear p2
   try clear c3
   try clear c3b0
   try clear c3b1
   try clear c3b2
   obtain ⟨x13_1, rfl, HA, HK1, ⟨m1, rfl⟩⟩ := hrel
   cases gk with
   | zero => exact absurd HA.out (by simp [slices_Equal_int_int.l0])
   | succ k1 =>
    have H := HA.out
    clear HA
    simp only [slices_Equal_int_int.l0] at H
    by_cases c4 : x13_1 < (l0.length : Int)
    ·rw [if_pos c4] at H
     have c4b0 : decide (x13_1 < (l0.length : Int)) = true := decide_eq_true c4
     clear c4
     by_cases c5 : 0 ≤ x13_1
     ·rw [if_pos c5] at H
      have c5b0 : decide (0 ≤ x13_1) = true := decide_eq_true c5
      clear c5
      by_cases c6 : x13_1 < (l0.length : Int)
      ·rw [if_pos c6] at H
       have c6b0 : decide (x13_1 < (l0.length : Int)) = true := decide_eq_true c6
       clear c6
       by_cases c7 : x13_1 < (l1.length : Int)
       ·rw [if_pos c7] at H
        have c7b0 : decide (x13_1 < (l1.length : Int)) = true := decide_eq_true c7
        clear c7
        by_cases c8 : (rd l0 x13_1) = (rd l1 x13_1)
        ·rw [if_pos c8] at H
         have c8b0 : ((rd l0 x13_1) == (rd l1 x13_1)) = true := beq_iff_eq.mpr c8
         have c8b1 : ((rd l0 x13_1) != (rd l1 x13_1)) = false := bne_eq_false_iff_eq.mpr c8
         clear c8
         have H' := Aside0.mk H
         clear H
         have p128 : 0 ≤ (x13_1 : Int) := of_decide_eq_true (by first | (with_reducible assumption) | assumption)
         have q128 : x13_1 < (l0.length : Int) := of_decide_eq_true (by first | (with_reducible assumption) | assumption)
         obtain ⟨ad128, e128, hx128_0⟩ := Kd.at_int HR0.out x13_1 p128 q128
         cases e128
         replace p128 := eq_true p128
         replace q128 := eq_true q128
         have p129 : 0 ≤ (x13_1 : Int) := of_decide_eq_true (by first | (with_reducible assumption) | assumption)
         have q129 : x13_1 < (l1.length : Int) := of_decide_eq_true (by first | (with_reducible assumption) | assumption)
         obtain ⟨ad129, e129, hx129_0⟩ := Kd.at_int HR1.out x13_1 p129 q129
         cases e129
         replace p129 := eq_true p129
         replace q129 := eq_true q129
         go_wp2
         repeat (go_quiet (fail); try go_wp2)
         go_roundg k1
         case measure => have := HK1.out; omega
         case rel => exact ⟨(wrap64 (x13_1 + 1)), (by first | rfl | (simp; done) | (simp [*]; done)), H', ⟨by have := HK1.out; omega⟩, by repeat (first | exact Drawn0.refl _ | apply Drawn0.step)⟩
        ·rw [if_neg c8] at H
         have c8b0 : ((rd l0 x13_1) == (rd l1 x13_1)) = false := beq_eq_false_iff_ne.mpr c8
         have c8b1 : ((rd l0 x13_1) != (rd l1 x13_1)) = true := bne_iff_ne.mpr c8
         obtain rfl := Option.some.inj H
         have p128 : 0 ≤ (x13_1 : Int) := of_decide_eq_true (by first | (with_reducible assumption) | assumption)
         have q128 : x13_1 < (l0.length : Int) := of_decide_eq_true (by first | (with_reducible assumption) | assumption)
         obtain ⟨ad128, e128, hx128_0⟩ := Kd.at_int HR0.out x13_1 p128 q128
         cases e128
         replace p128 := eq_true p128
         replace q128 := eq_true q128
         have p129 : 0 ≤ (x13_1 : Int) := of_decide_eq_true (by first | (with_reducible assumption) | assumption)
         have q129 : x13_1 < (l1.length : Int) := of_decide_eq_true (by first | (with_reducible assumption) | assumption)
         obtain ⟨ad129, e129, hx129_0⟩ := Kd.at_int HR1.out x13_1 p129 q129
         cases e129
         replace p129 := eq_true p129
         replace q129 := eq_true q129
         go_wp2
         repeat (go_quiet (fail); try go_wp2)
         go_ret
         exact ⟨by first | rfl | (simp; done) | (simp [*]; done), by repeat (first | exact Drawn0.refl _ | apply Drawn0.step)⟩
       ·rw [if_neg c7] at H
        exact absurd H (by simp)
      ·rw [if_neg c6] at H
       exact absurd H (by simp)
     ·rw [if_neg c5] at H
      exact absurd H (by simp)
    ·rw [if_neg c4] at H
     have c4b0 : decide (x13_1 < (l0.length : Int)) = false := decide_eq_false c4
     clear c4
     obtain rfl := Option.some.inj H
     go_wp2
     repeat (go_quiet (fail); try go_wp2)
     go_ret
     exact ⟨by first | rfl | (simp; done) | (simp [*]; done), by repeat (first | exact Drawn0.refl _ | apply Drawn0.step)⟩
 ·rw [if_neg c3] at H
  have c3b0 : ((l0.length : Int) == (l1.length : Int)) = false := beq_eq_false_iff_ne.mpr c3
  have c3b1 : ((l0.length : Int) != (l1.length : Int)) = true := bne_iff_ne.mpr c3
  have c3b2 : (l0.length == l1.length) = false := by first | simpa using c3 | (simp at c3 ⊢; omega)
  obtain rfl := Option.some.inj H
  go_enter Try.func65, Try.ntmps65
  go_wp2
  repeat (go_quiet (fail); try go_wp2)
  go_ret
  exact ⟨by first | rfl | (simp; done) | (simp [*]; done), by repeat (first | exact Drawn0.refl _ | apply Drawn0.step)⟩
end Go.Proofs.Ytihpndignekheaa.F
end

section
namespace Go.Proofs.Ytihpndignekheaa.F
open Go.RowKit Go.Proofs.YtihpndignekheaaW.PrintWords Go.Proofs.YtihpndignekheaaW.PrintLast Go.Proofs.YtihpndignekheaaW.PrintMore
attribute [local go_sem] max2_int min2_int max_two min_two max_three min_three max_four min_four
set_option linter.unusedVariables false
set_option linter.unusedSimpArgs false
def eqAll {α β : Type} (p : α → β → Bool) : List α → List β → Bool
 | [], [] => true
 | x :: l, y :: m => p x y && eqAll p l m
 | _, _ => false
theorem eqAll_len {α β : Type} (p : α → β → Bool) : ∀ (l : List α) (m : List β), l.length ≠ m.length → eqAll p l m = false
 | [], [], h => absurd rfl h
 | [], _ :: _, _ => rfl
 | _ :: _, [], _ => rfl
 | x :: l, y :: m, h => by unfold eqAll; rw [eqAll_len p l m (fun e => h (by simp [e])), Bool.and_false]
set_option maxHeartbeats 8000000 in
set_option maxRecDepth 100000 in
theorem equal_func_item (gf : Nat) (lb : Array Value) (eg : ∀ args w, (callFunc gf args).run Try.prog w = .ok (.enter gf args) w) (p : S37 → S37 → Bool) (A0 A1 : Option Addr) (c0 c1 : Nat) (l0 l1 : List S37) (w : World) (hr0 : Kd.C k37 w A0 l0.length l0) (hr1 : Kd.C k37 w A1 l1.length l1)
  (hp : ∀ (i : Nat) (h0 : i < l0.length) (h1 : i < l1.length) (W : World), Below w.heap.size w W → ∀ cs ds, k37.K W l0[i] cs → k37.K W l1[i] ds → Calls Try.prog gf (#[.agg cs.toArray, .agg ds.toArray] ++ lb) W fun e W' => e = .returned (.bool (p l0[i] l1[i])) ∧ Below W.heap.size W W') :
  Calls Try.prog 49 #[.slice A0 l0.length c0, .slice A1 l1.length c1, .func (.func gf) #[] lb] w fun e w' => e = .returned (.bool (eqAll p l0 l1)) ∧ Below w.heap.size w w' := by
 have HR0 := Aside0.mk hr0
 have HR1 := Aside0.mk hr1
 have HB := Aside0.mk (Below.refl w.heap.size w)
 have HM := Aside0.mk (Kd.C_max hr0)
 have HP := Aside0.mk hp
 clear hr0 hr1 hp
 by_cases hl : l0.length = l1.length
 ·have hl1 : ((l0.length : Int) == (l1.length : Int)) = true := by simp [hl]
  have hl2 : (l0.length == l1.length) = true := by simp [hl]
  have hl3 : ((l0.length : Int) != (l1.length : Int)) = false := by simp [hl]
  have hl4 : (l0.length != l1.length) = false := by simp [hl]
  have hl5 : decide (l0.length = l1.length) = true := decide_eq_true hl
  have HL := Aside0.mk hl
  clear hl
  go_enter Try.func49, Try.ntmps49
  go_wp2
  go_loopg [17] l0.length (fun kq v17 w' => ∃ i : Nat, i + kq = l0.length ∧ v17 = .int .i64 i ∧ Aside0 (eqAll p l0 l1 = eqAll p (l0.drop i) (l1.drop i)) ∧ Aside0 (Below w.heap.size w w'))
  case atStart => exact ⟨0, by omega, rfl, ⟨rfl⟩, ⟨Below.refl _ _⟩⟩
  case round =>
   obtain ⟨i, hi, rfl, HI, HB⟩ := hrel
   have hm := HM.out
   cases gk with
   | zero =>
    obtain rfl : i = l0.length := by omega
    have HE : Aside0 (eqAll p l0 l1 = true) := ⟨by rw [HI.out, List.drop_eq_nil_of_le (Nat.le_refl _), List.drop_eq_nil_of_le (Nat.le_of_eq HL.out.symm)]; rfl⟩
    clear eg
    go_wp2
    go_ret
    exact ⟨by rw [HE.out]; rfl, HB.out⟩
   | succ k =>
    have hlt : i < l0.length := by omega
    have hlt1 : i < l1.length := by have := HL.out; omega
    obtain ⟨ad, A7, c7, e0, x0, x1, x2, x3, x4, x5, x6, x7, l7, g7⟩ := at_T37 (Kd.C_below HR0.out HB.out) (i : Int) (by omega) (by omega)
    rw [Int.toNat_natCast] at x0 x1 x2 x3 x4 x5 x6 x7
    have hrd : rd_T37 l0 (i : Int) = l0[i] := by unfold rd_T37; rw [Int.toNat_natCast, List.getD_eq_getElem?_getD, List.getElem?_eq_getElem hlt]; rfl
    rw [hrd] at x0 x1 x2 x3 x4 x5 x6 x7 l7 g7
    subst e0
    obtain ⟨x, hx⟩ : ∃ x, l0[i] = x := ⟨_, rfl⟩
    rw [hx] at x0 x1 x2 x3 x4 x5 x6 x7 l7 g7
    obtain ⟨ad1, B7, d7, e1, y0, y1, y2, y3, y4, y5, y6, y7, m7, h7⟩ := at_T37 (Kd.C_alloc (Kd.C_below HR1.out HB.out) (.cells #[.string x.f0, .string x.f1, .bool x.f2, .bool x.f3, .int .i64 x.f4, .int .i64 x.f5, .int .i64 x.f6, .slice A7 x.f7.length c7] 37 (0, 0))) (i : Int) (by omega) (by omega)
    rw [Int.toNat_natCast] at y0 y1 y2 y3 y4 y5 y6 y7
    have hrd1 : rd_T37 l1 (i : Int) = l1[i] := by unfold rd_T37; rw [Int.toNat_natCast, List.getD_eq_getElem?_getD, List.getElem?_eq_getElem hlt1]; rfl
    rw [hrd1] at y0 y1 y2 y3 y4 y5 y6 y7 m7 h7
    subst e1
    obtain ⟨y, hy⟩ : ∃ y, l1[i] = y := ⟨_, rfl⟩
    rw [hy] at y0 y1 y2 y3 y4 y5 y6 y7 m7 h7
    have HBA := Aside0.mk ((HB.out.alloc HB.out.size (.cells #[.string x.f0, .string x.f1, .bool x.f2, .bool x.f3, .int .i64 x.f4, .int .i64 x.f5, .int .i64 x.f6, .slice A7 x.f7.length c7] 37 (0, 0))).alloc (by simp; exact Nat.le_succ_of_le HB.out.size) (.cells #[.string y.f0, .string y.f1, .bool y.f2, .bool y.f3, .int .i64 y.f4, .int .i64 y.f5, .int .i64 y.f6, .slice B7 y.f7.length d7] 37 (0, 0)))
    have hpc := HP.out i hlt hlt1
    rw [hx, hy] at hpc
    have hcall := hpc _ HBA.out _ _ (k37_mk _ x l7 (Kd.C_alloc (Kd.C_alloc g7 (.cells #[.string x.f0, .string x.f1, .bool x.f2, .bool x.f3, .int .i64 x.f4, .int .i64 x.f5, .int .i64 x.f6, .slice A7 x.f7.length c7] 37 (0, 0))) (.cells #[.string y.f0, .string y.f1, .bool y.f2, .bool y.f3, .int .i64 y.f4, .int .i64 y.f5, .int .i64 y.f6, .slice B7 y.f7.length d7] 37 (0, 0)))) (k37_mk _ y m7 (Kd.C_alloc h7 (.cells #[.string y.f0, .string y.f1, .bool y.f2, .bool y.f3, .int .i64 y.f4, .int .i64 y.f5, .int .i64 y.f6, .slice B7 y.f7.length d7] 37 (0, 0))))
    clear hpc
    have HD : Aside0 (eqAll p l0 l1 = (p x y && eqAll p (l0.drop (i + 1)) (l1.drop (i + 1)))) := ⟨by rw [HI.out, List.drop_eq_getElem_cons hlt, List.drop_eq_getElem_cons hlt1, hx, hy]; rfl⟩
    have hlt' : (i : Int) < (l0.length : Int) := by omega
    have hlt1' : (i : Int) < (l1.length : Int) := by omega
    have h0 : (0 : Int) ≤ i := by omega
    have HI2 := Aside0.mk hi
    have HC := Aside0.mk hcall
    clear hx hy hrd hrd1 hi hcall l7 g7 m7 h7
    obtain ⟨v, hv⟩ : ∃ v, p x y = v := ⟨_, rfl⟩
    have HV := Aside0.mk hv
    clear hv
    cases v
    all_goals
     go_wp2_with (go_at_fn gf; refine HC.out.mono ?_; rintro e w2 ⟨rfl, hB2⟩; rw [HV.out]; have HB2 := Aside0.mk (HBA.out.trans (hB2.mono HBA.out.size)); clear hB2)
    ·go_ret
     exact ⟨by rw [HD.out, HV.out]; rfl, HB2.out⟩
    ·go_roundg k
     case measure => omega
     case rel => exact ⟨i + 1, by have := HI2.out; omega, by go_num, ⟨by rw [HD.out, HV.out]; simp⟩, HB2⟩
 ·have hl1 : ((l0.length : Int) == (l1.length : Int)) = false := by simpa using (fun h => hl (by omega) : ¬ (l0.length : Int) = (l1.length : Int))
  have hl2 : (l0.length == l1.length) = false := by simpa using hl
  have hl5 : decide (l0.length = l1.length) = false := decide_eq_false hl
  have HE : Aside0 (eqAll p l0 l1 = false) := ⟨eqAll_len p l0 l1 hl⟩
  clear eg
  go_enter Try.func49, Try.ntmps49
  go_wp2
  go_ret
  exact ⟨by rw [HE.out]; rfl, HB.out⟩
end Go.Proofs.Ytihpndignekheaa.F
end

section
namespace Go.Proofs.Ytihpndignekheaa.F
open Go.RowKit Go.Proofs.YtihpndignekheaaW.PrintWords Go.Proofs.YtihpndignekheaaW.PrintLast Go.Proofs.YtihpndignekheaaW.PrintMore
attribute [local go_sem] max2_int min2_int max_two min_two max_three min_three max_four min_four
set_option linter.unusedVariables false
set_option linter.unusedSimpArgs false
def alikeB (x y : ItemK) : Bool := decide (x.f0.toList = y.f0.toList) && (decide (x.f1.toList = y.f1.toList) && ((x.f2 == y.f2) && ((x.f3 == y.f3) && (decide (x.f4 = y.f4) && (decide (x.f5 = y.f5) && (decide (x.f6 = y.f6) && decide (x.f7 = y.f7)))))))
theorem equal_int_of (l m : List Int) (hl : l.length ≤ 9223372036854775807) (he : l.length = m.length) (d : Nat) : ∀ (k i : Nat), i + d = l.length → d < k → slices_Equal_int_int.l0 k l m (l.length : Int) (i : Int) = some (decide (l.drop i = m.drop i)) := by
  induction d with
  | zero =>
    intro k i hi hk
    obtain ⟨k, rfl⟩ : ∃ n, k = n + 1 := ⟨k - 1, by omega⟩
    simp only [slices_Equal_int_int.l0]
    rw [if_neg (by omega), List.drop_eq_nil_of_le (by omega), List.drop_eq_nil_of_le (by omega)]
    rfl
  | succ d ih =>
    intro k i hi hk
    obtain ⟨k, rfl⟩ : ∃ n, k = n + 1 := ⟨k - 1, by omega⟩
    simp only [slices_Equal_int_int.l0]
    have h1 : i < l.length := by omega
    have h2 : i < m.length := by omega
    rw [if_pos (by omega), if_pos (by omega), if_pos (by omega), if_pos (by omega)]
    have hr1 : rd l (i : Int) = l[i] := by unfold rd; rw [Int.toNat_natCast, List.getD_eq_getElem?_getD, List.getElem?_eq_getElem h1]; rfl
    have hr2 : rd m (i : Int) = m[i] := by unfold rd; rw [Int.toNat_natCast, List.getD_eq_getElem?_getD, List.getElem?_eq_getElem h2]; rfl
    have e1 := List.drop_eq_getElem_cons h1
    have e2 := List.drop_eq_getElem_cons h2
    rw [hr1, hr2]
    by_cases h : l[i] = m[i]
    · rw [if_pos h, show wrap64 ((i : Int) + 1) = ((i + 1 : Nat) : Int) by unfold wrap64; omega, ih k (i + 1) (by omega) (by omega), e1, e2, h]
      simp only [List.cons.injEq, true_and]
    · rw [if_neg h, e1, e2]
      simp only [List.cons.injEq, h, false_and, decide_false]
theorem equal_int (l m : List Int) (hl : l.length ≤ 9223372036854775807) : slices_Equal_int_int.f (l.length + 1) l m = some (decide (l = m)) := by
  unfold slices_Equal_int_int.f
  by_cases h : l.length = m.length
  · rw [if_pos (by omega)]
    have := equal_int_of l m hl h l.length (l.length + 1) 0 (by omega) (by omega)
    simpa using this
  · rw [if_neg (by omega)]
    rw [decide_eq_false (fun e => h (by rw [e]))]
theorem alikeB_eq (x y : ItemK) : alikeB x y = ((x.f0.toList == y.f0.toList) && ((x.f1.toList == y.f1.toList) && ((x.f2 == y.f2) && ((x.f3 == y.f3) && ((x.f4 == y.f4) && ((x.f5 == y.f5) && ((x.f6 == y.f6) && decide (x.f7 = y.f7)))))))) := by
  unfold alikeB
  rw [show decide (x.f0.toList = y.f0.toList) = (x.f0.toList == y.f0.toList) from by rw [Bool.eq_iff_iff]; simp]
  rw [show decide (x.f1.toList = y.f1.toList) = (x.f1.toList == y.f1.toList) from by rw [Bool.eq_iff_iff]; simp]
  rfl
theorem way_ (a : Bool) {p : Prop} (h : p) : a = false ∨ (a = true ∧ p) := by
  cases a
  · exact .inl rfl
  · exact .inr ⟨rfl, h⟩
set_option maxHeartbeats 8000000 in
theorem alike_walk (W : World) (x y : ItemK) (cs ds : List Value) (h0 : k37.K W x cs) (h1 : k37.K W y ds) : Calls Try.prog 50 (#[.agg cs.toArray, .agg ds.toArray] ++ #[]) W fun e W' => e = .returned (.bool (alikeB x y)) ∧ Below W.heap.size W W' := by
  obtain ⟨A7, c7, rfl, l7, g7⟩ := k37_open h0
  obtain ⟨B7, d7, rfl, m7, j7⟩ := k37_open h1
  have HC := Aside0.mk (fun (w2 : World) (hb : Below W.heap.size W w2) => slices_Equal_int_int.calls (x.f7.length + 1) A7 c7 x.f7 B7 d7 y.f7 _ w2 (Kd.C_below g7 hb) l7 (Kd.C_below j7 hb) m7 (equal_int x.f7 y.f7 (Kd.C_max g7)))
  rw [alikeB_eq]
  clear h0 h1 g7 j7 l7 m7
  obtain ⟨x0, x1, x2, x3, x4, x5, x6, x7⟩ := x
  obtain ⟨y0, y1, y2, y3, y4, y5, y6, y7⟩ := y
  dsimp only at HC ⊢
  have HB := Aside0.mk (below_alloc (below_alloc (Below.refl W.heap.size W) (.cells #[.string x0, .string x1, .bool x2, .bool x3, .int .i64 x4, .int .i64 x5, .int .i64 x6, .slice A7 x7.length c7] 37 (0, 0))) (.cells #[.string y0, .string y1, .bool y2, .bool y3, .int .i64 y4, .int .i64 y5, .int .i64 y6, .slice B7 y7.length d7] 37 (0, 0)))
  rcases way_ (x0.toList == y0.toList) (way_ (x1.toList == y1.toList) (way_ (x2 == y2) (way_ (x3 == y3) (way_ (x4 == y4) (way_ (x5 == y5) (way_ (x6 == y6) trivial)))))) with c | ⟨c, d | ⟨c1, d | ⟨c2, d | ⟨c3, d | ⟨c4, d | ⟨c5, d | ⟨c6, -⟩⟩⟩⟩⟩⟩⟩
  all_goals
    simp only [*, Bool.false_and, Bool.true_and]
    go_enter Try.func50, Try.ntmps50
    go_wp2_with (go_at_call 65; refine (HC.out _ HB.out).mono ?_; rintro e w' ⟨rfl, hb⟩; replace HB := Aside0.mk (HB.out.trans (hb.below.mono HB.out.size)); clear hb)
    go_ret
    exact ⟨rfl, HB.out⟩
def sagaOf (p : List ItemK) : List BodyK := bodiesF p 64 0
def nameP (p : List ItemK) : ByteArray := (rd_T37 p 0).f0
def rightB (p : List ItemK) : Bool := shapedB p && (checkB (nameP p) (sagaOf p) && eqAll alikeB p (makeL (nameP p) (sagaOf p)))
theorem cell_bel {W W2 : World} {a : Addr} {v : Value} (hb : Below W.heap.size W W2) (h : W.cell? a = some v) : W2.cell? a = some v := (hb.cell (World.block_lt_of_cell? W _ h)).trans h
structure SagaP (W1 w' : World) (v : Value) (g4 : Nat) (l : List BodyK) : Prop where
  below : Below W1.heap.size W1 w'
  saga : w'.heap[g4]? = some (.cells #[.string ⟨#[]⟩, .slice none 0 0] 86 (0, 0))
  old : W1.heap.size ≤ g4
  rows : Kd.R k82 82 w' W1.heap.size (fun k => k ≠ g4) v l
theorem saga_after {W1 w2 : World} {v : Value} {l : List BodyK} (hb : Below W1.drew.heap.size W1.drew w2) (hk : Kd.R k82 82 w2 W1.drew.heap.size (fun _ => True) v l) : SagaP W1 (w2.alloc (.cells #[.string ⟨#[]⟩, .slice none 0 0] 86)) v w2.heap.size l where
  below := ((below_drew (Below.refl W1.heap.size W1)).trans hb).alloc hb.size _
  saga := blk_new _ _
  old := hb.size
  rows := Kd.R_alloc (Kd.R_mono (Kd.R_bound hk) (fun k hk => by have := hk.2.2.1; omega)) _
theorem saga_ahead {W1 w2 : World} {v : Value} {l : List BodyK} (hb : Below (W1.alloc (.cells #[.string ⟨#[]⟩, .slice none 0 0] 86)).drew.heap.size (W1.alloc (.cells #[.string ⟨#[]⟩, .slice none 0 0] 86)).drew w2)
    (hk : Kd.R k82 82 w2 (W1.alloc (.cells #[.string ⟨#[]⟩, .slice none 0 0] 86)).drew.heap.size (fun _ => True) v l) : SagaP W1 w2 v W1.heap.size l where
  below := (below_drew ((Below.refl W1.heap.size W1).alloc (Nat.le_refl _) _)).trans (hb.mono (by simp))
  saga := blk_below (blk_drew (blk_new W1 _)) hb
  old := Nat.le_refl _
  rows := Kd.R_lower (Kd.R_mono (Kd.R_bound hk) (fun k hk => by have h1 := hk.2.1; simp at h1; omega)) (by simp)
def BackP (p : List ItemK) (w : World) (e : Ending) (w' : World) : Prop := Below w.heap.size w w' ∧ (if rightB p then ∃ v, e = .returned (.tuple #[.agg #[.string (nameP p), v], .int .i64 0]) ∧ Kd.R k82 82 w' w.heap.size (fun _ => True) v (sagaOf p) else e = .returned (.tuple #[.agg #[.string ⟨#[]⟩, .slice none 0 0], .int .i64 2]))
set_option maxHeartbeats 16000000 in
set_option maxRecDepth 100000 in
theorem back_walk (A : Option Addr) (c : Nat) (p : List ItemK) (w : World) (hC : k37.C w A p.length p) (hc : p.length ≤ c) (hbig : ∀ x ∈ p, x.f7.length ≤ 1000000) : Calls Try.prog 39 #[.agg #[.slice A p.length c]] w (BackP p w) := by
  have HC := Aside0.mk hC
  have HL := Aside0.mk hc
  have HBIG := Aside0.mk hbig
  have HE := Aside0.mk (enters_of Try.func50 (P := Try.prog) (f := 50) (by kernel_rfl) rfl)
  have HG0 := Aside0.mk (blk_alloc (blk_new w (.cells #[.slice A p.length c] 24 (0, 0))) (.cells #[.string ⟨#[]⟩, .slice none 0 0] 86 (0, 0)))
  have HG1 := Aside0.mk (blk_new (w.alloc (.cells #[.slice A p.length c] 24 (0, 0))) (.cells #[.string ⟨#[]⟩, .slice none 0 0] 86 (0, 0)))
  have HB0 := Aside0.mk (((Below.refl w.heap.size w).alloc (Nat.le_refl _) (.cells #[.slice A p.length c] 24 (0, 0))).alloc (by simp) (.cells #[.string ⟨#[]⟩, .slice none 0 0] 86 (0, 0)))
  rw [show (w.alloc (.cells #[.slice A p.length c] 24 (0, 0))).heap.size = w.heap.size + 1 from by simp] at HG1
  have HC0 := Aside0.mk (Kd.C_below HC.out HB0.out)
  have HSW := Aside0.mk (shaped_walk A c p _ HC0.out hc)
  clear hC hc hbig
  obtain ⟨o, ho⟩ : ∃ o, shapedB p = o := ⟨_, rfl⟩
  have HO := Aside0.mk ho
  rw [ho] at HSW
  clear ho
  go_enter Try.func39, Try.ntmps39
  cases o with
  | false =>
    go_wp2_with (go_at_call 47; refine HSW.out.mono ?_; rintro e w2 ⟨rfl, hb⟩; have HB2 := Aside0.mk (HB0.out.trans (hb.mono HB0.out.size)); have HG2 := Aside0.mk (blk_below HG1.out hb); have y0 : w2.cell? ⟨w.heap.size + 1, 0, none⟩ = some (.string ⟨#[]⟩) := (blk_cell HG2.out 0).trans rfl; have y1 : w2.cell? ⟨w.heap.size + 1, 1, none⟩ = some (.slice none 0 0) := (blk_cell HG2.out 1).trans rfl; have f0 := blk_frozen HG2.out 0; have f1 := blk_frozen HG2.out 1; clear hb)
    have HR := blk_put (blk_put HG2.out 0 (.string ⟨#[]⟩) rfl) 1 (.slice none 0 0) rfl
    refine bodyPost_ret (results_ct rfl _ _ (w.heap.size + 1) 86 #[.string ⟨#[]⟩, .slice none 0 0] (0, 0) _ rfl HR Try.underlying86 rfl (by kernel_rfl)) rfl ?_
    refine ⟨?_, ?_⟩
    · exact (HB2.out.setCell (p := ⟨w.heap.size + 1, 0, none⟩) (by show w.heap.size ≤ w.heap.size + 1; omega) _).setCell (p := ⟨w.heap.size + 1, 1, none⟩) (by show w.heap.size ≤ w.heap.size + 1; omega) _
    · rw [show rightB p = false from by unfold rightB; rw [HO.out]; rfl]
      rfl
  | true =>
    have HSL := Aside0.mk (shaped_len HO.out)
    go_wp2_with (go_at_call 47; refine HSW.out.mono ?_; rintro e w2 ⟨rfl, hb⟩; have HB2 := Aside0.mk (HB0.out.trans (hb.mono HB0.out.size)); have HG2 := Aside0.mk (blk_below HG1.out hb); have HGA := Aside0.mk (blk_below HG0.out hb); clear hb)
    have HC2 := Aside0.mk (Kd.C_below HC.out HB2.out)
    obtain ⟨ad, A7, c7, e0, z0, _⟩ := at_T37 HC2.out 0 (by omega) (by have := HSL.out.1; omega)
    subst e0
    have HX0 : Aside0 (w2.drew.cell? ad = some (.string (nameP p))) := ⟨by have h : w2.drew.cell? (ad.add ((0 : Int).toNat * 8)) = _ := z0; rw [show (0 : Int).toNat * 8 = 0 from rfl, show ad.add 0 = ad from by simp [Addr.add]] at h; exact h⟩
    have HWB : Aside0 (∀ W : World, k37.C W (some ad) p.length p → Calls Try.prog 48 #[.agg #[.slice (some ad) p.length c], .int .i64 0] W (BodiesP p 64 0 W)) := ⟨fun W h => planBodies_walk p HO.out HBIG.out 64 (some ad) c 0 W h HL.out HSL.out.1 (by have := HSL.out.2; omega)⟩
    have hp0 : (0 : Int) < (p.length : Int) := by have := HSL.out.1; omega
    have hp1 : 0 < p.length := HSL.out.1
    clear z0
    --MARK3
    refine start_ (n := 10) (S := fun w' => w'.cell? ⟨w.heap.size, 0, none⟩ = some (.slice (some ad) p.length c) ∧ w'.cell? ad = some (.string (nameP p))) (ds := [9]) #[false, false, false, false, false, false, false, false, false, false] (by kernel_rfl) rfl rfl ⟨((blk_cell (blk_drew HGA.out) 0).trans rfl), HX0.out⟩ (fun hHeld => ?_)
    refine pure_ (i := 0) (N := some 11) (v := ?_) (a' := ?_) #[true, false, false, false, false, false, false, false, false, false] rfl rfl (by kernel_rfl) (fun _ _ _ h => h) (Or.inl ⟨by rfl, ?_⟩) ?_ ?_
    rotate_left
    · intro w'
      go_simp
      with_reducible rfl
    rotate_left
    · simp only [Act.put, List.setIfInBounds_toArray, List.set_cons_zero, List.set_cons_succ, i64_w, i32_w]
      rfl
    refine take_ (i := 1) (N := some 12) (v := ?_) (a' := ?_) #[true, true, false, false, false, false, false, false, false, false] rfl rfl (by kernel_rfl) (fun _ _ _ h => h) (Or.inl ⟨by rfl, ?_⟩) hHeld ?_ ?_
    rotate_left
    · rintro w' ⟨s0, s1⟩
      go_simp
      with_reducible rfl
    rotate_left
    · simp only [Act.put, List.setIfInBounds_toArray, List.set_cons_zero, List.set_cons_succ, i64_w, i32_w]
      rfl
    refine pure_ (i := 2) (N := some 13) (v := ?_) (a' := ?_) #[true, true, true, false, false, false, false, false, false, false] rfl rfl (by kernel_rfl) (fun _ _ _ h => h) (Or.inl ⟨by rfl, ?_⟩) ?_ ?_
    rotate_left
    · intro w'
      go_simp
      with_reducible rfl
    rotate_left
    · simp only [Act.put, List.setIfInBounds_toArray, List.set_cons_zero, List.set_cons_succ, i64_w, i32_w]
      rfl
    refine pure_ (i := 3) (N := some 14) (v := ?_) (a' := ?_) #[true, true, true, true, false, false, false, false, false, false] rfl rfl (by kernel_rfl) (fun _ _ _ h => h) (Or.inl ⟨by rfl, ?_⟩) ?_ ?_
    rotate_left
    · intro w'
      go_simp
      with_reducible rfl
    rotate_left
    · simp only [Act.put, List.setIfInBounds_toArray, List.set_cons_zero, List.set_cons_succ, i64_w, i32_w]
      rfl
    refine take_ (i := 4) (N := some 15) (v := ?_) (a' := ?_) #[true, true, true, true, true, false, false, false, false, false] rfl rfl (by kernel_rfl) (fun _ _ _ h => h) (Or.inl ⟨by rfl, ?_⟩) hHeld ?_ ?_
    rotate_left
    · rintro w' ⟨s0, s1⟩
      go_simp
      with_reducible rfl
    rotate_left
    · simp only [Act.put, List.setIfInBounds_toArray, List.set_cons_zero, List.set_cons_succ, i64_w, i32_w]
      rfl
    refine take_ (i := 5) (N := some 16) (v := ?_) (a' := ?_) #[true, true, true, true, true, true, false, false, false, false] rfl rfl (by kernel_rfl) (fun _ _ _ h => h) (Or.inl ⟨by rfl, ?_⟩) hHeld ?_ ?_
    rotate_left
    · rintro w' ⟨s0, s1⟩
      go_simp
      with_reducible rfl
    rotate_left
    · simp only [Act.put, List.setIfInBounds_toArray, List.set_cons_zero, List.set_cons_succ, i64_w, i32_w]
      rfl
    refine join_ (σ := Option Addr × Nat × Nat) 1 #[true, true, true, true, true, true, true, true, true, false] (fun s => [(17, .slice s.1 (sagaOf p).length s.2.1), (4, .pointer (some ⟨s.2.2, 0, none⟩)), (18, .agg #[.string (nameP p), .slice s.1 (sagaOf p).length s.2.1])]) (fun s w' => SagaP w2 w' (.slice s.1 (sagaOf p).length s.2.1) s.2.2 (sagaOf p)) ?_ ?_
    rotate_left
    · intro hCont
      refine two_ (i := 6) (j := 8) (Ni := some 17) (Nj := some 4) #[true, true, true, true, true, true, true, false, false, false] #[true, true, true, true, true, true, false, false, true, false] rfl rfl rfl rfl (by kernel_rfl) (by decide) (by decide) (fun K hK => ?_) (fun K hK => ?_)
      · skip
        refine goes_ Try.func48 (by kernel_rfl) rfl #[.agg #[.slice (some ad) p.length c], .int .i64 0] (by rfl) rfl rfl (by first | rfl | (simp only [List.map_toArray, List.map_cons, List.map_nil]; rfl)) ?_
        with_reducible refine ((HWB.out w2.drew (Kd.C_drew HC2.out))).mono ?_
        rintro e w3 ⟨hb, vk, rfl, hK2⟩
        refine ⟨_, rfl, ?_⟩
        rw [show bodiesF p 64 0 = sagaOf p from rfl] at hK2
        obtain ⟨Ak, ck, rfl⟩ := Kd.R_slice hK2
        have HBK := Aside0.mk hb
        have HK2 := Aside0.mk hK2
        clear hb hK2
        refine hK.out _ _ ⟨(cell_bel HBK.out hHeld.1), (cell_bel HBK.out hHeld.2)⟩ (fun hHeld => ?_)
        clear hK K
        refine norm_ (a' := ?_) ?_ ?_
        rotate_left
        · show Act.put _ (some 17) _ = _
          simp only [Act.put, List.setIfInBounds_toArray, List.set_cons_zero, List.set_cons_succ, i64_w, i32_w]
          rfl
        refine pure_ (i := 7) (N := some 18) (v := ?_) (a' := ?_) #[true, true, true, true, true, true, true, true, false, false] rfl rfl (by kernel_rfl) (fun _ _ _ h => h) (Or.inl ⟨by rfl, ?_⟩) ?_ ?_
        rotate_left
        · intro w'
          go_simp
          with_reducible rfl
        rotate_left
        · simp only [Act.put, List.setIfInBounds_toArray, List.set_cons_zero, List.set_cons_succ, i64_w, i32_w]
          rfl
        refine one_ (i := 8) (N := some 4) #[true, true, true, true, true, true, true, true, true, false] rfl rfl (by kernel_rfl) (by decide) (fun K hK => ?_)
        refine value_ (w1 := ?_) (v := ?_) (by rfl) rfl ?_ ?_
        rotate_left 2
        · go_simp
          constructor
          · rfl
          · rfl
        refine hK.out _ _ ⟨(cell_al hHeld.1), (cell_al hHeld.2)⟩ (fun hHeld => ?_)
        clear hK K
        refine norm_ (a' := ?_) ?_ ?_
        rotate_left
        · show Act.put _ (some 4) _ = _
          simp only [Act.put, List.setIfInBounds_toArray, List.set_cons_zero, List.set_cons_succ, i64_w, i32_w]
          rfl
        exact norm_ (by simp only [putAll, Act.put, List.setIfInBounds_toArray, List.set_cons_zero, List.set_cons_succ]) (hCont (Ak, ck, w3.heap.size) _ (saga_after HBK.out HK2.out))
      · skip
        refine value_ (w1 := ?_) (v := ?_) (by rfl) rfl ?_ ?_
        rotate_left 2
        · go_simp
          constructor
          · rfl
          · rfl
        refine hK.out _ _ ⟨(cell_al hHeld.1), (cell_al hHeld.2)⟩ (fun hHeld => ?_)
        clear hK K
        refine norm_ (a' := ?_) ?_ ?_
        rotate_left
        · show Act.put _ (some 4) _ = _
          simp only [Act.put, List.setIfInBounds_toArray, List.set_cons_zero, List.set_cons_succ, i64_w, i32_w]
          rfl
        refine one_ (i := 6) (N := some 17) #[true, true, true, true, true, true, true, false, true, false] rfl rfl (by kernel_rfl) (by decide) (fun K hK => ?_)
        refine goes_ Try.func48 (by kernel_rfl) rfl #[.agg #[.slice (some ad) p.length c], .int .i64 0] (by rfl) rfl rfl (by first | rfl | (simp only [List.map_toArray, List.map_cons, List.map_nil]; rfl)) ?_
        with_reducible refine ((HWB.out _ (Kd.C_drew (Kd.C_alloc HC2.out _)))).mono ?_
        rintro e w3 ⟨hb, vk, rfl, hK2⟩
        refine ⟨_, rfl, ?_⟩
        rw [show bodiesF p 64 0 = sagaOf p from rfl] at hK2
        obtain ⟨Ak, ck, rfl⟩ := Kd.R_slice hK2
        have HBK := Aside0.mk hb
        have HK2 := Aside0.mk hK2
        clear hb hK2
        refine hK.out _ _ ⟨(cell_bel HBK.out hHeld.1), (cell_bel HBK.out hHeld.2)⟩ (fun hHeld => ?_)
        clear hK K
        refine norm_ (a' := ?_) ?_ ?_
        rotate_left
        · show Act.put _ (some 17) _ = _
          simp only [Act.put, List.setIfInBounds_toArray, List.set_cons_zero, List.set_cons_succ, i64_w, i32_w]
          rfl
        refine pure_ (i := 7) (N := some 18) (v := ?_) (a' := ?_) #[true, true, true, true, true, true, true, true, true, false] rfl rfl (by kernel_rfl) (fun _ _ _ h => h) (Or.inl ⟨by rfl, ?_⟩) ?_ ?_
        rotate_left
        · intro w'
          go_simp
          with_reducible rfl
        rotate_left
        · simp only [Act.put, List.setIfInBounds_toArray, List.set_cons_zero, List.set_cons_succ, i64_w, i32_w]
          rfl
        exact norm_ (by simp only [putAll, Act.put, List.setIfInBounds_toArray, List.set_cons_zero, List.set_cons_succ]) (hCont (Ak, ck, w2.heap.size) _ (saga_ahead HBK.out HK2.out))
    rintro ⟨Ak, ck, g4⟩ W6 HF6
    have HKP : Aside0 (SagaP w2 W6 (.slice Ak (sagaOf p).length ck) g4 (sagaOf p)) := ⟨HF6⟩
    have q0 := (blk_cell HKP.out.saga 0).trans rfl
    have q1 := (blk_cell HKP.out.saga 1).trans rfl
    have y0 := blk_frozen HKP.out.saga 0
    have y1 := blk_frozen HKP.out.saga 1
    clear HF6
    refine norm_ (a' := ?_) ?_ ?_
    rotate_left
    · simp only [putAll, Act.put, List.setIfInBounds_toArray, List.set_cons_zero, List.set_cons_succ]
      rfl
    refine last_ (i := 9) (N := none) #[true, true, true, true, true, true, true, true, true, true] rfl rfl (by kernel_rfl) (by decide) (fun K hK => ?_)
    refine skip_ (w1 := ?_) (by rfl) rfl ?_ ?_
    rotate_left
    · go_simp
      rfl
    refine hK.out _ _ ?_
    clear hK K
    refine done_ (by kernel_rfl) ?_
    --END3
    have HK6 := Aside0.mk HKP.out
    have HG4 := Aside0.mk (blk_put (blk_put HK6.out.saga 0 (.string (nameP p)) rfl) 1 (.slice Ak (sagaOf p).length ck) rfl)
    have HK7 := Aside0.mk (Kd.R_far (p := ⟨g4, 1, none⟩) (Kd.R_far (p := ⟨g4, 0, none⟩) HK6.out.rows (fun _ hk => hk) (.string (nameP p))) (fun _ hk => hk) (.slice Ak (sagaOf p).length ck))
    have HB7 := Aside0.mk (((HB2.out.trans (HK6.out.below.mono HB2.out.size)).setCell (p := ⟨g4, 0, none⟩) (Nat.le_trans HB2.out.size HK6.out.old) (.string (nameP p))).setCell (p := ⟨g4, 1, none⟩) (Nat.le_trans HB2.out.size HK6.out.old) (.slice Ak (sagaOf p).length ck))
    have HR7 := Aside0.mk ((Below.heap_setCell (W6.setCell ⟨g4, 0, none⟩ (.string (nameP p))) ⟨g4, 1, none⟩ (.slice Ak (sagaOf p).length ck) (w.heap.size + 1) (by have h1 := blk_lt HG2.out; have h2 := HK6.out.old; show w.heap.size + 1 ≠ g4; omega)).trans ((Below.heap_setCell W6 ⟨g4, 0, none⟩ (.string (nameP p)) (w.heap.size + 1) (by have h1 := blk_lt HG2.out; have h2 := HK6.out.old; show w.heap.size + 1 ≠ g4; omega)).trans (blk_below HG2.out HK6.out.below)))
    have HP7 := Aside0.mk ((Below.heap_setCell (W6.setCell ⟨g4, 0, none⟩ (.string (nameP p))) ⟨g4, 1, none⟩ (.slice Ak (sagaOf p).length ck) w.heap.size (by have h1 := blk_lt HGA.out; have h2 := HK6.out.old; show w.heap.size ≠ g4; omega)).trans ((Below.heap_setCell W6 ⟨g4, 0, none⟩ (.string (nameP p)) w.heap.size (by have h1 := blk_lt HGA.out; have h2 := HK6.out.old; show w.heap.size ≠ g4; omega)).trans (blk_below HGA.out HK6.out.below)))
    clear q0 q1 y0 y1 hHeld HK6 HKP
    generalize (W6.setCell ⟨g4, 0, none⟩ (.string (nameP p))).setCell ⟨g4, 1, none⟩ (.slice Ak (sagaOf p).length ck) = W7 at HG4 HK7 HB7 HR7 HP7 ⊢
    have q0 : W7.cell? ⟨g4, 0, none⟩ = some (.string (nameP p)) := (blk_cell HG4.out 0).trans rfl
    have q1 : W7.cell? ⟨g4, 1, none⟩ = some (.slice Ak (sagaOf p).length ck) := (blk_cell HG4.out 1).trans rfl
    have HMK := Aside0.mk (make_walk (nameP p) Ak ck (sagaOf p) W7 (Kd.R_reads' HK7.out).2.2 (Kd.R_reads' HK7.out).2.1)
    have HKR : Aside0 (∀ W, Below W7.heap.size W7 W → Kd.R k82 82 W w.heap.size (fun _ => True) (.slice Ak (sagaOf p).length ck) (sagaOf p)) := ⟨fun W h => Kd.R_lower (Kd.R_mono (Kd.R_below HK7.out h) (fun _ _ => trivial)) HB2.out.size⟩
    obtain ⟨o2, ho2⟩ : ∃ o, checkB (nameP p) (sagaOf p) = o := ⟨_, rfl⟩
    have HO2 := Aside0.mk ho2
    clear ho2
    have hfs : ∀ W : World, Below W7.heap.size W7 W → W.cell? ⟨g4, 0, none⟩ = some (.string (nameP p)) ∧ W.cell? ⟨g4, 1, none⟩ = some (.slice Ak (sagaOf p).length ck) ∧ W.heap[w.heap.size + 1]? = some (.cells #[.string ⟨#[]⟩, .slice none 0 0] 86 (0, 0)) ∧ W.heap[w.heap.size]? = some (.cells #[.slice (some ad) p.length c] 24 (0, 0)) := fun W h => ⟨cell_bel h q0, cell_bel h q1, blk_below HR7.out h, blk_below HP7.out h⟩
    have HFS := Aside0.mk hfs
    clear hfs
    cases o2 with
    | false =>
      go_wp2_with (go_at_call 33; refine HMK.out.mono ?_; rintro e w8 ⟨hb, he⟩; rw [HO2.out, if_neg (by simp)] at he; subst he; have HB8 := Aside0.mk hb; have HGR := Aside0.mk (HFS.out _ hb).2.2.1; have HGP := Aside0.mk (HFS.out _ hb).2.2.2; have y0 : w8.cell? ⟨w.heap.size + 1, 0, none⟩ = some (.string ⟨#[]⟩) := (blk_cell HGR.out 0).trans rfl; have y1 : w8.cell? ⟨w.heap.size + 1, 1, none⟩ = some (.slice none 0 0) := (blk_cell HGR.out 1).trans rfl; have f0 := blk_frozen HGR.out 0; have f1 := blk_frozen HGR.out 1; have p0 : w8.cell? ⟨w.heap.size, 0, none⟩ = some (.slice (some ad) p.length c) := (blk_cell HGP.out 0).trans rfl; have hn1 : w.heap.size + 1 < w8.heap.size := blk_lt HGR.out; have hn2 : ¬ (w.heap.size + 1 = w8.heap.size) := (by omega); have hn3 : ¬ (w8.heap.size = w.heap.size + 1) := (by omega); have hn4 : w.heap.size < w8.heap.size := (by omega); have hn5 : ¬ (w.heap.size = w8.heap.size) := (by omega); clear hb q0 q1)
      have HR := blk_alloc (blk_put (blk_put HGR.out 0 (.string ⟨#[]⟩) rfl) 1 (.slice none 0 0) rfl) (.cells #[.slice none 0 0] 24 (0, 0))
      refine bodyPost_ret (results_ct rfl _ _ (w.heap.size + 1) 86 #[.string ⟨#[]⟩, .slice none 0 0] (0, 0) _ rfl HR Try.underlying86 rfl (by kernel_rfl)) rfl ?_
      refine ⟨?_, ?_⟩
      · have h1 := ((HB7.out.trans (HB8.out.mono HB7.out.size)).setCell (p := ⟨w.heap.size + 1, 0, none⟩) (by show w.heap.size ≤ w.heap.size + 1; omega) (.string ⟨#[]⟩)).setCell (p := ⟨w.heap.size + 1, 1, none⟩) (by show w.heap.size ≤ w.heap.size + 1; omega) (.slice none 0 0)
        exact h1.alloc h1.size _
      · rw [show rightB p = false from by unfold rightB; rw [HO2.out, Bool.false_and, Bool.and_false]]
        rfl
    | true =>
      obtain ⟨o3, ho3⟩ : ∃ o, eqAll alikeB p (makeL (nameP p) (sagaOf p)) = o := ⟨_, rfl⟩
      have HO3 := Aside0.mk ho3
      clear ho3
      cases o3
      all_goals
        go_wp2_with (first
          | (go_at_call 33; refine HMK.out.mono ?_; rintro e w8 ⟨hb, he⟩; rw [HO2.out, if_pos rfl] at he; obtain ⟨vM, rfl, hSM⟩ := he; have hRM := Kd.S_R hSM; obtain ⟨AM, cM, rfl⟩ := Kd.R_slice hRM; have HB8 := Aside0.mk hb; have HGR := Aside0.mk (HFS.out _ hb).2.2.1; have HGP := Aside0.mk (HFS.out _ hb).2.2.2; have p0 : w8.cell? ⟨w.heap.size, 0, none⟩ = some (.slice (some ad) p.length c) := (blk_cell HGP.out 0).trans rfl
             have HCP : Aside0 (∀ W, Below w8.heap.size w8 W → k37.C W (some ad) p.length p ∧ k37.C W AM (makeL (nameP p) (sagaOf p)).length (makeL (nameP p) (sagaOf p))) := ⟨fun W h => ⟨Kd.C_below (Kd.C_below HC.out (HB7.out.trans (hb.mono HB7.out.size))) h, Kd.C_below (Kd.R_reads' hRM).2.2 h⟩⟩
             have hn1 : w.heap.size + 1 < w8.heap.size := blk_lt HGR.out; have hn2 : ¬ (w.heap.size + 1 = w8.heap.size) := (by omega); have hn3 : ¬ (w8.heap.size = w.heap.size + 1) := (by omega); have hn4 : w.heap.size < w8.heap.size := (by omega); have hn5 : ¬ (w.heap.size = w8.heap.size) := (by omega); clear hb q0 q1 hRM hSM)
          | (go_at_call 49; refine (equal_func_item 50 #[] HE.out alikeB (some ad) AM c cM p (makeL (nameP p) (sagaOf p)) _ (HCP.out _ ((Below.refl _ _).alloc (Nat.le_refl _) _)).1 (HCP.out _ ((Below.refl _ _).alloc (Nat.le_refl _) _)).2 (fun i h0 h1 W hW cs ds h2 h3 => alike_walk W _ _ cs ds h2 h3)).mono ?_; rintro e w9 ⟨rfl, hb⟩; rw [HO3.out]
             have HB9 := Aside0.mk ((HB8.out.alloc HB8.out.size (.cells #[.slice AM (makeL (nameP p) (sagaOf p)).length cM] 24 (0, 0))).trans (hb.mono (by have := HB8.out.size; simp; omega)))
             have HFS9 := Aside0.mk (HFS.out _ HB9.out); have r0 : w9.cell? ⟨w.heap.size + 1, 0, none⟩ = some (.string ⟨#[]⟩) := (blk_cell HFS9.out.2.2.1 0).trans rfl; have r1 : w9.cell? ⟨w.heap.size + 1, 1, none⟩ = some (.slice none 0 0) := (blk_cell HFS9.out.2.2.1 1).trans rfl; have f0 := blk_frozen HFS9.out.2.2.1 0; have f1 := blk_frozen HFS9.out.2.2.1 1; have g0 := HFS9.out.1; have g1 := HFS9.out.2.1; clear hb p0 hn1 hn2 hn3 hn4 hn5))
      · have HR := blk_put (blk_put HFS9.out.2.2.1 0 (.string ⟨#[]⟩) rfl) 1 (.slice none 0 0) rfl
        refine bodyPost_ret (results_ct rfl _ _ (w.heap.size + 1) 86 #[.string ⟨#[]⟩, .slice none 0 0] (0, 0) _ rfl HR Try.underlying86 rfl (by kernel_rfl)) rfl ?_
        refine ⟨?_, ?_⟩
        · exact ((HB7.out.trans (HB9.out.mono HB7.out.size)).setCell (p := ⟨w.heap.size + 1, 0, none⟩) (by show w.heap.size ≤ w.heap.size + 1; omega) (.string ⟨#[]⟩)).setCell (p := ⟨w.heap.size + 1, 1, none⟩) (by show w.heap.size ≤ w.heap.size + 1; omega) (.slice none 0 0)
        · rw [show rightB p = false from by unfold rightB; rw [HO3.out, Bool.and_false, Bool.and_false]]
          rfl
      · have HR := blk_put (blk_put HFS9.out.2.2.1 0 (.string (nameP p)) rfl) 1 (.slice Ak (sagaOf p).length ck) rfl
        refine bodyPost_ret (results_ct rfl _ _ (w.heap.size + 1) 86 #[.string (nameP p), .slice Ak (sagaOf p).length ck] (0, 0) _ rfl HR Try.underlying86 rfl (by kernel_rfl)) rfl ?_
        refine ⟨?_, ?_⟩
        · exact ((HB7.out.trans (HB9.out.mono HB7.out.size)).setCell (p := ⟨w.heap.size + 1, 0, none⟩) (by show w.heap.size ≤ w.heap.size + 1; omega) (.string (nameP p))).setCell (p := ⟨w.heap.size + 1, 1, none⟩) (by show w.heap.size ≤ w.heap.size + 1; omega) (.slice Ak (sagaOf p).length ck)
        · rw [show rightB p = true from by unfold rightB; rw [HO.out, HO2.out, HO3.out]; rfl, if_pos rfl]
          refine ⟨_, rfl, ?_⟩
          have hlt := blk_lt HG2.out
          have h1 := Kd.R_mono (Kd.R_bound (Kd.R_below HK7.out HB9.out)) (fun k hk => (by have := hk.2.1; omega : k ≠ w.heap.size + 1))
          exact Kd.R_mono (Kd.R_lower (Kd.R_far (p := ⟨w.heap.size + 1, 1, none⟩) (Kd.R_far (p := ⟨w.heap.size + 1, 0, none⟩) h1 (fun _ hk => hk) _) (fun _ hk => hk) _) HB2.out.size) (fun _ _ => trivial)
set_option maxHeartbeats 8000000 in
set_option maxRecDepth 100000 in
theorem right_walk (A : Option Addr) (c : Nat) (p : List ItemK) (w : World) (hC : k37.C w A p.length p) (hc : p.length ≤ c) (hbig : ∀ x ∈ p, x.f7.length ≤ 1000000) : Calls Try.prog 30 #[.agg #[.slice A p.length c]] w fun e w' => e = .returned (.bool (rightB p)) ∧ Below w.heap.size w w' := by
  have HB0 := Aside0.mk ((Below.refl w.heap.size w).alloc (Nat.le_refl _) (.cells #[.slice A p.length c] 24 (0, 0)))
  have HBK := Aside0.mk (back_walk A c p _ (Kd.C_below hC HB0.out) hc hbig)
  clear hC hc hbig
  obtain ⟨o, ho⟩ : ∃ o, rightB p = o := ⟨_, rfl⟩
  have HO := Aside0.mk ho
  clear ho
  go_enter Try.func30, Try.ntmps30
  cases o with
  | false =>
    go_wp2_with (go_at_call 39; refine HBK.out.mono ?_; rintro e w2 ⟨hb, he⟩; rw [HO.out, if_neg (by simp)] at he; subst he; have HB2 := Aside0.mk (HB0.out.trans (hb.mono (by simp))); clear hb)
    go_ret
    exact ⟨by rw [HO.out]; rfl, HB2.out.alloc HB2.out.size _⟩
  | true =>
    go_wp2_with (go_at_call 39; refine HBK.out.mono ?_; rintro e w2 ⟨hb, he⟩; rw [HO.out, if_pos rfl] at he; obtain ⟨vB, rfl, hR⟩ := he; obtain ⟨AB, cB, rfl⟩ := Kd.R_slice hR; have HB2 := Aside0.mk (HB0.out.trans (hb.mono (by simp))); clear hb hR)
    go_ret
    exact ⟨by rw [HO.out]; rfl, HB2.out.alloc HB2.out.size _⟩
def plan_Right.f (l0 : List S37) : Option Bool := if l0.all (fun x => decide (x.f7.length ≤ 1000000)) then some (rightB l0) else none
theorem plan_Right.calls (A0 : Option Addr) (c0 : Nat) (l0 : List S37) (r : Bool) (w : World) (hr0 : Kd.C k37 w A0 l0.length l0) (hc0 : l0.length ≤ c0) (h : plan_Right.f l0 = some r) :
    Calls Try.prog 30 #[.agg #[.slice A0 l0.length c0]] w fun e w' => e = .returned (.bool r) ∧ Below w.heap.size w w' := by
  unfold plan_Right.f at h
  split at h
  · rename_i hb
    obtain rfl := Option.some.inj h
    rw [List.all_eq_true] at hb
    exact right_walk A0 c0 l0 w hr0 hc0 (fun x hx => by simpa using hb x hx)
  · cases h
end Go.Proofs.Ytihpndignekheaa.F
end

section
namespace Go.Proofs.Ytihpndignekheaa.F
open Go.RowKit Go.Proofs.YtihpndignekheaaW.PrintWords Go.Proofs.YtihpndignekheaaW.PrintLast Go.Proofs.YtihpndignekheaaW.PrintMore
attribute [local go_sem] max2_int min2_int max_two min_two max_three min_three max_four min_four
set_option linter.unusedVariables false
set_option linter.unusedSimpArgs false
def fineB (f : S59) : Bool := decide (0 ≤ f.f0) && decide (f.f0 ≤ 3) && decide (0 ≤ f.f2) && decide (f.f2 ≤ 3) && (decide (f.f1 = f.f2) || decide (f.f1 = f.f2 + 1)) && (!decide (f.f1 > 0) || decide (f.f0 = 2)) && (!f.f3 || decide (f.f1 > f.f2))
def zeroB (f : S59) : Bool := !((!((f.f0) == 0) || (!((f.f1) == 0) || (!((f.f2) == 0) || ((f.f3))))))
def factOk (p : List S37) (l : List S59) (j : Nat) : Bool := fineB (rd_T59 l j) && (!(rd_T37 p j).f2 || zeroB (rd_T59 l j))
def factsB (p : List S37) (l : List S59) : Bool := decide (l.length = p.length) && (rightB p && (List.range' 0 l.length).all (factOk p l))
def smallP (p : List S37) : Bool := p.all fun x => decide (x.f7.length ≤ 1000000)
theorem fine_ways (a b c : Int) : a < 0 ∨ (¬ a < 0 ∧ a > 3) ∨ (¬ a < 0 ∧ ¬ a > 3 ∧ c < 0) ∨ (¬ a < 0 ∧ ¬ a > 3 ∧ ¬ c < 0 ∧ c > 3) ∨ (¬ a < 0 ∧ ¬ a > 3 ∧ ¬ c < 0 ∧ ¬ c > 3 ∧
  (b = c ∨ (¬ b = c ∧ b = c + 1) ∨ (¬ b = c ∧ ¬ b = c + 1)) ∧ (¬ b > 0 ∨ (b > 0 ∧ ¬ a = 2) ∨ (b > 0 ∧ a = 2))) := by omega
set_option maxHeartbeats 8000000 in
theorem fine_walk (f : S59) (w : World) : Calls Try.prog 35 #[.agg #[.int .i64 f.f0, .int .i64 f.f1, .int .i64 f.f2, .bool f.f3]] w fun e w' => e = .returned (.bool (fineB f)) ∧ Below w.heap.size w w' := by
 obtain ⟨a, b, c, d⟩ := f
 unfold fineB
 dsimp only
 rcases fine_ways a b c with h | ⟨h1, h⟩ | ⟨h1, h2, h⟩ | ⟨h1, h2, h3, h⟩ | ⟨h1, h2, h3, h4, h5 | ⟨h5, h7⟩ | ⟨h5, h7⟩, h6 | ⟨h6, h8⟩ | ⟨h6, h8⟩⟩
 all_goals
  try (have hw : wrap64 (c + 1) = c + 1 := by unfold wrap64; omega)
  cases d
 all_goals first | (exfalso; omega) | skip
 all_goals
  go_enter Try.func35, Try.ntmps35
  go_wp2
  go_ret
  refine ⟨?_, below_alloc (Below.refl _ _) _⟩
  first | rfl | (simp [*]; done) | (simp [*] <;> omega)
theorem zero_eq (f : S59) (h : zeroB f = true) : f = ⟨0, 0, 0, false⟩ := by
 obtain ⟨a, b, c, d⟩ := f
 unfold zeroB at h
 simp at h
 obtain ⟨rfl, rfl, rfl, rfl⟩ := h
 rfl
def fact_Check.f (k : Nat) (l0_0 : List S37) (l1 : List S59) : Option Int := if smallP l0_0 && decide (l1.length ≤ 1000000) then some (if factsB l0_0 l1 then 0 else 2) else none
set_option maxHeartbeats 8000000 in
set_option maxRecDepth 100000 in
theorem fact_check_walk (A0_0 : Option Addr) (c0_0 : Nat) (p : List S37) (A1 : Option Addr) (c1 : Nat) (l : List S59) (w : World) (hr0_0 : Kd.C k37 w A0_0 p.length p) (hc0_0 : p.length ≤ c0_0) (hr1 : Kd.C k59 w A1 l.length l) (hc1 : l.length ≤ c1) (hsm : smallP p = true) (hl6 : l.length ≤ 1000000) :
  Calls Try.prog 28 #[.agg #[.slice A0_0 p.length c0_0], .slice A1 l.length c1] w fun e w' => e = .returned (.int .i64 (if factsB p l then 0 else 2)) ∧ Below w.heap.size w w' := by
 have HP := Aside0.mk hr0_0
 have HL := Aside0.mk hr1
 have HB0 := Aside0.mk (below_alloc (Below.refl w.heap.size w) (.cells #[.slice A0_0 p.length c0_0] 24 (0, 0)))
 have HG0 := Aside0.mk (blk_new w (.cells #[.slice A0_0 p.length c0_0] 24 (0, 0)))
 have HR := Aside0.mk (fun (W : World) (hb : Below w.heap.size w W) => plan_Right.calls A0_0 c0_0 p (rightB p) W (Kd.C_below hr0_0 hb) hc0_0 (by unfold plan_Right.f; rw [if_pos (by exact hsm)]))
 have HM := Aside0.mk (Kd.C_max hr0_0)
 obtain ⟨tR, htR⟩ : ∃ q, factsB p l = q := ⟨_, rfl⟩
 have HTR := Aside0.mk htR
 obtain ⟨rr, hrr⟩ : ∃ q : Int, (if factsB p l then (0 : Int) else 2) = q := ⟨_, rfl⟩
 rw [hrr]
 have HYES : Aside0 (tR = true → rr = 0) := ⟨fun e => by rw [← hrr, htR, e]; rfl⟩
 have HNO : Aside0 (tR = false → rr = 2) := ⟨fun e => by rw [← hrr, htR, e]; rfl⟩
 clear hr0_0 hr1 hsm hc0_0 hc1 htR hrr
 by_cases hpl : l.length = p.length
 case neg =>
  have hne : ¬ (l.length : Int) = (p.length : Int) := by omega
  have hbn : ((l.length : Int) == (p.length : Int)) = false := beq_eq_false_iff_ne.2 hne
  have hFB : Aside0 (tR = false) := ⟨by rw [← HTR.out]; unfold factsB; rw [decide_eq_false hpl]; rfl⟩
  clear hpl HTR
  go_enter Try.func28, Try.ntmps28
  go_wp2
  go_ret
  exact ⟨by rw [HNO.out hFB.out]; rfl, HB0.out⟩
 have hee : (l.length : Int) = (p.length : Int) := by omega
 have HPL := Aside0.mk hpl
 obtain ⟨b, hb⟩ : ∃ b, rightB p = b := ⟨_, rfl⟩
 have HRB := Aside0.mk hb
 rw [hb] at HR
 clear hb hpl
 cases b with
 | false =>
  have hFB : Aside0 (tR = false) := ⟨by rw [← HTR.out]; unfold factsB; rw [HRB.out, Bool.false_and, Bool.and_false]⟩
  clear HTR
  go_enter Try.func28, Try.ntmps28
  go_wp2_with (go_at_call 30; refine (HR.out _ HB0.out).mono ?_; rintro e w2 ⟨rfl, hb⟩; have HB2 := Aside0.mk (HB0.out.trans (hb.mono HB0.out.size)); clear hb)
  go_ret
  exact ⟨by rw [HNO.out hFB.out]; rfl, HB2.out⟩
 | true =>
  have HAL : Aside0 (tR = (List.range' 0 l.length).all (factOk p l)) := ⟨by rw [← HTR.out]; unfold factsB; rw [HRB.out, decide_eq_true HPL.out]; rfl⟩
  clear HTR
  go_enter Try.func28, Try.ntmps28
  go_wp2_with (go_at_call 30; refine (HR.out _ HB0.out).mono ?_; rintro e w2 ⟨rfl, hb⟩; have HB2 := Aside0.mk (HB0.out.trans (hb.mono HB0.out.size)); have HG2 := Aside0.mk (blk_below HG0.out hb); clear hb)
  go_loopg [20] l.length (fun kq v20 w' => ∃ i : Nat, i + kq = l.length ∧ v20 = .int .i64 i ∧ Aside0 (tR = (List.range' i (l.length - i)).all (factOk p l)) ∧ Aside0 (Below w2.heap.size w2 w'))
  case atStart => exact ⟨0, by omega, rfl, HAL, ⟨Below.refl _ _⟩⟩
  case round =>
   obtain ⟨i, hi, rfl, HI, HB⟩ := hrel
   have HBw := Aside0.mk (HB2.out.trans (HB.out.mono HB2.out.size))
   cases gk with
   | zero =>
    obtain rfl : i = l.length := by omega
    have HE : Aside0 (tR = true) := ⟨by rw [HI.out, Nat.sub_self]; rfl⟩
    go_wp2
    go_ret
    exact ⟨by rw [HYES.out HE.out]; rfl, HBw.out⟩
   | succ d =>
    have hlt : i < l.length := by omega
    have hlp : i < p.length := by have := HPL.out; omega
    have HI2 : Aside0 (tR = (factOk p l i && (List.range' (i + 1) (l.length - (i + 1))).all (factOk p l))) := ⟨by rw [HI.out, show l.length - i = (l.length - (i + 1)) + 1 from by omega, List.range'_succ, List.all_cons]⟩
    have HW := Aside0.mk hi
    have h0i : (0 : Int) ≤ i := by omega
    have h1i : (i : Int) < (l.length : Int) := by omega
    have h2i : (i : Int) < (p.length : Int) := by omega
    obtain ⟨al, e2, s0, s1, s2, s3⟩ := at_T59 (Kd.C_below HL.out HBw.out) (i : Int) h0i h1i
    obtain ⟨ai, A7, c7, e1, q0, q1, q2, q3, q4, q5, q6, q7, q8, q9⟩ := at_T37 (Kd.C_below HP.out HBw.out) (i : Int) h0i h2i
    obtain rfl := e1
    obtain rfl := e2
    rw [Int.toNat_natCast] at s0 s1 s2 s3 q2
    have x0 : wr.cell? ⟨w.heap.size, 0, none⟩ = some (.slice (some ai) p.length c0_0) := (blk_cell (blk_below HG2.out HB.out) 0).trans rfl
    unfold factOk at HI2
    obtain ⟨f, hf⟩ : ∃ f, rd_T59 l (i : Int) = f := ⟨_, rfl⟩
    rw [hf] at s0 s1 s2 s3 HI2
    obtain ⟨u, hu⟩ : ∃ u, (rd_T37 p (i : Int)).f2 = u := ⟨_, rfl⟩
    rw [hu] at q2 HI2
    obtain ⟨z, hz⟩ : ∃ z, zeroB f = z := ⟨_, rfl⟩
    have HZ := Aside0.mk hz
    obtain ⟨v, hv⟩ : ∃ v, fineB f = v := ⟨_, rfl⟩
    have HV := Aside0.mk hv
    rw [hz, hv] at HI2
    have HF := Aside0.mk (fine_walk f (wr.alloc (.cells #[.int .i64 f.f0, .int .i64 f.f1, .int .i64 f.f2, .bool f.f3] 59 (0, 0))))
    rw [hv] at HF
    have HB3 := Aside0.mk (HB.out.trans ((below_alloc (Below.refl wr.heap.size wr) (.cells #[.int .i64 f.f0, .int .i64 f.f1, .int .i64 f.f2, .bool f.f3] 59 (0, 0))).mono HB.out.size))
    have HG3 := Aside0.mk (blk_new wr (.cells #[.int .i64 f.f0, .int .i64 f.f1, .int .i64 f.f2, .bool f.f3] 59 (0, 0)))
    replace x0 := cell_al (o := .cells #[.int .i64 f.f0, .int .i64 f.f1, .int .i64 f.f2, .bool f.f3] 59 (0, 0)) x0
    replace q2 := cell_al (o := .cells #[.int .i64 f.f0, .int .i64 f.f1, .int .i64 f.f2, .bool f.f3] 59 (0, 0)) q2
    have hwi : wrap64 ((i : Int) + 1) = ((i + 1 : Nat) : Int) := by have := HM.out; unfold wrap64; omega
    have HWI := Aside0.mk hwi
    obtain ⟨f0, f1, f2, f3⟩ := f
    dsimp only at s0 s1 s2 s3 HF HB3 HG3 x0 q2
    clear q0 q1 q3 q4 q5 q6 q7 q8 q9 hf hu hz hv hi hlt hlp hwi HAL
    cases v with
    | false =>
     have HE : Aside0 (tR = false) := ⟨by rw [HI2.out]; rfl⟩
     go_wp2_with (go_at_call 35; refine HF.out.mono ?_; rintro e w4 ⟨rfl, hb⟩; have HB4 := Aside0.mk (HB2.out.trans ((HB3.out.trans (hb.mono HB3.out.size)).mono HB2.out.size)); clear hb)
     go_ret
     exact ⟨by rw [HNO.out HE.out]; rfl, HB4.out⟩
    | true =>
     cases u with
     | false =>
      have HE : Aside0 (tR = (List.range' (i + 1) (l.length - (i + 1))).all (factOk p l)) := ⟨by rw [HI2.out]; rfl⟩
      go_wp2_with (go_at_call 35; refine HF.out.mono ?_; rintro e w4 ⟨rfl, hb⟩; have HB4 := Aside0.mk (HB3.out.trans (hb.mono HB3.out.size)); have x4 := cell_bel hb x0; have q4 := cell_bel hb q2; clear hb)
      go_roundg d
      case measure => omega
      case rel => exact ⟨i + 1, by have := HW.out; omega, by go_num, HE, HB4⟩
     | true =>
      cases z with
      | true =>
       have hfz := zero_eq _ HZ.out
       simp only [S59.mk.injEq] at hfz
       obtain ⟨rfl, rfl, rfl, rfl⟩ := hfz
       have HE : Aside0 (tR = (List.range' (i + 1) (l.length - (i + 1))).all (factOk p l)) := ⟨by rw [HI2.out]; rfl⟩
       go_wp2_with (go_at_call 35; refine HF.out.mono ?_; rintro e w4 ⟨rfl, hb⟩; have HB4 := Aside0.mk (HB3.out.trans (hb.mono HB3.out.size)); have x4 := cell_bel hb x0; have q4 := cell_bel hb q2; have HG4 := Aside0.mk (blk_below HG3.out hb); have g0 : w4.cell? ⟨wr.heap.size, 0, none⟩ = some (.int .i64 0) := (blk_cell HG4.out 0).trans rfl; have g1 : w4.cell? ⟨wr.heap.size, 1, none⟩ = some (.int .i64 0) := (blk_cell HG4.out 1).trans rfl; have g2 : w4.cell? ⟨wr.heap.size, 2, none⟩ = some (.int .i64 0) := (blk_cell HG4.out 2).trans rfl; have g3 : w4.cell? ⟨wr.heap.size, 3, none⟩ = some (.bool false) := (blk_cell HG4.out 3).trans rfl; clear hb)
       go_roundg d
       case measure => omega
       case rel => exact ⟨i + 1, by have := HW.out; omega, by go_num, HE, HB4⟩
      | false =>
       have HE : Aside0 (tR = false) := ⟨by rw [HI2.out]; rfl⟩
       have hnz : ¬ (f0 = 0 ∧ f1 = 0 ∧ f2 = 0 ∧ f3 = false) := fun ⟨e0, e1, e2, e3⟩ => by have h := HZ.out; rw [e0, e1, e2, e3] at h; cases h
       have HNZ := Aside0.mk hnz
       clear hnz
       go_wp2_with (go_at_call 35; refine HF.out.mono ?_; rintro e w4 ⟨rfl, hb⟩; have HB4 := Aside0.mk (HB2.out.trans ((HB3.out.trans (hb.mono HB3.out.size)).mono HB2.out.size)); have x4 := cell_bel hb x0; have q4 := cell_bel hb q2; have HG4 := Aside0.mk (blk_below HG3.out hb); have g0 : w4.cell? ⟨wr.heap.size, 0, none⟩ = some (.int .i64 f0) := (blk_cell HG4.out 0).trans rfl; have g1 : w4.cell? ⟨wr.heap.size, 1, none⟩ = some (.int .i64 f1) := (blk_cell HG4.out 1).trans rfl; have g2 : w4.cell? ⟨wr.heap.size, 2, none⟩ = some (.int .i64 f2) := (blk_cell HG4.out 2).trans rfl; have g3 : w4.cell? ⟨wr.heap.size, 3, none⟩ = some (.bool f3) := (blk_cell HG4.out 3).trans rfl; clear hb)
       all_goals first
        | (go_ret; exact ⟨by rw [HNO.out HE.out]; rfl, HB4.out⟩)
        | exact absurd ⟨by assumption, by assumption, by assumption, by first | assumption | exact eq_false_of_ne_true (by assumption)⟩ HNZ.out
theorem fact_Check.calls (k : Nat) (A0_0 : Option Addr) (c0_0 : Nat) (l0_0 : List S37) (A1 : Option Addr) (c1 : Nat) (l1 : List S59) (r : Int) (w : World) (hr0_0 : Kd.C k37 w A0_0 l0_0.length l0_0) (hc0_0 : l0_0.length ≤ c0_0) (hr1 : Kd.C k59 w A1 l1.length l1) (hc1 : l1.length ≤ c1) (h : fact_Check.f k l0_0 l1 = some r) :
  Calls Try.prog 28 #[.agg #[.slice A0_0 l0_0.length c0_0], .slice A1 l1.length c1] w fun e w' => e = .returned (.int .i64 r) ∧ Below w.heap.size w w' := by
 unfold fact_Check.f at h
 by_cases hok : (smallP l0_0 && decide (l1.length ≤ 1000000)) = true
 ·rw [if_pos hok] at h
  obtain rfl := Option.some.inj h
  rw [Bool.and_eq_true, decide_eq_true_eq] at hok
  exact fact_check_walk A0_0 c0_0 l0_0 A1 c1 l1 w hr0_0 hc0_0 hr1 hc1 hok.1 hok.2
 ·rw [if_neg hok] at h
  cases h
theorem fact_check_at (p : List S37) (l : List S59) (hp : smallP p = true) (hl : l.length ≤ 1000000) : fact_Check.f (l.length + 2 + 1) p l = some (if factsB p l then 0 else 2) := by unfold fact_Check.f; rw [hp, decide_eq_true hl]; rfl
end Go.Proofs.Ytihpndignekheaa.F
end

section
namespace Go.Proofs.Ytihpndignekheaa.F
open Go.RowKit Go.Proofs.YtihpndignekheaaW.PrintWords Go.Proofs.YtihpndignekheaaW.PrintLast Go.Proofs.YtihpndignekheaaW.PrintMore
attribute [local go_sem] max2_int min2_int max_two min_two max_three min_three max_four min_four
set_option linter.unusedVariables false
set_option linter.unusedSimpArgs false
theorem info56_ : (Try.prog.info? 59).map (fun i => (i.zero, i.size, i.bytes)) = some (some (.agg #[(.int .i64 0), (.int .i64 0), (.int .i64 0), (.bool false)]), 4, 32) := by kernel_rfl
set_option maxHeartbeats 8000000 in
set_option maxRecDepth 100000 in
theorem clone_walk (A : Option Addr) (c : Nat) (l : List S59) (w : World) (hr : Kd.C k59 w A l.length l) (hl : l.length ≤ 1000000) :
  Calls Try.prog 31 #[.slice A l.length c] w fun e w' => ∃ v, e = .returned v ∧ Kd.R k59 59 w' w.heap.size (fun _ => True) v l ∧ Below w.heap.size w w' := by
 have HR := Aside0.mk hr
 have HL := Aside0.mk hl
 have HB := Aside0.mk (Below.refl w.heap.size w)
 have he := fun (B : Option Addr) (n c : Nat) (w : World) => Lib.run_eql_slice_nil (P := Try.prog) w 25 59 B n c 0 0 Try.underlying25
 clear hr hl
 cases A with
 | none =>
  have h0 : l = [] := by
   cases l with
   | nil => rfl
   | cons x l => obtain ⟨ad, h, _⟩ := HR.out.2.2 (by simp); cases h
  subst h0
  go_enter Try.func31, Try.ntmps31
  go_wp2
  go_ret
  exact ⟨_, rfl, Kd.R_nil _ _ _ _ _, HB.out⟩
 | some ad =>
  have h2 := World.ownsRow_lit (base := w.heap.size) (e := 59) (size := k59.sz) w #[] 0 (Nat.le_refl _) (by simp) (by simp)
  have HO0 : Aside0 (Kd.R k59 59 (w.alloc (.cells #[] 59 (0, 0))) w.heap.size (fun _ => True) (.slice (some ⟨w.heap.size, 0, none⟩) 0 0) []) := ⟨⟨fun _ _ => trivial, [], by simpa using h2, Reps.none _ _⟩⟩
  clear h2
  go_enter Try.func31, Try.ntmps31
  go_wp2_with ((with_reducible refine gate_builtin (b := .append) (xs := #[.tmp 5, .tmp 6]) rfl ?_); at_builtin; refine Kd.R_append_rows k59 (w0 := w) w.heap.size rfl (.tmp 5) (.tmp 6) 25 59 (.agg #[(.int .i64 0), (.int .i64 0), (.int .i64 0), (.bool false)]) 32 rfl Try.underlying25 info56_ rfl (by decide) (by omega) (.slice (some ⟨w.heap.size, 0, none⟩) 0 0) [] l _ _ _ (fun _ => True) (fun _ => False) rfl rfl HO0.out (Kd.C_below HR.out (below_alloc (Below.refl _ _) _)) (fun _ _ h => h) (fun _ h => h.elim) (fun _ _ => trivial) (HB.out.alloc (Nat.le_refl _) _) (by simp) (by have := HL.out; simp; omega) ?_; intro v1 w1 hR hB hg hx; have HR1 := Aside0.mk hR; have HB1 := Aside0.mk hB; clear hR hB hg hx)
  go_ret
  exact ⟨_, rfl, HR1.out, HB1.out⟩
end Go.Proofs.Ytihpndignekheaa.F
end

section
namespace Go.Proofs.Ytihpndignekheaa.F
open Go.RowKit Go.Proofs.YtihpndignekheaaW.PrintWords Go.Proofs.YtihpndignekheaaW.PrintLast Go.Proofs.YtihpndignekheaaW.PrintMore
attribute [local go_sem] max2_int min2_int max_two min_two max_three min_three max_four min_four
set_option linter.unusedVariables false
set_option linter.unusedSimpArgs false
def fl0 : Fl := ⟨false, false, false, false, false, 0⟩
def stZ : St := ⟨fun _ => fl0, fun _ _ => ⟨false, false, false⟩⟩
theorem zero_board (pv lv : Value) : (Try.zeroCells49.setIfInBounds 0 pv).setIfInBounds 1 lv = bCells (memOf pv lv stZ) := by kernel_rfl
def stA : St := ⟨fun _ => fl0, fun _ _ => ⟨false, true, true⟩⟩
def stB (i k : Nat) : St := ⟨fun _ => fl0, fun a b => if a < i ∨ (a = i ∧ b < k) then ⟨false, true, true⟩ else ⟨false, false, false⟩⟩
theorem BoardAt.congr {w : World} {g : Nat} {pv lv : Value} {s s' : St} (h : BoardAt w g pv lv s) (h1 : ∀ i, i < 64 → s.it i = s'.it i) (h2 : ∀ i k, i < 64 → k < 4 → s.bo i k = s'.bo i k) : BoardAt w g pv lv s' := by
 refine BoardAt.of h (fun j hj => ?_)
 unfold memOf
 by_cases h0 : j = 0
 ·rw [if_pos h0, if_pos h0]
 by_cases h3 : j = 1
 ·rw [if_neg h0, if_pos h3, if_neg h0, if_pos h3]
 by_cases h4 : j < 386
 ·rw [if_neg h0, if_neg h3, if_pos h4, if_neg h0, if_neg h3, if_pos h4, h1 _ (by omega)]
 ·rw [if_neg h0, if_neg h3, if_neg h4, if_neg h0, if_neg h3, if_neg h4, h2 _ _ (by omega) (by omega)]
theorem BoardAt.putBy {w : World} {g : Nat} {pv lv : Value} {s : St} (h : BoardAt w g pv lv s) (i k : Nat) (hi : i < 64) (hk : k < 4) (b : By) : BoardAt (((w.setCell ⟨g, 386 + i * 12 + k * 3, none⟩ (.bool b.fa)).setCell ⟨g, 386 + i * 12 + k * 3 + 1, none⟩ (.bool b.wh)).setCell ⟨g, 386 + i * 12 + k * 3 + 2, none⟩ (.bool b.cl)) g pv lv (s.setBo i k b) :=
 ((h.putBo i k 0 hi hk (by omega) (.bool b.fa) ⟨b.fa, (s.bo i k).wh, (s.bo i k).cl⟩ (by exact by3_ rfl rfl rfl)).reBo 1 hi hk (by omega) (.bool b.wh) ⟨b.fa, b.wh, (s.bo i k).cl⟩ (by exact by3_ rfl rfl rfl)).reBo 2 hi hk (by omega) (.bool b.cl) b (by exact by3_ rfl rfl rfl)
theorem stB_zero {w : World} {g : Nat} {pv lv : Value} (h : BoardAt w g pv lv stZ) : BoardAt w g pv lv (stB 0 0) := h.congr (fun _ _ => rfl) (fun i k _ _ => by simp [stB, stZ])
theorem stB_next {w : World} {g : Nat} {pv lv : Value} {i k : Nat} (h : BoardAt w g pv lv ((stB i k).setBo i k ⟨false, true, true⟩)) : BoardAt w g pv lv (stB i (k + 1)) := h.congr (fun _ _ => rfl) (fun a b _ _ => by
 unfold stB St.setBo
 dsimp only
 by_cases h1 : a = i ∧ b = k
 ·rw [if_pos h1, if_pos (by omega)]
 ·rw [if_neg h1]
  by_cases h2 : a < i ∨ (a = i ∧ b < k)
  ·rw [if_pos h2, if_pos (by omega)]
  ·rw [if_neg h2, if_neg (by omega)])
theorem stB_row {w : World} {g : Nat} {pv lv : Value} {i : Nat} (h : BoardAt w g pv lv (stB i 4)) : BoardAt w g pv lv (stB (i + 1) 0) := h.congr (fun _ _ => rfl) (fun a b _ hb => by
 unfold stB
 dsimp only
 by_cases h2 : a < i ∨ (a = i ∧ b < 4)
 ·rw [if_pos h2, if_pos (by omega)]
 ·rw [if_neg h2, if_neg (by omega)])
theorem stB_all {w : World} {g : Nat} {pv lv : Value} (h : BoardAt w g pv lv (stB 64 0)) : BoardAt w g pv lv stA := h.congr (fun _ _ => rfl) (fun a b ha _ => by
 unfold stB stA
 dsimp only
 rw [if_pos (by omega)])
def turnS (p : List S37) (l : List S59) (s : St) (i : Nat) : St :=
 let s1 := if (rd_T37 p (i : Int)).f2 then s.setIt i (sagaS (rd_T37 p (i : Int)).f4.toNat (s.bo i) (s.it i)) else s.setIt i (stepS (rd_T59 l (i : Int)))
 if i = 0 then s1 else handS (rd_T37 p (i : Int)).f3 (rd_T59 l (i : Int)).f0 (s1.it i) s1 (rd_T37 p (i : Int)).f5.toNat (rd_T37 p (i : Int)).f6.toNat
def downS (p : List S37) (l : List S59) : Nat → St → St
 | 0, s => s
 | m + 1, s => downS p l m (turnS p l s m)
def haltF (p : List S37) (s : St) (i : Nat) : Fl := ⟨(s.it i).cl, (s.it i).tc, (s.it i).dn, (s.it i).sp, (s.bo (rd_T37 p (i : Int)).f5.toNat (rd_T37 p (i : Int)).f6.toNat).fa || (s.it (rd_T37 p (i : Int)).f5.toNat).ha, (s.it i).at_⟩
def haltS (p : List S37) (s : St) (i : Nat) : St := if i = 0 then s else s.setIt i (haltF p s i)
def upS (p : List S37) : Nat → Nat → St → St
 | _, 0, s => s
 | i, d + 1, s => upS p (i + 1) d (haltS p s i)
def madeS (p : List S37) (l : List S59) : St := upS p 0 p.length (downS p l p.length stA)
def ShapeP (p : List S37) : Prop := p.length ≤ 64 ∧ ∀ i : Nat, i < p.length → (0 ≤ (rd_T37 p (i : Int)).f4 ∧ (rd_T37 p (i : Int)).f4 ≤ 4) ∧ (i ≠ 0 → 0 ≤ (rd_T37 p (i : Int)).f5 ∧ (rd_T37 p (i : Int)).f5 < i ∧ 0 ≤ (rd_T37 p (i : Int)).f6 ∧ (rd_T37 p (i : Int)).f6 < 4)
def MadeB (w0 : World) (p : List S37) (Ap : Option Addr) (cp : Nat) (l : List S59) (s : St) (w' : World) (g : Nat) : Prop :=
 Below w0.heap.size w0 w' ∧ w0.heap.size ≤ g ∧ ∃ Al cl, BoardAt w' g (.slice Ap p.length cp) (.slice Al l.length cl) s ∧ Kd.F k59 w' (fun k_ => w0.heap.size ≤ k_) Al l.length l
set_option maxHeartbeats 8000000 in
set_option maxRecDepth 100000 in
theorem made_board_walk (p : List S37) (Ap : Option Addr) (cp : Nat) (l : List S59) (A1 : Option Addr) (c1 : Nat) (w : World) (hr : Kd.C k37 w Ap p.length p) (hl : Kd.C k59 w A1 l.length l) (hpl : l.length = p.length) (hs : ShapeP p) :
  Calls Try.prog 29 #[.agg #[.slice Ap p.length cp], .slice A1 l.length c1] w fun e w' => ∃ g, e = .returned (.pointer (some ⟨g, 0, none⟩)) ∧ MadeB w p Ap cp l (madeS p l) w' g := by
 have HR := Aside0.mk hr
 have HL := Aside0.mk hl
 have HPL := Aside0.mk hpl
 have HS := Aside0.mk hs
 clear hr hl hpl hs
 go_enter Try.func29, Try.ntmps29
 go_wp2_with (fail)
 have HCL := Aside0.mk (fun (W : World) (hb : Below w.heap.size w W) => clone_walk A1 c1 l W (Kd.C_below HL.out hb) (by have := HPL.out; have := HS.out.1; omega))
 go_region_held2 (fun w' => w'.cell? ⟨w.heap.size, 0, none⟩ = some (.slice Ap p.length cp)) (first | (go_keep; done) | exact (blk_cell (blk_below (blk_drew (blk_new _ _)) hb2) 0).trans rfl) ((go_at_call 31; refine (HCL.out _ (below_drewN (below_alloc (Below.refl _ _) _) 1)).mono ?_; rintro e w2 ⟨v, rfl, hR2, hb2⟩; obtain ⟨A2, c2, rfl⟩ := Kd.R_slice hR2; have HR2 := Aside0.mk hR2))
 rw [zero_board]
 have HB2 := Aside0.mk ((below_drewN (below_alloc (Below.refl w.heap.size w) (.cells #[.slice Ap p.length cp] 24 (0, 0))) 1).trans (hb2.mono (by simp)))
 have HP2 : Aside0 (w2.heap[w.heap.size]? = some (.cells #[.slice Ap p.length cp] 24 (0, 0))) := ⟨blk_below (blk_drew (blk_new _ _)) hb2⟩
 have HL2 : Aside0 (Kd.C k59 w2 A2 l.length l) := ⟨(Kd.R_reads' HR2.out).2.2⟩
 have HLF2 : Aside0 (Kd.F k59 w2 (fun k_ => w.heap.size ≤ k_) A2 l.length l) := ⟨Kd.F_mono (Kd.R_F (Kd.R_tight rfl HR2.out)) (fun k hk => Nat.le_trans (by simp) (Kd.R_base HR2.out k hk.symm))⟩
 have HR1 : Aside0 (Kd.C k37 w2 Ap p.length p) := ⟨Kd.C_below HR.out HB2.out⟩
 clear hR2 hb2 HCL HL HR
 obtain ⟨W, hW⟩ : ∃ W, W = w2.alloc (.cells (bCells (memOf (.slice Ap p.length cp) (.slice A2 l.length c2) stZ)) 49 (0, 0)) := ⟨_, rfl⟩
 have HBW : Aside0 (Below w2.heap.size w2 W) := ⟨by rw [hW]; exact below_alloc (Below.refl _ _) _⟩
 have HGW : Aside0 (BoardAt W w2.heap.size (.slice Ap p.length cp) (.slice A2 l.length c2) (stB 0 0)) := ⟨stB_zero (by rw [hW]; exact blk_new _ _)⟩
 rw [← hW]
 clear hW
 generalize hg : w2.heap.size = g at HGW ⊢
 go_wp2
 go_loopg [16] 64 (fun kq v16 w' => ∃ i : Nat, i + kq = 64 ∧ v16 = .int .i64 i ∧ Aside0 (Below w2.heap.size w2 w') ∧ Aside0 (BoardAt w' g (.slice Ap p.length cp) (.slice A2 l.length c2) (stB i 0)))
 case atStart => exact ⟨0, by omega, rfl, HBW, HGW⟩
 case round =>
  obtain ⟨i, hi, rfl, HB, HG⟩ := hrel
  cases gk with
  | zero =>
   obtain rfl : i = 64 := by omega
   have HG0 := Aside0.mk (stB_all HG.out)
   have HGE : Aside0 (w2.heap.size ≤ g) := ⟨by omega⟩
   clear HG HBW HGW hg hi
   have hlm : (l.length : Int) ≤ 64 := by have := HPL.out; have := HS.out.1; omega
   go_wp2
   go_loopg [8] l.length (fun kq v8 w' => ∃ s : St, v8 = .int .i64 ((kq : Int) - 1) ∧ Aside0 (kq ≤ l.length) ∧ Aside0 (Below w2.heap.size w2 w') ∧ Aside0 (BoardAt w' g (.slice Ap p.length cp) (.slice A2 l.length c2) s) ∧ Aside0 (downS p l kq s = downS p l l.length stA))
   case atStart => exact ⟨stA, rfl, ⟨Nat.le_refl _⟩, HB, HG0, ⟨rfl⟩⟩
   case round =>
    obtain ⟨s, rfl, HK, HBd, HGd, HD⟩ := hrel
    cases gk with
    | zero =>
     have HD0 : Aside0 (s = downS p l p.length stA) := ⟨by have := HD.out; rw [HPL.out] at this; exact this⟩
     clear HD HG0 HB
     have hn0 : (((0 : Nat) : Int) - 1) = -1 := by omega
     rw [hn0]
     clear hn0
     have yp : wr.cell? ⟨w.heap.size, 0, none⟩ = some (.slice Ap p.length cp) := (blk_cell (blk_below HP2.out HBd.out) 0).trans rfl
     go_wp2
     clear yp
     have hpm : (p.length : Int) ≤ 64 := by have := HS.out.1; omega
     go_loopg [59] p.length (fun kq v59 w' => ∃ (i : Nat) (s : St), i + kq = p.length ∧ v59 = .int .i64 i ∧ Aside0 (Below w2.heap.size w2 w') ∧ Aside0 (BoardAt w' g (.slice Ap p.length cp) (.slice A2 l.length c2) s) ∧ Aside0 (upS p i kq s = madeS p l))
     case atStart => exact ⟨0, s, by omega, rfl, HBd, HGd, ⟨by unfold madeS; rw [HD0.out]⟩⟩
     case round =>
      clear HGd HD0
      obtain ⟨i, s, hi, rfl, HB, HG, HU⟩ := hrel
      cases gk with
      | zero =>
       obtain rfl : i = p.length := by omega
       have HU2 : Aside0 (s = madeS p l) := ⟨HU.out⟩
       go_wp2
       go_ret
       exact ⟨g, rfl, HB2.out.trans (HB.out.mono HB2.out.size), Nat.le_trans HB2.out.size HGE.out, A2, c2, by rw [← HU2.out]; exact HG.out, Kd.F_below HLF2.out HB.out⟩
      | succ d =>
       have hip : i < p.length := by omega
       have hi0 : (0 : Int) ≤ i := by omega
       have hi1 : (i : Int) < (p.length : Int) := by omega
       have hi6 : (i : Int) < 64 := by omega
       have HI := Aside0.mk hi
       have HIP := Aside0.mk hip
       have HU2 : Aside0 (upS p (i + 1) d (haltS p s i) = madeS p l) := ⟨HU.out⟩
       obtain ⟨ad, A7, c7, e0, x0, x1, x2, x3, x4, x5, x6, x7, _, _⟩ := at_T37 (Kd.C_below HR1.out HB.out) (i : Int) hi0 hi1
       subst e0
       rw [Int.toNat_natCast] at x0 x1 x2 x3 x4 x5 x6 x7
       clear hi HU
       by_cases hz : i = 0
       ·have HZ := Aside0.mk hz
        have hmz : ¬ (i : Int) > 0 := by omega
        clear hz
        go_wp2
        go_roundg d
        case measure => omega
        case rel => exact ⟨i + 1, s, by have := HI.out; omega, by go_num, ⟨below_step HB.out (below_alloc (Below.refl _ _) _)⟩, ⟨blk_alloc HG.out _⟩, ⟨by have := HU2.out; unfold haltS at this; rwa [if_pos HZ.out] at this⟩⟩
       ·obtain ⟨q1, q2, q3, q4⟩ := (HS.out.2 i hip).2 hz
        obtain ⟨j, hj⟩ := Int.eq_ofNat_of_zero_le q1
        obtain ⟨k, hk⟩ := Int.eq_ofNat_of_zero_le q3
        rw [hj] at x5
        rw [hk] at x6
        have HH : Aside0 (haltS p s i = s.setIt i ⟨(s.it i).cl, (s.it i).tc, (s.it i).dn, (s.it i).sp, (s.bo j k).fa || (s.it j).ha, (s.it i).at_⟩) := ⟨by unfold haltS haltF; rw [if_neg hz, hj, hk, Int.toNat_natCast, Int.toNat_natCast]⟩
        have hmz : (i : Int) > 0 := by omega
        have hj64 : j < 64 := by omega
        have hk4 : k < 4 := by omega
        clear hj hk q1 q2 q3 q4 hz
        go_wp2_with (fail)
        refine at_letter_ (fun W => Aside0 (Below w2.heap.size w2 W) ∧ Aside0 (BoardAt W g (.slice (some ad) p.length cp) (.slice A2 l.length c2) s) ∧ W.cell? ⟨wr.heap.size, 5, none⟩ = some (.int .i64 j) ∧ W.cell? ⟨wr.heap.size, 6, none⟩ = some (.int .i64 k))
         ⟨⟨below_step HB.out (below_alloc (Below.refl _ _) _)⟩, ⟨blk_alloc HG.out _⟩, (blk_cell (blk_new _ _) 5).trans rfl, (blk_cell (blk_new _ _) 6).trans rfl⟩ (fun W ⟨HB3, HG3, x5, x6⟩ => ?_)
        clear x0 x1 x2 x3 x4 x7 HB HG
        generalize wr.heap.size = gx at x5 x6 ⊢
        have hi64 : i < 64 := by omega
        have hj6 : (j : Int) < 64 := by omega
        have hj0 : (0 : Int) ≤ j := by omega
        have hk6 : (k : Int) < 4 := by omega
        have hk0 : (0 : Int) ≤ k := by omega
        have z0 : W.cell? ⟨g, 386 + j * 12 + k * 3, none⟩ = some (.bool (s.bo j k).fa) := HG3.out.bo j k 0 hj64 hk4 (by omega)
        have z1 : W.cell? ⟨g, 2 + j * 6 + 4, none⟩ = some (.bool (s.it j).ha) := HG3.out.it j 4 hj64 (by omega)
        have z2 := HG3.out.cell (2 + i * 6 + 4) (by omega)
        have y2 := HG3.out.free (2 + i * 6 + 4)
        obtain ⟨fa, hfa⟩ : ∃ b, (s.bo j k).fa = b := ⟨_, rfl⟩
        rw [hfa] at z0
        have HH2 : Aside0 (haltS p s i = s.setIt i ⟨(s.it i).cl, (s.it i).tc, (s.it i).dn, (s.it i).sp, fa || (s.it j).ha, (s.it i).at_⟩) := ⟨by rw [HH.out, hfa]⟩
        clear hfa HH
        cases fa
        all_goals
         go_region
         go_wp2
         go_roundg d
         case measure => omega
         case rel => first | exact ⟨i + 1, s.setIt i ⟨(s.it i).cl, (s.it i).tc, (s.it i).dn, (s.it i).sp, false || (s.it j).ha, (s.it i).at_⟩, by have := HI.out; omega, by go_num, ⟨below_drewN (HB3.out.setCell HGE.out _) 1⟩, ⟨(HG3.out.putIt i 4 hi64 (by omega) (.bool _) ⟨(s.it i).cl, (s.it i).tc, (s.it i).dn, (s.it i).sp, false || (s.it j).ha, (s.it i).at_⟩ (by exact fl6_ rfl rfl rfl rfl rfl rfl)).drew⟩, ⟨by have := HU2.out; rw [HH2.out] at this; exact this⟩⟩ | exact ⟨i + 1, s.setIt i ⟨(s.it i).cl, (s.it i).tc, (s.it i).dn, (s.it i).sp, true || (s.it j).ha, (s.it i).at_⟩, by have := HI.out; omega, by go_num, ⟨below_drewN (HB3.out.setCell HGE.out _) 1⟩, ⟨(HG3.out.putIt i 4 hi64 (by omega) (.bool _) ⟨(s.it i).cl, (s.it i).tc, (s.it i).dn, (s.it i).sp, true || (s.it j).ha, (s.it i).at_⟩ (by exact fl6_ rfl rfl rfl rfl rfl rfl)).drew⟩, ⟨by have := HU2.out; rw [HH2.out] at this; exact this⟩⟩
    | succ m =>
     have hms : m < l.length := by have := HK.out; omega
     have hmp : m < p.length := by have := HPL.out; omega
     rw [show (((m + 1 : Nat) : Int) - 1) = (m : Int) from by omega]
     have hm0 : (0 : Int) ≤ m := by omega
     have hm1 : (m : Int) < (p.length : Int) := by omega
     have hm6 : (m : Int) < 64 := by omega
     have HT : Aside0 (downS p l m (turnS p l s m) = downS p l l.length stA) := ⟨HD.out⟩
     have hsh := HS.out.2 m hmp
     obtain ⟨n, hn⟩ := Int.eq_ofNat_of_zero_le hsh.1.1
     have HN : Aside0 ((rd_T37 p (m : Int)).f4 = n ∧ n ≤ 4) := ⟨hn, by have := hsh.1.2; omega⟩
     obtain ⟨ad, A7, c7, e0, x0, x1, x2, x3, x4, x5, x6, x7, _, _⟩ := at_T37 (Kd.C_below HR1.out HBd.out) (m : Int) hm0 hm1
     subst e0
     rw [Int.toNat_natCast] at x2
     clear x0 x1 x3 x4 x5 x6 x7 hn hsh HD
     have yp : wr.cell? ⟨w.heap.size, 0, none⟩ = some (.slice (some ad) p.length cp) := (blk_cell (blk_below HP2.out HBd.out) 0).trans rfl
     obtain ⟨sub, hsub⟩ : ∃ b, (rd_T37 p (m : Int)).f2 = b := ⟨_, rfl⟩
     rw [hsub] at x2
     have HSUB := Aside0.mk hsub
     have HHM := Aside0.mk (And.intro hms hmp)
     clear hsub
     obtain ⟨s1, hs1⟩ : ∃ s1, (if sub then s.setIt m (sagaS n (s.bo m) (s.it m)) else s.setIt m (stepS (rd_T59 l (m : Int)))) = s1 := ⟨_, rfl⟩
     have HS1 := Aside0.mk hs1
     clear hs1
     by_cases hz : m = 0
     ·have hmz : ¬ (m : Int) > 0 := by omega
      have HZ := Aside0.mk hz
      clear hz
      have HT2 : Aside0 (turnS p l s m = s1) := ⟨by unfold turnS; rw [HSUB.out, HN.out.1, Int.toNat_natCast]; rw [if_pos HZ.out]; exact HS1.out⟩
      cases sub
      all_goals
       go_wp2_with (first
        | (go_at_call 36; refine (saga_walk p (some ad) cp _ s w2 _ g m n HR1.out HBd.out HGE.out HGd.out HHM.out.2 HS.out.1 HN.out.1 HN.out.2).mono ?_; rintro e w3 ⟨rfl, hb3, hG3⟩; have HB3 := Aside0.mk hb3; have HG3 := Aside0.mk hG3; clear hb3 hG3)
        | (go_at_call 37; refine (step_walk l A2 c2 _ s w2 _ g m HL2.out HBd.out HGE.out HGd.out HHM.out.1 (by have := HPL.out; have := HS.out.1; omega)).mono ?_; rintro e w3 ⟨rfl, hb3, hG3⟩; have HB3 := Aside0.mk hb3; have HG3 := Aside0.mk hG3; clear hb3 hG3))
       go_roundg m
       case measure => omega
       case rel => exact ⟨s1, by go_num, ⟨Nat.le_of_lt HHM.out.1⟩, HB3, ⟨by rw [← HS1.out]; exact HG3.out⟩, ⟨by rw [← HT2.out]; exact HT.out⟩⟩
     ·have hmpos : (0 : Int) < m := by omega
      have hsh := HS.out.2 m hmp
      obtain ⟨q1, q2, q3, q4⟩ := hsh.2 hz
      obtain ⟨j, hj⟩ := Int.eq_ofNat_of_zero_le q1
      obtain ⟨k, hk⟩ := Int.eq_ofNat_of_zero_le q3
      have HJ : Aside0 ((rd_T37 p (m : Int)).f5 = j ∧ (rd_T37 p (m : Int)).f6 = k ∧ j < 64 ∧ k < 4) := ⟨hj, hk, by omega, by omega⟩
      have HT2 : Aside0 (turnS p l s m = handS (rd_T37 p (m : Int)).f3 (rd_T59 l (m : Int)).f0 (s1.it m) s1 j k) := ⟨by unfold turnS; rw [HSUB.out, HN.out.1, Int.toNat_natCast, HJ.out.1, HJ.out.2.1, Int.toNat_natCast, Int.toNat_natCast]; rw [if_neg hz]; rw [← HS1.out]⟩
      clear hsh q1 q2 q3 q4 hj hk
      cases sub
      all_goals
       go_wp2_with (first
        | (go_at_call 36; refine (saga_walk p (some ad) cp _ s w2 _ g m n HR1.out HBd.out HGE.out HGd.out HHM.out.2 HS.out.1 HN.out.1 HN.out.2).mono ?_; rintro e w3 ⟨rfl, hb3, hG3⟩; have HB3 := Aside0.mk hb3; have HG3 : Aside0 (BoardAt w3 g (.slice (some ad) p.length cp) (.slice A2 l.length c2) s1) := ⟨by rw [← HS1.out]; exact hG3⟩; clear hb3 hG3)
        | (go_at_call 37; refine (step_walk l A2 c2 _ s w2 _ g m HL2.out HBd.out HGE.out HGd.out HHM.out.1 (by have := HPL.out; have := HS.out.1; omega)).mono ?_; rintro e w3 ⟨rfl, hb3, hG3⟩; have HB3 := Aside0.mk hb3; have HG3 : Aside0 (BoardAt w3 g (.slice (some ad) p.length cp) (.slice A2 l.length c2) s1) := ⟨by rw [← HS1.out]; exact hG3⟩; clear hb3 hG3)
        | (go_at_call 38; refine (hand_walk p (some ad) cp l A2 c2 s1 w2 _ g m j k HR1.out HL2.out HPL.out HB3.out HGE.out HG3.out HHM.out.2 HS.out.1 HJ.out.1 HJ.out.2.1 HJ.out.2.2.1 HJ.out.2.2.2).mono ?_; rintro e w4 ⟨rfl, hb4, hG4⟩; have HB4 := Aside0.mk hb4; have HG4 := Aside0.mk hG4; clear hb4 hG4))
       go_roundg m
       case measure => omega
       case rel => exact ⟨_, by go_num, ⟨Nat.le_of_lt HHM.out.1⟩, HB4, HG4, ⟨by rw [← HT2.out]; exact HT.out⟩⟩
  | succ d =>
   have h64 : (i : Int) < 64 := by omega
   have h0 : (0 : Int) ≤ i := by omega
   have HI := Aside0.mk hi
   have HGE : Aside0 (w2.heap.size ≤ g) := ⟨by omega⟩
   clear hi hg
   go_wp2
   go_loopg [19] 4 (fun kq v19 w' => ∃ k : Nat, k + kq = 4 ∧ v19 = .int .i64 k ∧ Aside0 (Below w2.heap.size w2 w') ∧ Aside0 (BoardAt w' g (.slice Ap p.length cp) (.slice A2 l.length c2) (stB i k)))
   case atStart => exact ⟨0, by omega, rfl, HB, HG⟩
   case round =>
    obtain ⟨k, hk, rfl, HBi, HGi⟩ := hrel
    cases gk with
    | zero =>
     obtain rfl : k = 4 := by omega
     go_wp2
     go_roundg d
     case measure => omega
     case rel => exact ⟨i + 1, by have := HI.out; omega, by go_num, HBi, ⟨stB_row HGi.out⟩⟩
    | succ e =>
     have hk4 : (k : Int) < 4 := by omega
     have hk0 : (0 : Int) ≤ k := by omega
     have hi6 : i < 64 := by omega
     have HK := Aside0.mk hk
     have z0 := HGi.out.cell (386 + i * 12 + k * 3) (by omega)
     have z1 := HGi.out.cell (386 + i * 12 + k * 3 + 1) (by omega)
     have z2 := HGi.out.cell (386 + i * 12 + k * 3 + 2) (by omega)
     have y0 := HGi.out.free (386 + i * 12 + k * 3)
     have y1 := HGi.out.free (386 + i * 12 + k * 3 + 1)
     have y2 := HGi.out.free (386 + i * 12 + k * 3 + 2)
     clear hk
     go_wp2
     go_roundg e
     case measure => omega
     case rel => exact ⟨k + 1, by have := HK.out; omega, by go_num, ⟨((HBi.out.setCell HGE.out _).setCell HGE.out _).setCell HGE.out _⟩, ⟨stB_next (HGi.out.putBy i k hi6 (by omega) ⟨false, true, true⟩)⟩⟩
end Go.Proofs.Ytihpndignekheaa.F
end

section
namespace Go.Proofs.Ytihpndignekheaa.F
open Go.RowKit Go.Proofs.YtihpndignekheaaW.PrintWords Go.Proofs.YtihpndignekheaaW.PrintLast Go.Proofs.YtihpndignekheaaW.PrintMore
attribute [local go_sem] max2_int min2_int max_two min_two max_three min_three max_four min_four
set_option linter.unusedVariables false
set_option linter.unusedSimpArgs false
structure BdAt (w : World) (g : Nat) (p : List S37) (Ap : Option Addr) (cp : Nat) (l : List S59) (Al : Option Addr) (cl : Nat) (s : St) : Prop where
 bd : BoardAt w g (.slice Ap p.length cp) (.slice Al l.length cl) s
 pl : Kd.C k37 w Ap p.length p
 fl : Kd.C k59 w Al l.length l
 len : l.length = p.length
 few : p.length ≤ 64
theorem BdAt.below {w w' : World} {g : Nat} {p : List S37} {Ap : Option Addr} {cp : Nat} {l : List S59} {Al : Option Addr} {cl : Nat} {s : St} (h : BdAt w g p Ap cp l Al cl s) (hb : Below w.heap.size w w') : BdAt w' g p Ap cp l Al cl s :=
 ⟨blk_below h.bd hb, Kd.C_below h.pl hb, Kd.C_below h.fl hb, h.len, h.few⟩
theorem size_none (w : World) : Calls Try.prog 25 #[.pointer none] w fun e w' => e = .returned (.int .i64 0) ∧ w' = w := by
 go_enter Try.func25, Try.ntmps25
 go_wp2
 go_ret
 exact ⟨rfl, rfl⟩
section
variable {w : World} {g : Nat} {p : List S37} {Ap : Option Addr} {cp : Nat} {l : List S59} {Al : Option Addr} {cl : Nat} {s : St}
theorem size_walk (h : BdAt w g p Ap cp l Al cl s) : Calls Try.prog 25 #[.pointer (some ⟨g, 0, none⟩)] w fun e w' => e = .returned (.int .i64 l.length) ∧ w' = w := by
 have y1 : w.cell? ⟨g, 1, none⟩ = some (.slice Al l.length cl) := h.bd.cell 1 (by omega)
 clear h
 go_enter Try.func25, Try.ntmps25
 go_wp2
 go_ret
 exact ⟨rfl, rfl⟩
def standF (f : S59) : Int := if f.f0 = 0 then 0 else if f.f0 = 1 then 1 else if f.f0 = 3 then 3 else if f.f1 = 0 then 2 else if f.f3 then 5 else 4
theorem stand_walk (f : S59) (w : World) : Calls Try.prog 34 #[.agg #[.int .i64 f.f0, .int .i64 f.f1, .int .i64 f.f2, .bool f.f3]] w fun e w' => e = .returned (.int .i64 (standF f)) ∧ Below w.heap.size w w' := by
 obtain ⟨a, b, c, d⟩ := f
 have HB := Aside0.mk (below_alloc (Below.refl w.heap.size w) (.cells #[.int .i64 a, .int .i64 b, .int .i64 c, .bool d] 59 (0, 0)))
 dsimp only
 go_enter Try.func34, Try.ntmps34
 go_wp2
 all_goals
  go_ret
  refine ⟨?_, HB.out⟩
  unfold standF
  first | rfl | (simp_all; done)
def flagsF (f : Fl) : Int := if f.tc then (if f.dn then 2 else if f.sp then 3 else if f.ha then (if f.cl then 5 else 4) else 1) else 0
def statusB (p : List S37) (l : List S59) (s : St) (i : Nat) : Int := if (rd_T37 p (i : Int)).f2 then flagsF (s.it i) else standF (rd_T59 l (i : Int))
set_option maxHeartbeats 8000000 in
set_option maxRecDepth 100000 in
theorem status_walk (h : BdAt w g p Ap cp l Al cl s) (i : Nat) (hi : i < p.length) : Calls Try.prog 26 #[.pointer (some ⟨g, 0, none⟩), .int .i64 i] w fun e w' => e = .returned (.int .i64 (statusB p l s i)) ∧ Below w.heap.size w w' := by
 have hlen := h.len
 have hfew := h.few
 have hi64 : i < 64 := by omega
 obtain ⟨ad, A7, c7, e0, x0, x1, x2, x3, x4, x5, x6, x7, _, _⟩ := at_T37 h.pl (i : Int) (by omega) (by omega)
 obtain ⟨al, e1, q0, q1, q2, q3⟩ := at_T59 h.fl (i : Int) (by omega) (by omega)
 subst e0
 subst e1
 rw [Int.toNat_natCast] at x2 q0 q1 q2 q3
 have y0 : w.cell? ⟨g, 0, none⟩ = some (.slice (some ad) p.length cp) := h.bd.cell 0 (by omega)
 have y1 : w.cell? ⟨g, 1, none⟩ = some (.slice (some al) l.length cl) := h.bd.cell 1 (by omega)
 have z0 : w.cell? ⟨g, 2 + i * 6, none⟩ = some (.bool (s.it i).cl) := h.bd.it i 0 hi64 (by omega)
 have z1 : w.cell? ⟨g, 2 + i * 6 + 1, none⟩ = some (.bool (s.it i).tc) := h.bd.it i 1 hi64 (by omega)
 have z2 : w.cell? ⟨g, 2 + i * 6 + 2, none⟩ = some (.bool (s.it i).dn) := h.bd.it i 2 hi64 (by omega)
 have z3 : w.cell? ⟨g, 2 + i * 6 + 3, none⟩ = some (.bool (s.it i).sp) := h.bd.it i 3 hi64 (by omega)
 have z4 : w.cell? ⟨g, 2 + i * 6 + 4, none⟩ = some (.bool (s.it i).ha) := h.bd.it i 4 hi64 (by omega)
 have z5 : w.cell? ⟨g, 2 + i * 6 + 5, none⟩ = some (.int .i64 (s.it i).at_) := h.bd.it i 5 hi64 (by omega)
 have h0 : (0 : Int) ≤ i := by omega
 have h1 : (i : Int) < (p.length : Int) := by omega
 have h2 : (i : Int) < (l.length : Int) := by omega
 have h6 : (i : Int) < 64 := by omega
 have HSW := Aside0.mk (fun w => stand_walk (rd_T59 l (i : Int)) w)
 unfold statusB
 obtain ⟨⟨fcl, ftc, fdn, fsp, fha, fat⟩, hf⟩ : ∃ f, s.it i = f := ⟨_, rfl⟩
 rw [hf] at z0 z1 z2 z3 z4 z5 ⊢
 obtain ⟨r, hr⟩ : ∃ r, standF (rd_T59 l (i : Int)) = r := ⟨_, rfl⟩
 rw [hr] at HSW ⊢
 obtain ⟨⟨fa, fb, fc, fd⟩, hff⟩ : ∃ f, rd_T59 l (i : Int) = f := ⟨_, rfl⟩
 rw [hff] at q0 q1 q2 q3 HSW
 obtain ⟨sub, hsub⟩ : ∃ b, (rd_T37 p (i : Int)).f2 = b := ⟨_, rfl⟩
 rw [hsub] at x2 ⊢
 clear h x0 x1 x3 x4 x5 x6 x7 hf hff hr hsub hlen hfew hi64 hi
 cases sub
 case false =>
  go_enter Try.func26, Try.ntmps26
  go_wp2_with (go_at_call 34; refine (HSW.out _).mono ?_; rintro e w2 ⟨rfl, hb⟩; have HB := Aside0.mk hb; clear hb)
  go_ret
  exact ⟨rfl, HB.out⟩
 case true =>
  have HB := Aside0.mk (below_alloc (Below.refl w.heap.size w) (.cells #[.bool fcl, .bool ftc, .bool fdn, .bool fsp, .bool fha, .int .i64 fat] 42 (0, 0)))
  cases ftc
  case' true =>
   cases fdn
   case' false =>
    cases fsp
    case' false =>
     cases fha
     case' true => cases fcl
  all_goals
   go_enter Try.func26, Try.ntmps26
   go_wp2
   go_ret
   exact ⟨rfl, HB.out⟩
end
end Go.Proofs.Ytihpndignekheaa.F
end
