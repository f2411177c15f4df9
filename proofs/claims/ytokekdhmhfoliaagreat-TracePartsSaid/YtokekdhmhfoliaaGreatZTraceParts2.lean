-- Texts of this seat's, joined.
import Derived.Test.YtokekdhmhfoliaaGreatProg
import Derived.Below
import Derived.Deep.Draws
import Derived.Deep.AppendLies
import Derived.Maps.AppendAt
import Derived.OwnWalk
import Derived.Laws.BytesArg
import Derived.Laws.MakeOwn
import Derived.Laws.OwnMore
import Derived.Deep.OwnRows
import Derived.Tactics
import Derived.Lib.ConvBytes
import Derived.Laws.Slices
import Derived.WalkKit
import Derived.KernelRfl
import Derived.RowKit3
import Derived.Deep.LoopGhost
import Derived.Deep.QuietTactic
import Derived.BigQuiet
import Derived.WideLaws
import Derived.Deep.DeepCutAuto
import Derived.Deep.CutBlock
import Derived.Deep.RegionHeld3
import Derived.Laws.Rows
import Derived.Lib.AppendStr
import Derived.ArgAppend
import Derived.Laws.IdiomCopy
import Derived.OrdersHeld
import Derived.Laws.BitsLemmas
import Derived.RowKit
import Derived.Test.YtokekdhmhfoliaaGreatZTraceParts1
import Derived.RegionTactic
import Derived.ChangeAlike
import Derived.RangeFuncNested
import Derived.RangeFuncLeaves
import Derived.RegionIn
import Derived.LoopIn
import Derived.TacticsInMore
import Derived.OwnWalkIn
import Derived.Shelf.AbstractIn
import Derived.RangeFuncBox
import Derived.Shelf.SlGeneric
import Derived.Shelf.SlIterI.Nil
import Derived.Shelf.SortM.Plain
import Derived.Shelf.SortM.SortNone
import Derived.Ground.GgzProg
import Derived.Ground.SlgmProg
import Derived.RangeFuncBound
section
namespace Go.Proofs.YtokekdhmhfoliaaGreat.F
open Go.RowKit Go.Proofs.YtokekdhmhfoliaaGreatW.PrintWords Go.Proofs.YtokekdhmhfoliaaGreatW.PrintLast Go.Proofs.YtokekdhmhfoliaaGreatW.PrintMore
set_option linter.unusedVariables false
set_option linter.unusedSimpArgs false
section maps
variable {κ ν : Type}
def mapLook [DecidableEq κ] (m : List (κ × ν)) (k : κ) : Option ν := (m.find? (fun x => decide (x.1 = k))).map (·.2)
def mapPut [DecidableEq κ] (m : List (κ × ν)) (k : κ) (v : ν) : List (κ × ν) :=
 if (mapLook m k).isSome then m.map (fun x => if x.1 = k then (k, v) else x) else m ++ [(k, v)]
def keysOf (m : List (κ × ν)) : List κ := m.map (·.1)
structure MapIs (encK : κ → Value) (encV : ν → Value) (w : World) (b : Nat) (m : List (κ × ν)) : Prop where
 nodup : (keysOf m).Nodup
 at_ : ∃ es : Array MapEntry, w.heap[b]? = some (.map es m.length) ∧ es.toList = (List.range m.length).zipWith (fun i (x : κ × ν) => ({ key := encK x.1, val := encV x.2, born := i } : MapEntry)) m
theorem MapIs.of_block {encK : κ → Value} {encV : ν → Value} {w w' : World} {b : Nat} {m : List (κ × ν)} (h : MapIs encK encV w b m) (hb : w'.heap[b]? = w.heap[b]?) : MapIs encK encV w' b m := by
 obtain ⟨hn, es, h1, h2⟩ := h
 exact ⟨hn, es, hb.trans h1, h2⟩
theorem MapIs.lt {encK : κ → Value} {encV : ν → Value} {w : World} {b : Nat} {m : List (κ × ν)} (h : MapIs encK encV w b m) : b < w.heap.size := by
 obtain ⟨_, es, h1, _⟩ := h
 exact blk_lt h1
theorem MapIs.alloc {encK : κ → Value} {encV : ν → Value} {w : World} {b : Nat} {m : List (κ × ν)} (h : MapIs encK encV w b m) (o : Obj) : MapIs encK encV (w.alloc o) b m := h.of_block (Below.heap_alloc w o b h.lt)
theorem MapIs.drew {encK : κ → Value} {encV : ν → Value} {w : World} {b : Nat} {m : List (κ × ν)} (h : MapIs encK encV w b m) : MapIs encK encV w.drew b m := h.of_block rfl
theorem MapIs.below {encK : κ → Value} {encV : ν → Value} {w w' : World} {b : Nat} {m : List (κ × ν)} (h : MapIs encK encV w b m) (hb : Below w.heap.size w w') : MapIs encK encV w' b m := h.of_block (hb.block b h.lt)
theorem MapIs.grown {encK : κ → Value} {encV : ν → Value} {w w' : World} {b : Nat} {m : List (κ × ν)} {row : Option Nat} (h : MapIs encK encV w b m) (hg : w.grownBy w' row) (hr : some b ≠ row) : MapIs encK encV w' b m := h.of_block (hg.block b h.lt hr)
theorem MapIs.setCell {encK : κ → Value} {encV : ν → Value} {w : World} {b : Nat} {m : List (κ × ν)} {p : Addr} (h : MapIs encK encV w b m) (hp : b ≠ p.block) (u : Value) : MapIs encK encV (w.setCell p u) b m := h.of_block (Below.heap_setCell w p u b hp)
theorem MapIs.made (encK : κ → Value) (encV : ν → Value) (w : World) : MapIs encK encV (w.alloc (.map #[] 0)) w.heap.size ([] : List (κ × ν)) :=
 ⟨List.nodup_nil, #[], heap_alloc_new w _, rfl⟩
structure KeyOk [DecidableEq κ] (P : Program) (K : TypeId) (encK : κ → Value) : Prop where
 check : ∀ (empty : Bool) (k : κ) (w : World), (Instr.checkKey empty 10000 K (encK k)).run P w = .ok () w
 find : ∀ (k : κ) (es : List MapEntry) (ks : List κ) (w : World), es.map (·.key) = ks.map encK →
  (Instr.findKey K (encK k) es).run P w = .ok ((ks.findIdx? (fun x => decide (x = k))).bind fun i => es[i]?.map fun e => (i, e.val)) w
 same : ∀ k, Instr.sameBits 10000 (encK k) (encK k) = true
theorem findAsking_run [DecidableEq κ] {P : Program} {K : TypeId} {encK : κ → Value} (heq : ∀ (a b : κ) (w : World), (Op.equal K (encK a) (encK b)).run P w = .ok (decide (a = b)) w) (k : κ) (w : World) :
  ∀ (es : List MapEntry) (ks : List κ) (j : Nat), es.map (·.key) = ks.map encK →
   (Instr.findAsking K (encK k) es j).run P w = .ok ((ks.findIdx? (fun x => decide (x = k))).bind fun i => es[i]?.map fun e => (j + i, e.val)) w := by
 intro es
 induction es with
 | nil =>
  intro ks j h
  obtain rfl : ks = [] := by cases ks <;> simp_all
  rfl
 | cons e es ih =>
  intro ks j h
  cases ks with
  | nil => simp at h
  | cons k' ks =>
   simp only [List.map_cons, List.cons.injEq] at h
   unfold Instr.findAsking
   simp only [Sem.run_bind, h.1, heq, Result.andThen_ok]
   by_cases hk : k = k'
   ·subst hk
    simp [List.findIdx?_cons]
   ·have hk' : ¬ k' = k := fun e => hk e.symm
    rw [decide_eq_false hk]
    simp only [Bool.false_eq_true, if_false]
    rw [ih ks (j + 1) h.2, List.findIdx?_cons, decide_eq_false hk']
    simp only [Bool.false_eq_true, if_false]
    cases ks.findIdx? (fun x => decide (x = k)) with
    | none => rfl
    | some i => simp [Nat.add_assoc, Nat.add_comm 1 i]
theorem entries_keys {encK : κ → Value} {encV : ν → Value} (m : List (κ × ν)) (j : Nat) : ((List.range' j m.length).zipWith (fun i (x : κ × ν) => ({ key := encK x.1, val := encV x.2, born := i } : MapEntry)) m).map (·.key) = (keysOf m).map encK := by
 induction m generalizing j with
 | nil => rfl
 | cons x m ih => simp only [List.length_cons, List.range'_succ, List.zipWith_cons_cons, List.map_cons, keysOf]; rw [ih (j + 1)]; rfl
theorem entries_at {encK : κ → Value} {encV : ν → Value} (m : List (κ × ν)) (i : Nat) : ((List.range m.length).zipWith (fun i (x : κ × ν) => ({ key := encK x.1, val := encV x.2, born := i } : MapEntry)) m)[i]? = (m[i]?).map fun x => { key := encK x.1, val := encV x.2, born := i } := by
 rw [List.getElem?_zipWith]
 by_cases h : i < m.length
 ·rw [List.getElem?_range h, List.getElem?_eq_getElem h]; rfl
 ·rw [List.getElem?_eq_none (by simp; omega), List.getElem?_eq_none (by omega)]; rfl
theorem look_idx [DecidableEq κ] (m : List (κ × ν)) (k : κ) : mapLook m k = ((keysOf m).findIdx? (fun x => decide (x = k))).bind fun i => m[i]?.map (·.2) := by
 induction m with
 | nil => rfl
 | cons x m ih =>
  unfold mapLook keysOf at *
  rw [List.find?_cons, List.map_cons, List.findIdx?_cons]
  by_cases h : x.1 = k
  ·simp [h]
  ·simp only [h, decide_false, Bool.false_eq_true, if_false]
   rw [ih]
   cases (List.map (·.1) m).findIdx? (fun x => decide (x = k)) <;> simp
section
variable {P : Program} {T K E : TypeId} {encK : κ → Value} {encV : ν → Value}
theorem map_found [DecidableEq κ] (kok : KeyOk P K encK) {w' : World} {m : List (κ × ν)} {es : Array MapEntry} (h : es.toList = (List.range m.length).zipWith (fun i (x : κ × ν) => ({ key := encK x.1, val := encV x.2, born := i } : MapEntry)) m) (k : κ) :
  (Instr.findKey K (encK k) es.toList).run P w' = .ok (((keysOf m).findIdx? (fun x => decide (x = k))).bind fun i => m[i]?.map fun x => (i, encV x.2)) w' := by
 have hk : es.toList.map (·.key) = (keysOf m).map encK := by rw [h, List.range_eq_range']; exact entries_keys m 0
 rw [kok.find k es.toList (keysOf m) w' hk]
 congr 1
 cases hx : (keysOf m).findIdx? (fun x => decide (x = k)) with
 | none => rfl
 | some i =>
  simp only [Option.bind_some]
  rw [h, entries_at, Option.map_map]; rfl
theorem run_map_lookup [DecidableEq κ] (kok : KeyOk P K encK) (ht : P.underlying T = some (.map K E)) {z : ν} (hz : ∀ w, (zeroValue E).run P w = .ok (encV z) w) {w : World} {b : Nat} {m : List (κ × ν)} (hm : MapIs encK encV w b m) (k : κ) (ok : Bool) :
  (Instr.lookup T (.map (some b)) (encK k) ok).run P w = .ok (if ok then .tuple #[encV ((mapLook m k).getD z), .bool (mapLook m k).isSome] else encV ((mapLook m k).getD z)) w := by
 obtain ⟨_, es, h1, h2⟩ := hm
 have hf := map_found (w' := w) kok h2 k
 have hl := look_idx m k
 have hg : (getObj b).run P w = .ok (.map es m.length) w := by unfold getObj; simp [Sem.run, h1]
 unfold Instr.lookup
 simp only [Sem.run_bind, run_underlying ht, hg, Result.andThen_ok, Sem.run_pure, kok.check, hf]
 cases hx : (keysOf m).findIdx? (fun x => decide (x = k)) with
 | none =>
  rw [hx] at hl
  simp only [Option.bind_none] at hl ⊢
  rw [hl]
  cases ok <;> simp [Sem.run_bind, hz, Result.andThen_ok, Sem.run_pure]
 | some i =>
  rw [hx] at hl
  simp only [Option.bind_some] at hl ⊢
  cases hy : m[i]? with
  | none =>
   rw [hy] at hl
   simp only [Option.map_none] at hl ⊢
   rw [hl]
   cases ok <;> simp [Sem.run_bind, hz, Result.andThen_ok, Sem.run_pure]
  | some x =>
   rw [hy] at hl
   simp only [Option.map_some] at hl ⊢
   rw [hl]
   cases ok <;> simp [Sem.run_bind, Result.andThen_ok, Sem.run_pure]
theorem run_map_len (t : TypeId) (ht : P.underlying T = some (.map K E)) {w : World} {b : Nat} {m : List (κ × ν)} (hm : MapIs encK encV w b m) : (Builtin.len_ #[T] t #[.map (some b)]).run P w = .ok (.int .i64 m.length) w := by
 obtain ⟨_, es, h1, h2⟩ := hm
 have hg : (getObj b).run P w = .ok (.map es m.length) w := by unfold getObj; simp [Sem.run, h1]
 have hs : es.size = m.length := by
  have := congrArg List.length h2
  rw [Array.length_toList, List.length_zipWith, List.length_range, Nat.min_self] at this
  exact this
 unfold Builtin.len_
 simp [Sem.run_bind, run_underlying ht, hg, Result.andThen_ok, Sem.run_pure, goInt, hs]
def entriesOf (encK : κ → Value) (encV : ν → Value) (m : List (κ × ν)) : List MapEntry := (List.range m.length).zipWith (fun i (x : κ × ν) => ({ key := encK x.1, val := encV x.2, born := i } : MapEntry)) m
theorem entriesOf_length (m : List (κ × ν)) : (entriesOf encK encV m).length = m.length := by simp [entriesOf]
theorem entriesOf_get (m : List (κ × ν)) (i : Nat) : (entriesOf encK encV m)[i]? = (m[i]?).map fun x => { key := encK x.1, val := encV x.2, born := i } := entries_at m i
theorem entriesOf_snoc (m : List (κ × ν)) (x : κ × ν) : entriesOf encK encV (m ++ [x]) = entriesOf encK encV m ++ [{ key := encK x.1, val := encV x.2, born := m.length }] := by
 apply List.ext_getElem?
 intro i
 rw [entriesOf_get]
 rcases Nat.lt_trichotomy i m.length with h | h | h
 ·rw [List.getElem?_append_left h, List.getElem?_append_left (by rw [entriesOf_length]; exact h), entriesOf_get]
 ·subst h
  rw [List.getElem?_append_right (Nat.le_refl _), List.getElem?_append_right (by rw [entriesOf_length]; exact Nat.le_refl _), entriesOf_length, Nat.sub_self]; rfl
 ·rw [List.getElem?_eq_none (by simp; omega), List.getElem?_eq_none (by simp [entriesOf_length]; omega)]; rfl
theorem MapIs.entries {w : World} {b : Nat} {m : List (κ × ν)} (h : MapIs encK encV w b m) : ∃ es : Array MapEntry, w.heap[b]? = some (.map es m.length) ∧ es.toList = entriesOf encK encV m := h.at_
theorem MapIs.put_ {w : World} {b : Nat} {m m' : List (κ × ν)} (h : MapIs encK encV w b m) (hn : (keysOf m').Nodup) {es' : Array MapEntry} (he : es'.toList = entriesOf encK encV m') {c : Nat} (hc : c = m'.length) :
  MapIs encK encV { w with heap := w.heap.setIfInBounds b (.map es' c) } b m' ∧ w.grownBy { w with heap := w.heap.setIfInBounds b (.map es' c) } (some b) := by
 have hlt := h.lt
 subst hc
 refine ⟨⟨hn, es', by simp [hlt], he⟩, rfl, rfl, rfl, by simp, fun i hi hne => ?_⟩
 have : b ≠ i := fun e => hne (by rw [e])
 simp [Array.getElem?_setIfInBounds_ne this]
theorem keysOf_put [DecidableEq κ] (m : List (κ × ν)) (k : κ) (v : ν) : keysOf (mapPut m k v) = if (mapLook m k).isSome then keysOf m else keysOf m ++ [k] := by
 unfold mapPut keysOf
 by_cases h : (mapLook m k).isSome = true
 ·rw [if_pos h, if_pos h, List.map_map]
  apply List.map_congr_left
  intro x hx
  simp only [Function.comp]
  by_cases e : x.1 = k
  ·rw [if_pos e]; exact e.symm
  ·rw [if_neg e]
 ·rw [if_neg h, if_neg h]; simp
theorem look_none [DecidableEq κ] {m : List (κ × ν)} {k : κ} : mapLook m k = none ↔ k ∉ keysOf m := by
 unfold mapLook keysOf
 rw [Option.map_eq_none_iff, List.find?_eq_none]
 constructor
 ·intro h hk
  obtain ⟨x, hx, rfl⟩ := List.mem_map.1 hk
  exact absurd (decide_eq_true rfl) (h x hx)
 ·intro h x hx hd
  exact h (List.mem_map.2 ⟨x, hx, of_decide_eq_true hd⟩)
theorem nodup_put [DecidableEq κ] {m : List (κ × ν)} (h : (keysOf m).Nodup) (k : κ) (v : ν) : (keysOf (mapPut m k v)).Nodup := by
 rw [keysOf_put]
 split
 ·exact h
 ·rename_i hs
  have hk : k ∉ keysOf m := look_none.1 (by cases hx : mapLook m k with | none => rfl | some y => rw [hx] at hs; exact absurd rfl hs)
  rw [List.nodup_append]
  exact ⟨h, List.nodup_cons.2 ⟨List.not_mem_nil, List.nodup_nil⟩, fun a ha b hb => by rw [List.mem_singleton] at hb; subst hb; rintro rfl; exact hk ha⟩
theorem idx_spec [DecidableEq κ] {m : List (κ × ν)} {k : κ} {i : Nat} (h : (keysOf m).findIdx? (fun x => decide (x = k)) = some i) : ∃ v, m[i]? = some (k, v) ∧ mapLook m k = some v := by
 have hl := look_idx m k
 rw [h] at hl
 rw [List.findIdx?_eq_some_iff_getElem] at h
 obtain ⟨hlt, hd, _⟩ := h
 have hlt' : i < m.length := by unfold keysOf at hlt; rw [List.length_map] at hlt; exact hlt
 have hk : (m[i]'hlt').1 = k := by
  have := of_decide_eq_true hd
  simpa [keysOf] using this
 refine ⟨(m[i]'hlt').2, ?_, ?_⟩
 ·rw [List.getElem?_eq_getElem hlt', ← hk]
 ·rw [hl, Option.bind_some, List.getElem?_eq_getElem hlt']; rfl
theorem put_found [DecidableEq κ] {m : List (κ × ν)} (hn : (keysOf m).Nodup) {k : κ} {i : Nat} (h : (keysOf m).findIdx? (fun x => decide (x = k)) = some i) (v : ν) : mapPut m k v = m.set i (k, v) := by
 obtain ⟨v0, hi, hl⟩ := idx_spec h
 unfold mapPut
 rw [hl, if_pos (show (some v0).isSome = true from rfl)]
 apply List.ext_getElem?
 intro j
 rw [List.getElem?_map, List.getElem?_set]
 have hlt : i < m.length := (List.getElem?_eq_some_iff.1 hi).1
 by_cases hj : i = j
 ·subst hj
  rw [if_pos rfl, if_pos hlt, hi]; simp
 ·rw [if_neg hj]
  cases hx : m[j]? with
  | none => rfl
  | some x =>
   simp only [Option.map_some]
   have hne : ¬ x.1 = k := by
    intro e
    obtain ⟨hjl, hxe⟩ := List.getElem?_eq_some_iff.1 hx
    obtain ⟨_, hie⟩ := List.getElem?_eq_some_iff.1 hi
    have h1 : (keysOf m)[j]'(by unfold keysOf; simpa using hjl) = (keysOf m)[i]'(by unfold keysOf; simpa using hlt) := by
     unfold keysOf
     rw [List.getElem_map, List.getElem_map, hxe, hie, e]
    exact hj ((List.getElem_inj hn).1 h1).symm
   rw [if_neg hne]
theorem put_new [DecidableEq κ] {m : List (κ × ν)} {k : κ} (h : (keysOf m).findIdx? (fun x => decide (x = k)) = none) (v : ν) : mapPut m k v = m ++ [(k, v)] ∧ mapLook m k = none := by
 have hl := look_idx m k
 rw [h] at hl
 unfold mapPut
 rw [hl]
 exact ⟨rfl, rfl⟩
theorem entriesOf_set (m : List (κ × ν)) (i : Nat) (k : κ) (v : ν) (es : Array MapEntry) (he : es.toList = entriesOf encK encV m) : (es.modify i fun e => { e with key := encK k, val := encV v }).toList = entriesOf encK encV (m.set i (k, v)) := by
 apply List.ext_getElem?
 intro j
 rw [Array.getElem?_toList, Array.getElem?_modify, entriesOf_get, List.getElem?_set, ← Array.getElem?_toList, he, entriesOf_get]
 by_cases hj : i = j
 ·subst hj
  rw [if_pos rfl, if_pos rfl]
  by_cases hlt : i < m.length
  ·rw [if_pos hlt, List.getElem?_eq_getElem hlt]; rfl
  ·rw [if_neg hlt, List.getElem?_eq_none (by omega)]; rfl
 ·rw [if_neg hj, if_neg hj]
theorem run_getObj {w : World} {b : Nat} {es : Array MapEntry} {c : Nat} (h : w.heap[b]? = some (.map es c)) : (getObj b).run P w = .ok (.map es c) w := by unfold getObj; simp [Sem.run, h]
theorem run_setObj {w : World} {b : Nat} {es : Array MapEntry} {c : Nat} (h : w.heap[b]? = some (.map es c)) (o : Obj) : (setObj b o).run P w = .ok () { w with heap := w.heap.setIfInBounds b o } := by unfold setObj; simp [Sem.run, h]
theorem run_map_update [DecidableEq κ] (kok : KeyOk P K encK) (ht : P.underlying T = some (.map K E)) {w : World} {b : Nat} {m : List (κ × ν)} (hm : MapIs encK encV w b m) (k : κ) (v : ν) :
  ∃ w', (Instr.mapUpdate T (.map (some b)) (encK k) (encV v)).run P w = .ok () w' ∧ MapIs encK encV w' b (mapPut m k v) ∧ w.grownBy w' (some b) := by
 obtain ⟨es, h1, h2⟩ := hm.entries
 have hf := map_found (w' := w) kok h2 k
 have hsz : es.size = m.length := by rw [← Array.length_toList, h2, entriesOf_length]
 cases hx : (keysOf m).findIdx? (fun x => decide (x = k)) with
 | none =>
  obtain ⟨hp, _⟩ := put_new hx v
  refine ⟨{ w with heap := w.heap.setIfInBounds b (.map (es.push { key := encK k, val := encV v, born := m.length }) (m.length + 1)) }, ?_, hm.put_ (nodup_put hm.nodup k v) ?_ (by rw [hp]; simp)⟩
  ·rw [hx] at hf
   unfold Instr.mapUpdate
   simp only [Sem.run_bind, run_underlying ht, run_getObj h1, Result.andThen_ok, kok.check, hf, Option.bind_none, run_setObj h1]
  ·rw [hp, entriesOf_snoc, Array.toList_push, h2]
 | some i =>
  obtain ⟨v0, hi, hl⟩ := idx_spec hx
  have hp := put_found hm.nodup hx v
  refine ⟨{ w with heap := w.heap.setIfInBounds b (.map (es.modify i fun e => { e with key := encK k, val := encV v }) m.length) }, ?_, hm.put_ (nodup_put hm.nodup k v) ?_ (by rw [hp, List.length_set])⟩
  ·rw [hx] at hf
   have hes : es[i]? = some { key := encK k, val := encV v0, born := i } := by rw [← Array.getElem?_toList, h2, entriesOf_get, hi]; rfl
   unfold Instr.mapUpdate
   simp only [Sem.run_bind, run_underlying ht, run_getObj h1, Result.andThen_ok, kok.check, hf, Option.bind_some, hi, Option.map_some, hes, Option.getD_some, Instr.keyThatStays, kok.same, if_true, Sem.run_pure, run_setObj h1]
  ·rw [hp]; exact entriesOf_set m i k v es h2
theorem run_map_entry [DecidableEq κ] (kok : KeyOk P K encK) (ht : P.underlying T = some (.map K E)) {z : ν} (hz : ∀ w, (zeroValue E).run P w = .ok (encV z) w) {w : World} {b : Nat} {m : List (κ × ν)} (hm : MapIs encK encV w b m) (k : κ) :
  ∃ w' i, (Instr.mapEntry T (.map (some b)) (encK k)).run P w = .ok (.tuple #[encV ((mapLook m k).getD z), .int .i64 (i : Nat)]) w' ∧ MapIs encK encV w' b (mapPut m k ((mapLook m k).getD z)) ∧ w.grownBy w' (some b) ∧
   (keysOf (mapPut m k ((mapLook m k).getD z))).findIdx? (fun x => decide (x = k)) = some i := by
 obtain ⟨es, h1, h2⟩ := hm.entries
 have hf := map_found (w' := w) kok h2 k
 have hsz : es.size = m.length := by rw [← Array.length_toList, h2, entriesOf_length]
 cases hx : (keysOf m).findIdx? (fun x => decide (x = k)) with
 | none =>
  obtain ⟨hp, hl⟩ := put_new hx ((mapLook m k).getD z)
  refine ⟨{ w with heap := w.heap.setIfInBounds b (.map (es.push { key := encK k, val := encV z, born := m.length }) (m.length + 1)) }, m.length, ?_, (hm.put_ (nodup_put hm.nodup k _) ?_ (by rw [hp]; simp)).1, (hm.put_ (nodup_put hm.nodup k _) ?_ (by rw [hp]; simp)).2, ?_⟩
  ·rw [hx] at hf
   unfold Instr.mapEntry
   simp only [Sem.run_bind, run_underlying ht, run_getObj h1, Result.andThen_ok, kok.check, hf, Option.bind_none, hz, run_setObj h1, Sem.run_pure, hl, Option.getD_none, goInt]
  ·rw [hp, entriesOf_snoc, Array.toList_push, h2, hl]; rfl
  ·rw [hp, entriesOf_snoc, Array.toList_push, h2, hl]; rfl
  ·rw [hp]
   unfold keysOf at hx ⊢
   rw [List.map_append, List.findIdx?_append, hx]
   simp [List.findIdx?_cons]
 | some i =>
  obtain ⟨v0, hi, hl⟩ := idx_spec hx
  have hp := put_found hm.nodup hx ((mapLook m k).getD z)
  have hlt : i < m.length := (List.getElem?_eq_some_iff.1 hi).1
  have hself : m.set i (k, v0) = m := by
   apply List.ext_getElem?
   intro j
   rw [List.getElem?_set]
   by_cases hj : i = j
   ·subst hj; rw [if_pos rfl, if_pos hlt, hi]
   ·rw [if_neg hj]
  have hpm : mapPut m k ((mapLook m k).getD z) = m := by rw [hp, hl, Option.getD_some, hself]
  have hes : es[i]? = some { key := encK k, val := encV v0, born := i } := by rw [← Array.getElem?_toList, h2, entriesOf_get, hi]; rfl
  have he2 : (es.modify i fun e => { e with key := encK k }).toList = entriesOf encK encV m := by
   rw [← h2]
   apply List.ext_getElem?
   intro j
   rw [Array.getElem?_toList, Array.getElem?_modify]
   by_cases hj : i = j
   ·subst hj; rw [if_pos rfl, hes, Array.getElem?_toList, hes]; rfl
   ·rw [if_neg hj, Array.getElem?_toList]
  have hpt := hm.put_ hm.nodup (es' := es.modify i fun e => { e with key := encK k }) he2 (c := m.length) rfl
  rw [hpm]
  refine ⟨{ w with heap := w.heap.setIfInBounds b (.map (es.modify i fun e => { e with key := encK k }) m.length) }, i, ?_, hpt.1, hpt.2, hx⟩
  rw [hx] at hf
  unfold Instr.mapEntry
  simp only [Sem.run_bind, run_underlying ht, run_getObj h1, Result.andThen_ok, kok.check, hf, Option.bind_some, hi, Option.map_some, hes, Option.getD_some, Instr.keyThatStays, kok.same, if_true, Sem.run_pure, run_setObj h1, hl, goInt]
theorem run_entry_store [DecidableEq κ] {w : World} {b : Nat} {m : List (κ × ν)} (hm : MapIs encK encV w b m) {k : κ} {i : Nat} (hi : (keysOf m).findIdx? (fun x => decide (x = k)) = some i) (v : ν) :
  ∃ w', (Instr.entryStore T (.map (some b)) (.int .i64 (i : Nat)) (encV v)).run P w = .ok () w' ∧ MapIs encK encV w' b (mapPut m k v) ∧ w.grownBy w' (some b) := by
 obtain ⟨es, h1, h2⟩ := hm.entries
 obtain ⟨v0, hv, hl⟩ := idx_spec hi
 have hp := put_found hm.nodup hi v
 have hlt : i < m.length := (List.getElem?_eq_some_iff.1 hv).1
 have hsz : es.size = m.length := by rw [← Array.length_toList, h2, entriesOf_length]
 have hes : ∀ j, es[j]? = (m[j]?).map fun x => ({ key := encK x.1, val := encV x.2, born := j } : MapEntry) := fun j => by rw [← Array.getElem?_toList, h2, entriesOf_get]
 have hfi : es.findIdx? (fun e => (e.born : Int) == ((i : Nat) : Int)) = some i := by
  rw [Array.findIdx?_eq_some_iff_getElem]
  have hget : ∀ j (h : j < es.size), es[j].born = j := by
   intro j h
   have := hes j
   rw [Array.getElem?_eq_getElem h, List.getElem?_eq_getElem (by omega)] at this
   rw [Option.some.inj this]
  refine ⟨by omega, by rw [hget]; simp, fun j hj => ?_⟩
  rw [hget]
  simp
  omega
 have hset := entriesOf_set (encK := encK) (encV := encV) m i k v es h2
 have hsame : (es.modify i fun e => { e with val := encV v }) = (es.modify i fun e => { e with key := encK k, val := encV v }) := by
  apply Array.ext_getElem?
  intro j
  rw [Array.getElem?_modify, Array.getElem?_modify]
  by_cases hj : i = j
  ·subst hj; rw [if_pos rfl, if_pos rfl, hes, hv]; rfl
  ·rw [if_neg hj, if_neg hj]
 refine ⟨{ w with heap := w.heap.setIfInBounds b (.map (es.modify i fun e => { e with key := encK k, val := encV v }) m.length) }, ?_, hm.put_ (nodup_put hm.nodup k v) (by rw [hp]; exact hset) (by rw [hp, List.length_set])⟩
 unfold Instr.entryStore
 simp only [Sem.run_bind, run_getObj h1, Result.andThen_ok, asInt, asIntOf, Sem.run_pure, hfi, hsame, run_setObj h1]
end
theorem put_put [DecidableEq κ] (m : List (κ × ν)) (k : κ) (u v : ν) : mapPut (mapPut m k u) k v = mapPut m k v := by
 have hs : (mapLook (mapPut m k u) k).isSome = true := by
  cases h : mapLook (mapPut m k u) k with
  | some x => rfl
  | none =>
   exfalso
   refine look_none.1 h ?_
   rw [keysOf_put]
   cases hx : mapLook m k with
   | none => rw [if_neg (by simp)]; exact List.mem_append_right _ (List.mem_singleton.2 rfl)
   | some y =>
    rw [if_pos (show (some y).isSome = true from rfl)]
    cases Classical.em (k ∈ keysOf m) with
    | inl h => exact h
    | inr h => rw [look_none.2 h] at hx; cases hx
 unfold mapPut at hs ⊢
 rw [if_pos hs]
 by_cases h : (mapLook m k).isSome = true
 ·rw [if_pos h, if_pos h, List.map_map]
  apply List.map_congr_left
  intro x _
  simp only [Function.comp]
  by_cases e : x.1 = k
  ·simp [e]
  ·simp [e]
 ·rw [if_neg h, if_neg h, List.map_append]
  have hk : k ∉ keysOf m := look_none.1 (by cases hx : mapLook m k with | none => rfl | some y => rw [hx] at h; exact absurd rfl h)
  congr 1
  ·conv => rhs; rw [← List.map_id m]
   apply List.map_congr_left
   intro x hx
   have : ¬ x.1 = k := fun e => hk (List.mem_map.2 ⟨x, hx, e⟩)
   simp [this]
  ·simp
theorem put_look [DecidableEq κ] (m : List (κ × ν)) (k : κ) (u : ν) : mapLook (mapPut m k u) k = some u := by
 unfold mapPut
 by_cases h : (mapLook m k).isSome = true
 ·rw [if_pos h]
  unfold mapLook at *
  rw [List.find?_map]
  cases hx : m.find? (fun x => decide (x.1 = k)) with
  | none => rw [hx] at h; cases h
  | some y =>
   have : (fun x : κ × ν => decide ((if x.1 = k then (k, u) else x).1 = k)) = (fun x => decide (x.1 = k)) := by
    funext x
    by_cases e : x.1 = k <;> simp [e]
   have h2 : List.find? ((fun x : κ × ν => decide (x.1 = k)) ∘ fun x => if x.1 = k then (k, u) else x) m = some y := by
    rw [← hx]; exact congrArg (fun f => List.find? f m) this
   rw [h2]
   have hy : y.1 = k := of_decide_eq_true (by have := List.find?_some hx; exact this)
   simp [hy]
 ·rw [if_neg h]
  unfold mapLook at *
  rw [List.find?_append]
  cases hx : m.find? (fun x => decide (x.1 = k)) with
  | none => simp
  | some y => rw [hx] at h; exact absurd rfl h
theorem find_now_int {q : IntKind} (k : Int) : ∀ (es : List MapEntry) (ks : List Int) (j : Nat), es.map (·.key) = ks.map (fun n => Value.int q n) →
  Instr.findNow (.int q) (.int q k) es j = some ((ks.findIdx? (fun x => decide (x = k))).bind fun i => es[i]?.map fun e => (j + i, e.val)) := by
 intro es
 induction es with
 | nil =>
  intro ks j h
  obtain rfl : ks = [] := by cases ks <;> simp_all
  rfl
 | cons e es ih =>
  intro ks j h
  cases ks with
  | nil => simp at h
  | cons k' ks =>
   simp only [List.map_cons, List.cons.injEq] at h
   unfold Instr.findNow
   rw [h.1]
   simp only [Instr.sameNow, if_true]
   by_cases hk : k = k'
   ·subst hk
    simp [List.findIdx?_cons]
   ·have hk' : ¬ k' = k := fun e => hk e.symm
    have hb : (k == k') = false := by simpa using hk
    rw [hb]
    simp only [List.findIdx?_cons, decide_eq_false hk', Bool.false_eq_true, if_false]
    rw [ih ks (j + 1) h.2]
    cases ks.findIdx? (fun x => decide (x = k)) with
    | none => rfl
    | some i => simp [Nat.add_assoc, Nat.add_comm 1 i]
theorem key_ok_int {P : Program} {K : TypeId} {q : IntKind} (hK : P.underlying K = some (.int q)) : KeyOk P K (fun n : Int => Value.int q n) where
 check := fun e k w => by unfold Instr.checkKey; simp [Sem.run_bind, run_underlying hK, Result.andThen_ok, Sem.run_pure]
 find := fun k es ks w h => by
  unfold Instr.findKey
  simp only [Sem.run_bind, run_underlying hK, Result.andThen_ok, find_now_int k es ks 0 h, Sem.run_pure]
  simp
 same := fun k => by simp [Instr.sameBits]
end maps
end Go.Proofs.YtokekdhmhfoliaaGreat.F
end

section
namespace Go.Proofs.YtokekdhmhfoliaaGreat.F
open Go.RowKit Go.Proofs.YtokekdhmhfoliaaGreatW.PrintWords Go.Proofs.YtokekdhmhfoliaaGreatW.PrintLast Go.Proofs.YtokekdhmhfoliaaGreatW.PrintMore
attribute [local go_sem] max2_int min2_int max_two min_two max_three min_three max_four min_four
set_option linter.unusedVariables false
set_option linter.unusedSimpArgs false
namespace trace_Check
theorem eqA38 (d : Nat) (w : World) (x0 y0 : Int) (x1 y1 : Bool) (x2 y2 : Int) :
  (Op.equalIn (d + 2) 38 (.agg #[.int .i64 x0, .bool x1, .int .i64 x2]) (.agg #[.int .i64 y0, .bool y1, .int .i64 y2])).run Tryz.prog w = .ok (x0 == y0 && (x1 == y1 && (x2 == y2))) w := by
 refine eqA_of Tryz.underlying38 (by kernel_rfl) ?_
 refine eqf_cons (by rfl) (by go_simp; rfl) (by go_simp; rfl) (by go_simp) ?_
 refine eqf_cons (by rfl) (by go_simp; rfl) (by go_simp; rfl) (by go_simp) ?_
 exact eqf_last (by rfl) (by go_simp; rfl) (by go_simp; rfl) (by go_simp)
end trace_Check
deriving instance DecidableEq for S38
deriving instance DecidableEq for S70
def encKey (x : S38) : Value := .agg #[.int .i64 x.f0, .bool x.f1, .int .i64 x.f2]
def encEff (x : S70) : Value := .agg #[.int .i64 x.f0.f0, .bool x.f0.f1, .int .i64 x.f0.f2, .bool x.f1]
theorem key_equal (a b : S38) (w : World) : (Op.equal 38 (encKey a) (encKey b)).run Tryz.prog w = .ok (decide (a = b)) w := by
 have h := trace_Check.eqA38 9998 w a.f0 b.f0 a.f1 b.f1 a.f2 b.f2
 have e : (a.f0 == b.f0 && (a.f1 == b.f1 && (a.f2 == b.f2))) = decide (a = b) := by
  obtain ⟨a0, a1, a2⟩ := a
  obtain ⟨b0, b1, b2⟩ := b
  simp only [S38.mk.injEq]
  by_cases h0 : a0 = b0 <;> by_cases h1 : a1 = b1 <;> by_cases h2 : a2 = b2 <;> simp [h0, h1, h2]
 rw [e] at h
 exact h
theorem key_check_n (n : Nat) (e : Bool) (k : S38) (w : World) : (Instr.checkKey e (n + 2) 38 (.agg #[.int .i64 k.f0, .bool k.f1, .int .i64 k.f2])).run Tryz.prog w = .ok () w := by
 simp [Instr.checkKey, Sem.run_bind, run_underlying Tryz.underlying38, run_underlying Tryz.underlying3, run_underlying Tryz.underlying4, Result.andThen_ok, go_sem]
theorem key_check (e : Bool) (k : S38) (w : World) : (Instr.checkKey e 10000 38 (encKey k)).run Tryz.prog w = .ok () w := key_check_n 9998 e k w
theorem key_ok : KeyOk Tryz.prog 38 encKey where
 check := key_check
 find := by
  intro k es ks w h
  have hr := findAsking_run (encK := encKey) key_equal k w es ks 0 h
  unfold Instr.findKey
  simp only [Sem.run_bind, run_underlying Tryz.underlying38, Result.andThen_ok]
  cases es with
  | nil =>
   obtain rfl : ks = [] := by cases ks <;> simp_all
   rfl
  | cons e es =>
   simp only [Instr.findNow, Instr.sameNow]
   simpa using hr
 same := fun k => by simp [encKey, Instr.sameBits]
def likeLoop : List S70 → List (S38 × S70) → Int
 | [], _ => 0
 | x :: l, m => match mapLook m x.f0 with
  | some o => if o = x then likeLoop l (mapPut m x.f0 x) else 14
  | none => likeLoop l (mapPut m x.f0 x)
def trace_Check.f (l0 : List S70) : Option Int := some (likeLoop l0 [])
theorem like_drop (l : List S70) (i : Nat) (h : i < l.length) (m : List (S38 × S70)) : likeLoop (l.drop i) m = match mapLook m l[i].f0 with
  | some o => if o = l[i] then likeLoop (l.drop (i + 1)) (mapPut m l[i].f0 l[i]) else 14
  | none => likeLoop (l.drop (i + 1)) (mapPut m l[i].f0 l[i]) := by
 rw [List.drop_eq_getElem_cons h]; rfl
theorem eff_ext {a b : S70} (h0 : a.f0.f0 = b.f0.f0) (h1 : a.f0.f1 = b.f0.f1) (h2 : a.f0.f2 = b.f0.f2) (h3 : a.f1 = b.f1) : a = b := by
 obtain ⟨⟨a0, a1, a2⟩, a3⟩ := a
 obtain ⟨⟨b0, b1, b2⟩, b3⟩ := b
 simp_all
theorem eff_zero (w : World) : (zeroValue 70).run Tryz.prog w = .ok (encEff z70) w := by
 have := Tryz.zeroValue70 w
 exact this
set_option maxHeartbeats 4000000 in
set_option maxRecDepth 100000 in
theorem trace_Check.calls (A0 : Option Addr) (c0 : Nat) (l0 : List S70) (r : Int) (w : World) (hr0 : Kd.C k70 w A0 l0.length l0) (hc0 : l0.length ≤ c0) (h : trace_Check.f l0 = some r) :
  Calls Tryz.prog 30 #[.slice A0 l0.length c0] w fun e w' => e = .returned (.int .i64 r) ∧ Below w.heap.size w w' := by
 obtain rfl := Option.some.inj h
 clear h
 have HR := Aside0.mk hr0
 have HM := Aside0.mk (Kd.C_max hr0)
 have HL := Aside0.mk (like_drop l0)
 clear hr0
 have hmm := @run_makeMap Tryz.prog
 go_enter Tryz.func30, Tryz.ntmps30
 go_wp2
 clear hmm
 go_loopg [11] l0.length (fun kq v11 w' => ∃ (i : Nat) (m : List (S38 × S70)), i + kq = l0.length ∧ v11 = .int .i64 i ∧ Aside0 (MapIs encKey encEff w' w.heap.size m) ∧ Aside0 (likeLoop l0 [] = likeLoop (l0.drop i) m) ∧ Aside0 (Below w.heap.size w w'))
 case atStart => exact ⟨0, [], by omega, rfl, ⟨MapIs.made _ _ _⟩, ⟨rfl⟩, ⟨(Below.refl _ w).alloc (Nat.le_refl _) _⟩⟩
 case round =>
  obtain ⟨i, m, hi, rfl, HMP, HI, HB⟩ := hrel
  have hm := HM.out
  cases gk with
  | zero =>
   obtain rfl : i = l0.length := by omega
   have HE : Aside0 (likeLoop l0 [] = 0) := ⟨by rw [HI.out, List.drop_eq_nil_of_le (Nat.le_refl _)]; rfl⟩
   go_wp2
   go_ret
   exact ⟨by rw [HE.out]; rfl, HB.out⟩
  | succ k =>
   have hlt : i < l0.length := by omega
   obtain ⟨ad, e0, x0, x1, x2, x3⟩ := at_T70 (Kd.C_below HR.out HB.out) (i : Int) (by omega) (by omega)
   rw [Int.toNat_natCast] at x0 x1 x2 x3
   have hrd : rd_T70 l0 (i : Int) = l0[i] := by unfold rd_T70; rw [Int.toNat_natCast, List.getD_eq_getElem?_getD, List.getElem?_eq_getElem hlt]; rfl
   rw [hrd] at x0 x1 x2 x3
   subst e0
   obtain ⟨x, hx⟩ : ∃ x, l0[i] = x := ⟨_, rfl⟩
   have HD := Aside0.mk (HL.out i hlt m)
   rw [hx] at x0 x1 x2 x3 HD
   have hlt' : (i : Int) < (l0.length : Int) := by omega
   have h0 : (0 : Int) ≤ i := by omega
   have HI2 := Aside0.mk hi
   clear hx hrd hi
   have hlk := run_map_lookup key_ok Tryz.underlying128 eff_zero (HMP.out.alloc (.cells #[.int .i64 x.f0.f0, .bool x.f0.f1, .int .i64 x.f0.f2, .bool x.f1] 70)) x.f0 true
   simp only [if_true] at hlk
   have hup := fun (W : World) (hW : MapIs encKey encEff W w.heap.size m) => run_map_update key_ok Tryz.underlying128 hW x.f0 x
   cases hl : mapLook m x.f0 with
   | none =>
    rw [hl] at hlk HD
    change (Instr.lookup 128 (.map (some w.heap.size)) (.agg #[.int .i64 x.f0.f0, .bool x.f0.f1, .int .i64 x.f0.f2]) true).run Tryz.prog _ = .ok (.tuple #[.agg #[.int .i64 0, .bool false, .int .i64 0, .bool false], .bool false]) _ at hlk
    clear hl
    obtain ⟨w3, hu, hM3, hg3⟩ := hup ((wr.alloc (.cells #[.int .i64 x.f0.f0, .bool x.f0.f1, .int .i64 x.f0.f2, .bool x.f1] 70)).alloc (.cells #[.int .i64 0, .bool false, .int .i64 0, .bool false] 70)) ((HMP.out.alloc _).alloc _)
    change (Instr.mapUpdate 128 (.map (some w.heap.size)) (.agg #[.int .i64 x.f0.f0, .bool x.f0.f1, .int .i64 x.f0.f2]) (.agg #[.int .i64 x.f0.f0, .bool x.f0.f1, .int .i64 x.f0.f2, .bool x.f1])).run Tryz.prog _ = .ok () w3 at hu
    have HM3 := Aside0.mk hM3
    have HG3 := Aside0.mk hg3
    clear hM3 hg3 hup
    go_wp2
    go_roundg k
    case measure => omega
    case rel => exact ⟨i + 1, mapPut m x.f0 x, by have := HI2.out; omega, by go_num, HM3, ⟨by rw [HI.out, HD.out]⟩, ⟨(((HB.out.alloc HB.out.size _).alloc (by simp; have := HB.out.size; omega) _).grown HG3.out (by simp; have := HB.out.size; omega) (fun k e => by cases e; exact Nat.le_refl _))⟩⟩
   | some o =>
    rw [hl] at hlk HD
    change (Instr.lookup 128 (.map (some w.heap.size)) (.agg #[.int .i64 x.f0.f0, .bool x.f0.f1, .int .i64 x.f0.f2]) true).run Tryz.prog _ = .ok (.tuple #[.agg #[.int .i64 o.f0.f0, .bool o.f0.f1, .int .i64 o.f0.f2, .bool o.f1], .bool true]) _ at hlk
    clear hl
    obtain ⟨w3, hu, hM3, hg3⟩ := hup ((wr.alloc (.cells #[.int .i64 x.f0.f0, .bool x.f0.f1, .int .i64 x.f0.f2, .bool x.f1] 70)).alloc (.cells #[.int .i64 o.f0.f0, .bool o.f0.f1, .int .i64 o.f0.f2, .bool o.f1] 70)) ((HMP.out.alloc _).alloc _)
    change (Instr.mapUpdate 128 (.map (some w.heap.size)) (.agg #[.int .i64 x.f0.f0, .bool x.f0.f1, .int .i64 x.f0.f2]) (.agg #[.int .i64 x.f0.f0, .bool x.f0.f1, .int .i64 x.f0.f2, .bool x.f1])).run Tryz.prog _ = .ok () w3 at hu
    have HM3 := Aside0.mk hM3
    have HG3 := Aside0.mk hg3
    clear hM3 hg3 hup
    by_cases ho : o = x
    ·subst ho
     have HD2 := Aside0.mk (HD.out.trans (if_pos rfl))
     go_wp2
     go_roundg k
     case measure => omega
     case rel => exact ⟨i + 1, mapPut m o.f0 o, by have := HI2.out; omega, by go_num, HM3, ⟨by rw [HI.out, HD2.out]⟩, ⟨(((HB.out.alloc HB.out.size _).alloc (by simp; have := HB.out.size; omega) _).grown HG3.out (by simp; have := HB.out.size; omega) (fun k e => by cases e; exact Nat.le_refl _))⟩⟩
    ·have HD2 := Aside0.mk (HD.out.trans (if_neg ho))
     have HO := Aside0.mk ho
     clear ho
     go_wp2
     all_goals first
      | (go_ret; exact ⟨by rw [HI.out, HD2.out]; rfl, (HB.out.alloc HB.out.size _).alloc (by simp; have := HB.out.size; omega) _⟩)
      | (exfalso; refine HO.out (eff_ext ?_ ?_ ?_ ?_) <;> first | assumption | (symm; assumption) | simp_all)
end Go.Proofs.YtokekdhmhfoliaaGreat.F
end

section
namespace Go.Proofs.YtokekdhmhfoliaaGreat.F
open Go.RowKit Go.Proofs.YtokekdhmhfoliaaGreatW.PrintWords Go.Proofs.YtokekdhmhfoliaaGreatW.PrintLast Go.Proofs.YtokekdhmhfoliaaGreatW.PrintMore
attribute [local go_sem] max2_int min2_int max_two min_two max_three min_three max_four min_four
set_option linter.unusedVariables false
set_option linter.unusedSimpArgs false
def countKeys : List S70 → List (S38 × Int) → List (S38 × Int)
 | [], m => m
 | x :: l, m => countKeys l (mapPut m x.f0 (wrap64 (((mapLook m x.f0).getD 0) + 1)))
def trace_Again.f (l0 : List S70) : Option Int := some (wrap64 ((l0.length : Int) - ((countKeys l0 []).length : Int)))
theorem count_drop (l : List S70) (i : Nat) (h : i < l.length) (m : List (S38 × Int)) : countKeys (l.drop i) m = countKeys (l.drop (i + 1)) (mapPut m l[i].f0 (wrap64 (((mapLook m l[i].f0).getD 0) + 1))) := by
 rw [List.drop_eq_getElem_cons h]; rfl
theorem int_zero (w : World) : (zeroValue 3).run Tryz.prog w = .ok ((fun n : Int => Value.int .i64 n) 0) w := Tryz.zeroValue3 w
set_option maxHeartbeats 4000000 in
set_option maxRecDepth 100000 in
theorem trace_Again.calls (A0 : Option Addr) (c0 : Nat) (l0 : List S70) (r : Int) (w : World) (hr0 : Kd.C k70 w A0 l0.length l0) (hc0 : l0.length ≤ c0) (h : trace_Again.f l0 = some r) :
  Calls Tryz.prog 31 #[.slice A0 l0.length c0] w fun e w' => e = .returned (.int .i64 r) ∧ Below w.heap.size w w' := by
 obtain rfl := Option.some.inj h
 clear h
 have HR := Aside0.mk hr0
 have HM := Aside0.mk (Kd.C_max hr0)
 have HL := Aside0.mk (count_drop l0)
 clear hr0
 have hmm := @run_makeMap Tryz.prog
 go_enter Tryz.func31, Tryz.ntmps31
 go_wp2
 clear hmm
 go_loopg [9] l0.length (fun kq v9 w' => ∃ (i : Nat) (m : List (S38 × Int)), i + kq = l0.length ∧ v9 = .int .i64 i ∧ Aside0 (MapIs encKey (fun n : Int => Value.int .i64 n) w' w.heap.size m) ∧ Aside0 (countKeys l0 [] = countKeys (l0.drop i) m) ∧ Aside0 (Below w.heap.size w w'))
 case atStart => exact ⟨0, [], by omega, rfl, ⟨MapIs.made _ _ _⟩, ⟨rfl⟩, ⟨(Below.refl _ w).alloc (Nat.le_refl _) _⟩⟩
 case round =>
  obtain ⟨i, m, hi, rfl, HMP, HI, HB⟩ := hrel
  have hm := HM.out
  cases gk with
  | zero =>
   obtain rfl : i = l0.length := by omega
   have HE : Aside0 (countKeys l0 [] = m) := ⟨by rw [HI.out, List.drop_eq_nil_of_le (Nat.le_refl _)]; rfl⟩
   have hlen := run_map_len (P := Tryz.prog) 3 Tryz.underlying130 HMP.out
   go_wp2
   go_ret
   exact ⟨by rw [HE.out]; rfl, HB.out⟩
  | succ k =>
   have hlt : i < l0.length := by omega
   obtain ⟨ad, e0, x0, x1, x2, x3⟩ := at_T70 (Kd.C_below HR.out HB.out) (i : Int) (by omega) (by omega)
   rw [Int.toNat_natCast] at x0 x1 x2 x3
   have hrd : rd_T70 l0 (i : Int) = l0[i] := by unfold rd_T70; rw [Int.toNat_natCast, List.getD_eq_getElem?_getD, List.getElem?_eq_getElem hlt]; rfl
   rw [hrd] at x0 x1 x2 x3
   subst e0
   obtain ⟨x, hx⟩ : ∃ x, l0[i] = x := ⟨_, rfl⟩
   have HD := Aside0.mk (HL.out i hlt m)
   rw [hx] at x0 x1 x2 x3 HD
   have hlt' : (i : Int) < (l0.length : Int) := by omega
   have h0 : (0 : Int) ≤ i := by omega
   have HI2 := Aside0.mk hi
   clear hx hrd hi
   obtain ⟨W, HW⟩ : ∃ W, Aside0 (W = (wr.alloc (.cells #[.int .i64 x.f0.f0, .bool x.f0.f1, .int .i64 x.f0.f2, .bool x.f1] 70)).drew) := ⟨_, ⟨rfl⟩⟩
   have HMW : Aside0 (MapIs encKey (fun n : Int => Value.int .i64 n) W w.heap.size m) := ⟨by rw [HW.out]; exact (HMP.out.alloc _).drew⟩
   obtain ⟨n, hn⟩ : ∃ n, (mapLook m x.f0).getD 0 = n := ⟨_, rfl⟩
   have hl1 := run_map_lookup key_ok Tryz.underlying130 int_zero HMW.out x.f0 false
   obtain ⟨w3, j, he1, hM3, hg3, hj⟩ := run_map_entry key_ok Tryz.underlying130 int_zero HMW.out x.f0
   have hl2 := run_map_lookup key_ok Tryz.underlying130 int_zero hM3 x.f0 false
   obtain ⟨w4, hs1, hM4, hg4⟩ := run_entry_store (P := Tryz.prog) (T := 130) hM3 hj (wrap64 (n + 1))
   rw [put_put] at hM4
   rw [put_look] at hl2
   rw [hn] at hl1 he1 hl2 HD
   change (Instr.lookup 130 (.map (some w.heap.size)) (.agg #[.int .i64 x.f0.f0, .bool x.f0.f1, .int .i64 x.f0.f2]) false).run Tryz.prog W = .ok (.int .i64 n) W at hl1
   change (Instr.lookup 130 (.map (some w.heap.size)) (.agg #[.int .i64 x.f0.f0, .bool x.f0.f1, .int .i64 x.f0.f2]) false).run Tryz.prog w3 = .ok (.int .i64 n) w3 at hl2
   change (Instr.mapEntry 130 (.map (some w.heap.size)) (.agg #[.int .i64 x.f0.f0, .bool x.f0.f1, .int .i64 x.f0.f2])).run Tryz.prog W = .ok (.tuple #[.int .i64 n, .int .i64 (j : Nat)]) w3 at he1
   change (Instr.entryStore 130 (.map (some w.heap.size)) (.int .i64 (j : Nat)) (.int .i64 (wrap64 (n + 1)))).run Tryz.prog w3 = .ok () w4 at hs1
   rw [HW.out] at hl1 he1
   have HM4 := Aside0.mk hM4
   have HG3 := Aside0.mk hg3
   have HG4 := Aside0.mk hg4
   have HN := Aside0.mk hn
   clear hM3 hg3 hM4 hg4 hj hn
   have HBW : Aside0 (Below w.heap.size w W) := ⟨by rw [HW.out]; exact below_drew (HB.out.alloc HB.out.size _)⟩
   go_wp2
   go_region
   go_wp2
   go_roundg k
   case measure => omega
   case rel => exact ⟨i + 1, _, by have := HI2.out; omega, by go_num, HM4, ⟨by rw [HI.out, HD.out]⟩, ⟨(HBW.out.grown HG3.out HBW.out.size (fun k e => by cases e; exact Nat.le_refl _)).grown HG4.out (Nat.le_trans HBW.out.size HG3.out.size) (fun k e => by cases e; exact Nat.le_refl _)⟩⟩
end Go.Proofs.YtokekdhmhfoliaaGreat.F
end

section
namespace Go.Proofs.YtokekdhmhfoliaaGreat.F
open Go.RowKit Go.Proofs.YtokekdhmhfoliaaGreatW.PrintWords Go.Proofs.YtokekdhmhfoliaaGreatW.PrintLast Go.Proofs.YtokekdhmhfoliaaGreatW.PrintMore
attribute [local go_sem] max2_int min2_int max_two min_two max_three min_three max_four min_four
set_option linter.unusedVariables false
set_option linter.unusedSimpArgs false
theorem eqA38 (d : Nat) (w : World) (x0 y0 : Int) (x1 y1 : Bool) (x2 y2 : Int) :
  (Op.equalIn (d + 2) 38 (.agg #[.int .i64 x0, .bool x1, .int .i64 x2]) (.agg #[.int .i64 y0, .bool y1, .int .i64 y2])).run Tryz.prog w = .ok (x0 == y0 && (x1 == y1 && (x2 == y2))) w := by
 refine eqA_of Tryz.underlying38 (by kernel_rfl) ?_
 refine eqf_cons (by rfl) (by go_simp; rfl) (by go_simp; rfl) (by go_simp) ?_
 refine eqf_cons (by rfl) (by go_simp; rfl) (by go_simp; rfl) (by go_simp) ?_
 exact eqf_last (by rfl) (by go_simp; rfl) (by go_simp; rfl) (by go_simp)
theorem eqA70 (d : Nat) (w : World) (x0 y0 : Int) (x1 y1 : Bool) (x2 y2 : Int) (x3 y3 : Bool) :
  (Op.equalIn (d + 3) 70 (.agg #[.int .i64 x0, .bool x1, .int .i64 x2, .bool x3]) (.agg #[.int .i64 y0, .bool y1, .int .i64 y2, .bool y3])).run Tryz.prog w = .ok ((x0 == y0 && (x1 == y1 && (x2 == y2))) && (x3 == y3)) w := by
 refine eqA_of Tryz.underlying70 (by kernel_rfl) ?_
 refine eqf_cons (by rfl) (by go_simp) (by go_simp) (eqA38 (d + 0) w _ _ _ _ _ _) ?_
 exact eqf_last (by rfl) (by go_simp; rfl) (by go_simp; rfl) (by go_simp)
end Go.Proofs.YtokekdhmhfoliaaGreat.F
end

section
namespace Go.Proofs.YtokekdhmhfoliaaGreat.F
open Go.RowKit Go.Proofs.YtokekdhmhfoliaaGreatW.PrintWords Go.Proofs.YtokekdhmhfoliaaGreatW.PrintLast Go.Proofs.YtokekdhmhfoliaaGreatW.PrintMore
attribute [local go_sem] max2_int min2_int max_two min_two max_three min_three max_four min_four
set_option linter.unusedVariables false
set_option linter.unusedSimpArgs false
attribute [local go_sem high] eqA70
def argosyref20_Same.l0 : Nat → List (S70) → List (S70) → Int → Option (Bool)
 | 0, _, _, _ => none
 | k + 1, x0, x1, x5 => if x5 < (x0.length : Int) then (if 0 ≤ x5 then (if x5 < (x1.length : Int) then (if ((!(((rd_T70 x0 x5).f0.f0) == ((rd_T70 x1 x5).f0.f0)) || (!(((rd_T70 x0 x5).f0.f1) == ((rd_T70 x1 x5).f0.f1)) || (!(((rd_T70 x0 x5).f0.f2) == ((rd_T70 x1 x5).f0.f2))))) || (!(((rd_T70 x0 x5).f1) == ((rd_T70 x1 x5).f1)))) = true then (some false) else (argosyref20_Same.l0 k x0 x1 (wrap64 (x5 + 1)))) else (none)) else (none)) else (some true)
def argosyref20_Same.f (k : Nat) (l0 : List (S70)) (l1 : List (S70)) : Option (Bool) := if (l0.length : Int) = (l1.length : Int) then (argosyref20_Same.l0 k l0 l1 0) else (some false)
set_option maxHeartbeats 8000000 in
set_option maxRecDepth 100000 in
theorem argosyref20_Same.calls (k : Nat) (A0 : Option Addr) (c0 : Nat) (l0 : List (S70)) (A1 : Option Addr) (c1 : Nat) (l1 : List (S70)) (r : Bool) (w : World) (hr0 : Kd.C k70 w A0 l0.length l0) (hc0 : l0.length ≤ c0) (hr1 : Kd.C k70 w A1 l1.length l1) (hc1 : l1.length ≤ c1) (h : argosyref20_Same.f k l0 l1 = some r) :
  Calls Tryz.prog 32 #[.slice A0 l0.length c0, .slice A1 l1.length c1] w fun e w' => e = .returned (.bool r) ∧ Drawn0 w w' := by
 have hu70 := Tryz.underlying70
 have HR0 := Aside0.mk hr0
 have HC0 := Aside0.mk hc0
 clear hr0 hc0
 have HR1 := Aside0.mk hr1
 have HC1 := Aside0.mk hc1
 clear hr1 hc1
 have H : (if (l0.length : Int) = (l1.length : Int) then (argosyref20_Same.l0 k l0 l1 0) else (some false)) = some r := h
 clear h
 by_cases c3 : (l0.length : Int) = (l1.length : Int)
 ·rw [if_pos c3] at H
  have c3b0 : ((l0.length : Int) == (l1.length : Int)) = true := beq_iff_eq.mpr c3
  have c3b1 : ((l0.length : Int) != (l1.length : Int)) = false := bne_eq_false_iff_eq.mpr c3
  have c3b2 : (l0.length == l1.length) = true := by first | simpa using c3 | (simp at c3 ⊢; omega)
  clear c3
  have H' := Aside0.mk H
  clear H
  go_enter Tryz.func32, Tryz.ntmps32
  go_wp2
  repeat (go_quiet (fail); try go_wp2)
  go_loopg [5] k (fun kq v5 w' => ∃ (x5_1 : Int), v5 = .int .i64 x5_1 ∧ Aside0 (argosyref20_Same.l0 kq l0 l1 x5_1 = some r) ∧ Aside0 (kq ≤ k) ∧ Drawn0 w w')
  case atStart => exact ⟨(0), (by first | rfl | (simp; done) | (simp [*]; done)), H', ⟨Nat.le_refl _⟩, by repeat (first | exact Drawn0.refl _ | apply Drawn0.step)⟩
  case round =>
   clear H'
   try clear c1
   try clear p2
   try clear c3
   try clear c3b0
   try clear c3b1
   try clear c3b2
   obtain ⟨x5_1, rfl, HA, HK1, ⟨m1, rfl⟩⟩ := hrel
   cases gk with
   | zero => exact absurd HA.out (by simp [argosyref20_Same.l0])
   | succ k1 =>
    have H := HA.out
    clear HA
    simp only [argosyref20_Same.l0] at H
    by_cases c4 : x5_1 < (l0.length : Int)
    ·rw [if_pos c4] at H
     have c4b0 : decide (x5_1 < (l0.length : Int)) = true := decide_eq_true c4
     clear c4
     by_cases c5 : 0 ≤ x5_1
     ·rw [if_pos c5] at H
      have c5b0 : decide (0 ≤ x5_1) = true := decide_eq_true c5
      clear c5
      by_cases c6 : x5_1 < (l1.length : Int)
      ·rw [if_pos c6] at H
       have c6b0 : decide (x5_1 < (l1.length : Int)) = true := decide_eq_true c6
       clear c6
       by_cases c7 : ((!(((rd_T70 l0 x5_1).f0.f0) == ((rd_T70 l1 x5_1).f0.f0)) || (!(((rd_T70 l0 x5_1).f0.f1) == ((rd_T70 l1 x5_1).f0.f1)) || (!(((rd_T70 l0 x5_1).f0.f2) == ((rd_T70 l1 x5_1).f0.f2))))) || (!(((rd_T70 l0 x5_1).f1) == ((rd_T70 l1 x5_1).f1)))) = true
       ·rw [if_pos c7] at H
        have c7b0 : ((!(((rd_T70 l0 x5_1).f0.f0) == ((rd_T70 l1 x5_1).f0.f0)) || (!(((rd_T70 l0 x5_1).f0.f1) == ((rd_T70 l1 x5_1).f0.f1)) || (!(((rd_T70 l0 x5_1).f0.f2) == ((rd_T70 l1 x5_1).f0.f2))))) || (!(((rd_T70 l0 x5_1).f1) == ((rd_T70 l1 x5_1).f1)))) = true := c7
        clear c7
        obtain rfl := Option.some.inj H
        have p105 : 0 ≤ (x5_1 : Int) := of_decide_eq_true (by first | (with_reducible assumption) | assumption)
        have q105 : x5_1 < (l0.length : Int) := of_decide_eq_true (by first | (with_reducible assumption) | assumption)
        obtain ⟨ad105, e105, hx105_0, hx105_1, hx105_2, hx105_3⟩ := at_T70 HR0.out x5_1 p105 q105
        cases e105
        replace p105 := eq_true p105
        replace q105 := eq_true q105
        have p106 : 0 ≤ (x5_1 : Int) := of_decide_eq_true (by first | (with_reducible assumption) | assumption)
        have q106 : x5_1 < (l1.length : Int) := of_decide_eq_true (by first | (with_reducible assumption) | assumption)
        obtain ⟨ad106, e106, hx106_0, hx106_1, hx106_2, hx106_3⟩ := at_T70 HR1.out x5_1 p106 q106
        cases e106
        replace p106 := eq_true p106
        replace q106 := eq_true q106
        go_wp2
        repeat (go_quiet (fail); try go_wp2)
        go_ret
        exact ⟨by first | rfl | (simp; done) | (simp [*]; done), by repeat (first | exact Drawn0.refl _ | apply Drawn0.step)⟩
       ·rw [if_neg c7] at H
        have c7b0 : ((!(((rd_T70 l0 x5_1).f0.f0) == ((rd_T70 l1 x5_1).f0.f0)) || (!(((rd_T70 l0 x5_1).f0.f1) == ((rd_T70 l1 x5_1).f0.f1)) || (!(((rd_T70 l0 x5_1).f0.f2) == ((rd_T70 l1 x5_1).f0.f2))))) || (!(((rd_T70 l0 x5_1).f1) == ((rd_T70 l1 x5_1).f1)))) = false := by simpa using c7
        clear c7
        have H' := Aside0.mk H
        clear H
        have p105 : 0 ≤ (x5_1 : Int) := of_decide_eq_true (by first | (with_reducible assumption) | assumption)
        have q105 : x5_1 < (l0.length : Int) := of_decide_eq_true (by first | (with_reducible assumption) | assumption)
        obtain ⟨ad105, e105, hx105_0, hx105_1, hx105_2, hx105_3⟩ := at_T70 HR0.out x5_1 p105 q105
        cases e105
        replace p105 := eq_true p105
        replace q105 := eq_true q105
        have p106 : 0 ≤ (x5_1 : Int) := of_decide_eq_true (by first | (with_reducible assumption) | assumption)
        have q106 : x5_1 < (l1.length : Int) := of_decide_eq_true (by first | (with_reducible assumption) | assumption)
        obtain ⟨ad106, e106, hx106_0, hx106_1, hx106_2, hx106_3⟩ := at_T70 HR1.out x5_1 p106 q106
        cases e106
        replace p106 := eq_true p106
        replace q106 := eq_true q106
        go_wp2
        repeat (go_quiet (fail); try go_wp2)
        go_roundg k1
        case measure => have := HK1.out; omega
        case rel => exact ⟨(wrap64 (x5_1 + 1)), (by first | rfl | (simp; done) | (simp [*]; done)), H', ⟨by have := HK1.out; omega⟩, by repeat (first | exact Drawn0.refl _ | apply Drawn0.step)⟩
      ·rw [if_neg c6] at H
       exact absurd H (by simp)
     ·rw [if_neg c5] at H
      exact absurd H (by simp)
    ·rw [if_neg c4] at H
     have c4b0 : decide (x5_1 < (l0.length : Int)) = false := decide_eq_false c4
     clear c4
     obtain rfl := Option.some.inj H
     go_wp2
     repeat (go_quiet (fail); try go_wp2)
     go_ret
     exact ⟨by first | rfl | (simp; done) | (simp [*]; done), by repeat (first | exact Drawn0.refl _ | apply Drawn0.step)⟩
 ·rw [if_neg c3] at H
  have c3b0 : ((l0.length : Int) == (l1.length : Int)) = false := beq_eq_false_iff_ne.mpr c3
  have c3b1 : ((l0.length : Int) != (l1.length : Int)) = true := bne_iff_ne.mpr c3
  have c3b2 : (l0.length == l1.length) = false := by first | simpa using c3 | (simp at c3 ⊢; omega)
  obtain rfl := Option.some.inj H
  go_enter Tryz.func32, Tryz.ntmps32
  go_wp2
  repeat (go_quiet (fail); try go_wp2)
  go_ret
  exact ⟨by first | rfl | (simp; done) | (simp [*]; done), by repeat (first | exact Drawn0.refl _ | apply Drawn0.step)⟩
end Go.Proofs.YtokekdhmhfoliaaGreat.F
end

section
namespace Go.Proofs.YtokekdhmhfoliaaGreat.F
open Go.RowKit Go.Proofs.YtokekdhmhfoliaaGreatW.PrintWords Go.Proofs.YtokekdhmhfoliaaGreatW.PrintLast Go.Proofs.YtokekdhmhfoliaaGreatW.PrintMore
attribute [local go_sem] max2_int min2_int max_two min_two max_three min_three max_four min_four
set_option linter.unusedVariables false
set_option linter.unusedSimpArgs false
def lastsRun : List S70 → List (S38 × Int) → List S70
 | [], _ => []
 | x :: l, m => if wrap64 (((mapLook m x.f0).getD 0) + 1) = 1 then x :: lastsRun l (mapPut m x.f0 (wrap64 (((mapLook m x.f0).getD 0) + 1))) else lastsRun l (mapPut m x.f0 (wrap64 (((mapLook m x.f0).getD 0) + 1)))
def lastsOf (l : List S70) : List S70 := lastsRun l.reverse []
theorem lasts_take (l : List S70) (i : Nat) (h : i < l.length) (m : List (S38 × Int)) : lastsRun (l.take (i + 1)).reverse m = if wrap64 (((mapLook m l[i].f0).getD 0) + 1) = 1 then l[i] :: lastsRun (l.take i).reverse (mapPut m l[i].f0 (wrap64 (((mapLook m l[i].f0).getD 0) + 1))) else lastsRun (l.take i).reverse (mapPut m l[i].f0 (wrap64 (((mapLook m l[i].f0).getD 0) + 1))) := by
 rw [List.take_succ_eq_append_getElem h, List.reverse_append]; rfl
def effArgs (x : S70) : Array Value := #[.agg #[.int .i64 x.f0.f0, .bool x.f0.f1, .int .i64 x.f0.f2, .bool x.f1]]
def effCells (x : S70) : List Value := [.int .i64 x.f0.f0, .bool x.f0.f1, .int .i64 x.f0.f2, .bool x.f1]
structure KeepLasts (n₀ Bn : Nat) (A B : World) : Prop where
 below : Below n₀ A B
 walks : KeepsWalks A B
 box : ∀ v, Boxed A Bn 25 v → Boxed B Bn 25 v
theorem KeepLasts.trans {n₀ Bn : Nat} {A B C : World} (h : KeepLasts n₀ Bn A B) (k : KeepLasts n₀ Bn B C) : KeepLasts n₀ Bn A C := ⟨h.below.trans k.below, h.walks.trans k.walks, fun v hv => k.box v (h.box v hv)⟩
theorem MapIs.kept {κ ν : Type} {encK : κ → Value} {encV : ν → Value} {w w' : World} {b : Nat} {m : List (κ × ν)} (h : MapIs encK encV w b m) (hk : KeepsWalks w w') : MapIs encK encV w' b m := by
 obtain ⟨es, h1, h2⟩ := h.entries
 exact h.of_block ((hk.same b _ h1 rfl).trans h1.symm)
theorem MapIs.walk {κ ν : Type} {encK : κ → Value} {encV : ν → Value} {w : World} {b : Nat} {m : List (κ × ν)} (h : MapIs encK encV w b m) : ∃ o : Obj, w.heap[b]? = some o ∧ o.isWalk = true := by
 obtain ⟨es, h1, h2⟩ := h.entries
 exact ⟨_, h1, rfl⟩
theorem grownDrew (w : World) : w.grownBy w.drew none := ⟨rfl, rfl, rfl, Nat.le_refl _, fun _ _ _ => rfl⟩
theorem skip_wide {n : Nat} {P : Program} {ops : Array Oper} {Q : Exit → Act → World → Prop} {rest : List Oper} {o : Oper} {a : Act} {w : World} (hw : Region.wanted o (yielded ops a.tmps) = false) (h : wpListIn Fence.wide n P ops Q rest (a.put o.dst undef) w) : wpListIn Fence.wide n P ops Q (o :: rest) a w := by
 simp only [wpListIn, hw]
 exact ⟨fun _ _ => trivial, h⟩
def posOf : Value → Nat
 | .int _ n => (n + 1).toNat
 | _ => 0
set_option maxHeartbeats 8000000 in
set_option maxRecDepth 100000 in
theorem lasts_round (n : Nat) (hn : 1 ≤ n) (l Bn n₀ : Nat) (A0 : Option Addr) (c0 : Nat) (l0 : List S70) (J Jx : List S70 → World → Prop)
  (hY : ∀ pre x W, J pre W → pre.length < l0.length → YieldAt Fence.wide (n - 1) Tryz.prog l (effArgs x) W fun e W' =>
   (e = .returned (.bool true) ∧ J (pre ++ [x]) W' ∧ KeepLasts n₀ Bn W W') ∨ (e = .returned (.bool false) ∧ Jx (pre ++ [x]) W'))
  (W0 : World) (hJ : AbidesFrom W0.heap.size J) (hn₀ : n₀ ≤ W0.heap.size) (hBn : Boxed W0 Bn 25 (.slice A0 l0.length c0)) (hC : ∀ W, Below n₀ W0 W → Kd.C k70 W A0 l0.length l0) (hc0 : l0.length ≤ c0) (hmax : l0.length ≤ maxLen) (h0 : J [] W0) :
  CallsIn Fence.wide n Tryz.prog 105 #[.func (.yield l) #[] #[], .pointer (some ⟨Bn, 0, none⟩)] W0 fun e W' => (∃ v, e = .returned v) ∧
   ((∃ ys, ys = lastsOf l0 ∧ J ys W') ∨ (∃ pre, True ∧ Jx pre W')) := by
 have HY := Aside0.mk hY
 have HJ := Aside0.mk hJ
 have HC := Aside0.mk hC
 have HN := Aside0.mk hn₀
 have HM := Aside0.mk hmax
 have HH := Aside0.mk h0
 have HL := Aside0.mk (lasts_take l0)
 have hB1 := hBn.alloc (.map #[] 0)
 have cB := hB1.cell
 have HB := Aside0.mk hB1
 have hmm := @run_makeMap Tryz.prog
 have h1 : J [] (W0.alloc (.map #[] 0)) := hJ _ _ _ none h0 (World.grownBy_alloc _ _ _) (fun r e => by cases e)
 have HH := Aside0.mk h1
 clear hY hJ hC hn₀ h0 h1 hBn hB1 hmax
 refine callsIn_of_wp Tryz.func105 rfl trivial ?_ rfl
 simp only [Tryz.ntmps105, List.size_toArray, List.length_cons, List.length_nil, Nat.reduceAdd, Nat.reduceSub, Array.replicate_succ, Array.replicate_zero, List.push_toArray, List.append_toArray, List.nil_append, List.cons_append]
 gi_wp2
 clear hmm cB
 have hlen : (l0.length : Int) ≤ 9223372036854775807 := by have := HM.out; unfold maxLen at this; omega
 have hw : wrap64 ((l0.length : Int) - 1) = (l0.length : Int) - 1 := by unfold wrap64; omega
 rw [hw]
 clear hw hlen
 gi_loopw [4] (fun v wr => ∃ (i : Nat) (m : List (S38 × Int)) (pre : List S70), i ≤ l0.length ∧ v = .int .i64 ((i : Int) - 1) ∧ Aside0 (pre.length + i ≤ l0.length) ∧ Aside0 (MapIs encKey (fun n : Int => Value.int .i64 n) wr W0.heap.size m) ∧ Aside0 (lastsOf l0 = pre ++ lastsRun (l0.take i).reverse m) ∧ Aside0 (J pre wr) ∧ Aside0 (Below n₀ W0 wr) ∧ Aside0 (Boxed wr Bn 25 (.slice A0 l0.length c0)) ∧ Aside0 (W0.heap.size ≤ wr.heap.size))
  (fun v _ => posOf v)
 case atStart =>
  exact ⟨l0.length, [], [], Nat.le_refl _, rfl, ⟨by simp⟩, ⟨MapIs.made _ _ _⟩, ⟨by rw [List.take_length]; rfl⟩, HH, ⟨(Below.refl n₀ W0).alloc HN.out _⟩, HB, ⟨by simp⟩⟩
 case round =>
  obtain ⟨i, m, pre, hi, rfl, HP, HMP, HI, HJP, HBW, HBX, HSZ⟩ := hrel
  have hi2 := hi
  cases i with
  | zero =>
   have HE : Aside0 (lastsOf l0 = pre) := ⟨by rw [HI.out]; simp [lastsRun]⟩
   have hz : decide (((0 : Nat) : Int) - 1 ≥ 0) = false := by decide
   gi_wp2
   go_end0
   exact ⟨⟨_, rfl⟩, .inl ⟨_, HE.out.symm, HJP.out⟩⟩
  | succ i =>
   have hlt : i < l0.length := by omega
   have hv : ((i + 1 : Nat) : Int) - 1 = (i : Int) := by omega
   rw [hv]
   obtain ⟨ad, e0, x0, x1, x2, x3⟩ := at_T70 (HC.out wr HBW.out) (i : Int) (by omega) (by omega)
   rw [Int.toNat_natCast] at x0 x1 x2 x3
   have hrd : rd_T70 l0 (i : Int) = l0[i] := by unfold rd_T70; rw [Int.toNat_natCast, List.getD_eq_getElem?_getD, List.getElem?_eq_getElem hlt]; rfl
   rw [hrd] at x0 x1 x2 x3
   subst e0
   obtain ⟨x, hx⟩ : ∃ x, l0[i] = x := ⟨_, rfl⟩
   have HD := Aside0.mk (HL.out i hlt m)
   rw [hx] at x0 x1 x2 x3 HD
   have hlt' : (i : Int) < (l0.length : Int) := by omega
   have h0 : (0 : Int) ≤ i := by omega
   have hge : decide ((i : Int) ≥ 0) = true := decide_eq_true h0
   have hbx := HBX.out.cell
   have HI2 := Aside0.mk hi2
   clear hx hrd hi hi2 hv
   obtain ⟨W, HW⟩ : ∃ W, Aside0 (W = (wr.alloc (.cells #[.int .i64 x.f0.f0, .bool x.f0.f1, .int .i64 x.f0.f2, .bool x.f1] 70)).drew) := ⟨_, ⟨rfl⟩⟩
   have HMW : Aside0 (MapIs encKey (fun n : Int => Value.int .i64 n) W W0.heap.size m) := ⟨by rw [HW.out]; exact (HMP.out.alloc _).drew⟩
   obtain ⟨v, hv⟩ : ∃ v, (mapLook m x.f0).getD 0 = v := ⟨_, rfl⟩
   have hl1 := run_map_lookup key_ok Tryz.underlying130 int_zero HMW.out x.f0 false
   obtain ⟨w3, j, he1, hM3, hg3, hj⟩ := run_map_entry key_ok Tryz.underlying130 int_zero HMW.out x.f0
   obtain ⟨w4, hs1, hM4, hg4⟩ := run_entry_store (P := Tryz.prog) (T := 130) hM3 hj (wrap64 (v + 1))
   rw [put_put] at hM4
   have hl4 := run_map_lookup key_ok Tryz.underlying130 int_zero hM4 x.f0 false
   have hl2 := run_map_lookup key_ok Tryz.underlying130 int_zero hM3 x.f0 false
   rw [put_look] at hl2 hl4
   rw [hv] at hl1 he1 hl2 HD
   change (Instr.lookup 130 (.map (some W0.heap.size)) (.agg #[.int .i64 x.f0.f0, .bool x.f0.f1, .int .i64 x.f0.f2]) false).run Tryz.prog W = .ok (.int .i64 v) W at hl1
   change (Instr.lookup 130 (.map (some W0.heap.size)) (.agg #[.int .i64 x.f0.f0, .bool x.f0.f1, .int .i64 x.f0.f2]) false).run Tryz.prog w3 = .ok (.int .i64 v) w3 at hl2
   change (Instr.lookup 130 (.map (some W0.heap.size)) (.agg #[.int .i64 x.f0.f0, .bool x.f0.f1, .int .i64 x.f0.f2]) false).run Tryz.prog w4 = .ok (.int .i64 (wrap64 (v + 1))) w4 at hl4
   change (Instr.mapEntry 130 (.map (some W0.heap.size)) (.agg #[.int .i64 x.f0.f0, .bool x.f0.f1, .int .i64 x.f0.f2])).run Tryz.prog W = .ok (.tuple #[.int .i64 v, .int .i64 (j : Nat)]) w3 at he1
   change (Instr.entryStore 130 (.map (some W0.heap.size)) (.int .i64 (j : Nat)) (.int .i64 (wrap64 (v + 1)))).run Tryz.prog w3 = .ok () w4 at hs1
   rw [HW.out] at hl1 he1
   have HGW : Aside0 (W.grownBy w4 (some W0.heap.size)) := ⟨hg3.trans hg4⟩
   have hcell : ∀ j, w4.cell? ⟨wr.heap.size, j, none⟩ = W.cell? ⟨wr.heap.size, j, none⟩ := fun j =>
    World.cell?_of_block (HGW.out.block wr.heap.size (by rw [HW.out]; show wr.heap.size < (wr.alloc _).heap.size; rw [World.size_alloc]; omega) (by have := HMP.out.lt; intro e; injection e with e; omega))
   have hWc : ∀ j, W.cell? ⟨wr.heap.size, j, none⟩ = (#[Value.int .i64 x.f0.f0, .bool x.f0.f1, .int .i64 x.f0.f2, .bool x.f1])[j]? := fun j => by
    rw [HW.out]
    show (match (wr.alloc _).heap[wr.heap.size]? with | some (.cells c _ _) => c[j]? | _ => none) = _
    rw [World.alloc_heap_new]
   have y0 : w4.cell? ⟨wr.heap.size, 0, none⟩ = some (.int .i64 x.f0.f0) := by rw [hcell, hWc]; rfl
   have y1 : w4.cell? ⟨wr.heap.size, 1, none⟩ = some (.bool x.f0.f1) := by rw [hcell, hWc]; rfl
   have y2 : w4.cell? ⟨wr.heap.size, 2, none⟩ = some (.int .i64 x.f0.f2) := by rw [hcell, hWc]; rfl
   have y3 : w4.cell? ⟨wr.heap.size, 3, none⟩ = some (.bool x.f1) := by rw [hcell, hWc]; rfl
   have HGA : Aside0 (wr.grownBy w4 (some W0.heap.size)) := ⟨((World.grownBy_alloc wr _ _).trans (by have := grownDrew (wr.alloc (.cells #[.int .i64 x.f0.f0, .bool x.f0.f1, .int .i64 x.f0.f2, .bool x.f1] 70)); exact ⟨this.os, this.tape, this.output, this.size, fun k hk _ => this.block k hk (by simp)⟩)).trans (HW.out ▸ HGW.out)⟩
   have HM4 := Aside0.mk hM4
   have HV := Aside0.mk hv
   clear hM3 hg3 hM4 hg4 hj hv hcell hWc
   gi_wp2
   gi_region
   have HJ4 : Aside0 (J pre w4) := ⟨HJ.out _ _ _ _ HJP.out HGA.out (fun r e => by cases e; exact ⟨Nat.le_refl _, HMP.out.walk⟩)⟩
   have HB4 : Aside0 (Below n₀ W0 w4) := ⟨HBW.out.grown HGA.out (Nat.le_trans HN.out HSZ.out) (fun k e => by cases e; exact HN.out)⟩
   have HX4 : Aside0 (Boxed w4 Bn 25 (.slice (some ad) l0.length c0)) := ⟨HBX.out.kept HGA.out (fun e => by
    cases e
    obtain ⟨o, ho, hw⟩ := HMP.out.walk
    have hb := HBX.out
    unfold Boxed at hb
    rw [hb] at ho; cases ho; cases hw)⟩
   have HS4 : Aside0 (W0.heap.size ≤ w4.heap.size) := ⟨Nat.le_trans HSZ.out HGA.out.size⟩
   have hwi : wrap64 ((i : Int) - 1) = (i : Int) - 1 := by
    have := HM.out
    unfold maxLen at this
    unfold wrap64
    omega
   by_cases h1 : wrap64 (v + 1) = 1
   ·have hb : (wrap64 (v + 1) == 1) = true := by rw [h1]; rfl
    have hd : lastsOf l0 = pre ++ x :: lastsRun (l0.take i).reverse (mapPut m x.f0 (wrap64 (v + 1))) := by rw [HI.out, HD.out, if_pos h1]
    have HDD := Aside0.mk hd
    clear hd
    obtain ⟨fn, tmps, assign, body, hy, hR⟩ := HY.out pre x w4 HJ4.out (by have := HP.out; omega)
    have HR := Aside0.mk hR
    clear hR
    change (Instr.yield l #[.agg #[.int .i64 x.f0.f0, .bool x.f0.f1, .int .i64 x.f0.f2, .bool x.f1]]).run Tryz.prog w4 = _ at hy
    gi_wp2_with (refine skip_wide (by rfl) ?_)
    refine HR.out.mono ?_
    rintro e W3 (⟨rfl, hJ3, hk3⟩ | ⟨rfl, hJx3⟩)
    ·have HJ3 := Aside0.mk hJ3
     have HK3 := Aside0.mk hk3
     clear hJ3 hk3
     gi_wp2_with (refine skip_wide (by rfl) ?_)
     rw [hwi]
     go_roundw
     case rel => exact ⟨i, _, pre ++ [x], by have := HI2.out; omega, rfl, ⟨by have := HP.out; simp; omega⟩, ⟨HM4.out.kept HK3.out.walks⟩, ⟨by rw [HDD.out, List.append_assoc]; rfl⟩, HJ3, ⟨HB4.out.trans HK3.out.below⟩, ⟨HK3.out.box _ HX4.out⟩, ⟨Nat.le_trans HS4.out HK3.out.walks.size⟩⟩
     case measure => show ((i : Int) - 1 + 1).toNat < ((i : Int) + 1).toNat; omega
    ·have HX3 := Aside0.mk hJx3
     clear hJx3
     gi_wp2_with (refine skip_wide (by rfl) ?_)
     refine bodyPost_ret (results_none rfl _ _ _) rfl ?_
     exact ⟨⟨_, rfl⟩, .inr ⟨pre ++ [x], trivial, HX3.out⟩⟩
   ·have hb : (wrap64 (v + 1) == 1) = false := by simpa using h1
    have hd : lastsOf l0 = pre ++ lastsRun (l0.take i).reverse (mapPut m x.f0 (wrap64 (v + 1))) := by rw [HI.out, HD.out, if_neg h1]
    have HDD := Aside0.mk hd
    clear hd
    gi_wp2_with (refine skip_wide (by rfl) ?_)
    rw [hwi]
    go_roundw
    case rel => exact ⟨i, _, pre, by have := HI2.out; omega, rfl, ⟨by have := HP.out; omega⟩, HM4, HDD, HJ4, HB4, HX4, HS4⟩
    case measure => show ((i : Int) - 1 + 1).toNat < ((i : Int) + 1).toNat; omega
theorem lasts_call (n : Nat) (v : Value) (w : World) (hv : v.oneCell' = true) : CallsIn Fence.wide n Tryz.prog 68 #[v] w fun e w' => e = .returned (.func (.func 105) #[] #[.pointer (some ⟨w.heap.size, 0, none⟩)]) ∧ w' = w.alloc (.cells #[v] 25) := by
 refine callsIn_wide.2 ?_
 go_enter Tryz.func68, Tryz.ntmps68
 go_wp2
 go_ret
 exact ⟨rfl, rfl⟩
theorem lasts_stops (n : Nat) (hn : 1 ≤ n) (Bn n₀ : Nat) (A0 : Option Addr) (c0 : Nat) (l0 : List S70) (w : World) (hBn : Boxed w Bn 25 (.slice A0 l0.length c0)) (hn₀ : n₀ ≤ w.heap.size) (hC : ∀ W, Below n₀ w W → Kd.C k70 W A0 l0.length l0) (hc0 : l0.length ≤ c0) (hmax : l0.length ≤ maxLen) :
  SeqStopsK Fence.wide n Tryz.prog 105 #[.pointer (some ⟨Bn, 0, none⟩)] effArgs (KeepLasts n₀ Bn) (fun ys => ys = lastsOf l0) (fun _ => True) l0.length w := fun l J Jx W hW hJ _ hY h0 =>
 lasts_round n hn l Bn n₀ A0 c0 l0 J Jx hY W hJ (Nat.le_trans hn₀ hW.size) ((hW.block Bn hBn.lt).trans hBn) (fun W' h => hC W' ((hW.mono hn₀).trans h)) hc0 hmax h0
end Go.Proofs.YtokekdhmhfoliaaGreat.F
end

section
namespace Go.Proofs.YtokekdhmhfoliaaGreat.F
open Go.RowKit Go.Proofs.YtokekdhmhfoliaaGreatW.PrintWords Go.Proofs.YtokekdhmhfoliaaGreatW.PrintLast Go.Proofs.YtokekdhmhfoliaaGreatW.PrintMore
attribute [local go_sem] max2_int min2_int max_two min_two max_three min_three max_four min_four
set_option linter.unusedVariables false
set_option linter.unusedSimpArgs false
def api_Effect.l0 : Nat → List (S70) → Int → Int → Option ((List (S70)))
 | 0, _, _, _ => none
 | k + 1, x0, x2, x3 => if x2 < x3 then (if 0 ≤ x3 then (if x3 < (x0.length : Int) then (if 0 ≤ x2 then (if x2 < (x0.length : Int) then (api_Effect.l0 k ((x0.set (x2 : Int).toNat (⟨(⟨(rd_T70 x0 x3).f0.f0, (rd_T70 x0 x3).f0.f1, (rd_T70 x0 x3).f0.f2⟩ : S38), (rd_T70 x0 x3).f1⟩ : S70)).set (x3 : Int).toNat (⟨(⟨(rd_T70 x0 x2).f0.f0, (rd_T70 x0 x2).f0.f1, (rd_T70 x0 x2).f0.f2⟩ : S38), (rd_T70 x0 x2).f1⟩ : S70)) (wrap64 (x2 + 1)) (wrap64 (x3 - 1))) else (none)) else (none)) else (none)) else (none)) else (some x0)
def api_Effect.f (k : Nat) (l0 : List (S70)) : Option ((List (S70))) := api_Effect.l0 k l0 0 (wrap64 ((l0.length : Int) - 1))
def api_Effect.T3 : Bool × List (List Nat × List Nat) := (true, [([], []), ([], []), ([], []), ([], []), ([], []), ([], []), ([4, 5], [4, 5]), ([6], [6]), ([], []), ([], []), ([8, 9], [8, 9]), ([10], [10]), ([0, 1, 0, 1, 4, 5, 6, 7, 11], [0, 1]), ([12, 7, 0, 1, 4, 5, 6, 7, 11], [7, 12]), ([2, 3, 0, 1, 2, 3, 4, 5, 6, 7, 8, 9, 10, 11, 12, 13], [2, 3]), ([14, 11, 13, 0, 1, 2, 3, 4, 5, 6, 7, 8, 9, 10, 11, 12, 13], [11, 14])])
def api_Effect.B3 : List Nat := [0, 0, 0, 0, 0, 0, 48, 112, 0, 0, 768, 1792, 4083, 8179, 16383, 32767]
theorem api_Effect.tab3 : rtab .any (opsOf Tryz.f69 3) = api_Effect.T3 := by kernel_rfl
theorem api_Effect.bits3 : waitsOk api_Effect.T3.2 api_Effect.B3 = true := by kernel_rfl
set_option maxHeartbeats 8000000 in
set_option maxRecDepth 100000 in
theorem api_Effect.calls (k : Nat) (P0_ : Nat → Prop) (u9000_ : Value) (l0 : List (S70)) (r : List (S70)) (w0 w : World) (hB : Below w0.heap.size w0 w) (ho0 : Kd.R k70 70 w w0.heap.size P0_ u9000_ l0) (h : api_Effect.f k l0 = some r) :
  Calls Tryz.prog 69 #[u9000_] w fun e w' => e = .returned (.tuple #[]) ∧ Kd.R k70 70 w' w0.heap.size (fun k_ => (P0_ k_ ∨ w.heap.size ≤ k_)) u9000_ r ∧ Below w0.heap.size w0 w' ∧ Kept w w' (fun k_ => P0_ k_) := by
 have hu70 := Tryz.underlying70
 have HO0 := Aside0.mk (show Kd.R k70 70 w w0.heap.size (fun k_ => (P0_ k_ ∨ w.heap.size ≤ k_)) u9000_ l0 from Kd.R_mono ho0 (fun k_ hk => (.inl hk)))
 have HK := Aside0.mk (Kept.refl w (fun k_ => P0_ k_))
 have HW0 := Aside0.mk hB.size
 have HB := Aside0.mk hB
 clear hB
 have H : (api_Effect.l0 k l0 0 (wrap64 ((l0.length : Int) - 1))) = some r := h
 clear h
 have H' := Aside0.mk H
 clear H
 obtain ⟨Ao2, co2, eo2⟩ := Kd.R_slice HO0.out
 subst eo2
 go_enter Tryz.func69, Tryz.ntmps69
 go_wp2
 go_loopg [2, 3] k (fun kq v2 v3 w' => ∃ (x0_1 : List (S70)) (x2_1 : Int) (x3_1 : Int), v2 = .int .i64 x2_1 ∧ v3 = .int .i64 x3_1 ∧ Aside0 (api_Effect.l0 kq x0_1 x2_1 x3_1 = some r) ∧ Aside0 (kq ≤ k) ∧ Aside0 (Kd.R k70 70 w' w0.heap.size (fun k_ => (P0_ k_ ∨ w.heap.size ≤ k_)) (.slice Ao2 l0.length co2) x0_1) ∧ Aside0 (Kept w w' (fun k_ => P0_ k_)) ∧ Aside0 (Below w0.heap.size w0 w'))
 case atStart => exact ⟨(l0), (0), (wrap64 ((l0.length : Int) - 1)), (by first | rfl | (simp; done) | (simp [*]; done)), (by first | rfl | (simp; done) | (simp [*]; done)), H', ⟨Nat.le_refl _⟩, ⟨by (with_reducible repeat (first | apply Kd.R_alloc | apply Kd.R_drewN | apply Kd.R_drew)); exact HO0.out⟩, ⟨by repeat (first | (with_reducible first | exact HK.out | apply Kept.alloc | apply Kept.drewN | apply Kept.drew) | exact HK.out)⟩, ⟨by repeat (first | (with_reducible first | exact HB.out | apply below_alloc | apply pw_below_drewN | apply below_drew1) | exact HB.out)⟩⟩
 case round =>
  clear H'
  try clear p2
  obtain ⟨x0_1, x2_1, x3_1, rfl, rfl, HA, HK1, HO_0, HK, HB⟩ := hrel
  have hl0_1 := (Kd.R_reads' HO_0.out).1
  rw [hl0_1] at HO_0
  (try simp only [hl0_1])
  cases gk with
  | zero => exact absurd HA.out (by simp [api_Effect.l0])
  | succ k1 =>
   have H := HA.out
   clear HA
   simp only [api_Effect.l0] at H
   by_cases c3 : x2_1 < x3_1
   ·rw [if_pos c3] at H
    have c3b0 : decide (x2_1 < x3_1) = true := decide_eq_true c3
    clear c3
    by_cases c4 : 0 ≤ x3_1
    ·rw [if_pos c4] at H
     have c4b0 : decide (0 ≤ x3_1) = true := decide_eq_true c4
     clear c4
     by_cases c5 : x3_1 < (x0_1.length : Int)
     ·rw [if_pos c5] at H
      have c5b0 : decide (x3_1 < (x0_1.length : Int)) = true := decide_eq_true c5
      clear c5
      by_cases c6 : 0 ≤ x2_1
      ·rw [if_pos c6] at H
       have c6b0 : decide (0 ≤ x2_1) = true := decide_eq_true c6
       clear c6
       by_cases c7 : x2_1 < (x0_1.length : Int)
       ·rw [if_pos c7] at H
        have c7b0 : decide (x2_1 < (x0_1.length : Int)) = true := decide_eq_true c7
        clear c7
        obtain ⟨y109, hy109⟩ : ∃ y_ : List (S70), y_ = (x0_1.set (x2_1 : Int).toNat (⟨(⟨(rd_T70 x0_1 x3_1).f0.f0, (rd_T70 x0_1 x3_1).f0.f1, (rd_T70 x0_1 x3_1).f0.f2⟩ : S38), (rd_T70 x0_1 x3_1).f1⟩ : S70)) := ⟨_, rfl⟩
        replace H : (api_Effect.l0 k1 (y109.set (x3_1 : Int).toNat (⟨(⟨(rd_T70 x0_1 x2_1).f0.f0, (rd_T70 x0_1 x2_1).f0.f1, (rd_T70 x0_1 x2_1).f0.f2⟩ : S38), (rd_T70 x0_1 x2_1).f1⟩ : S70)) (wrap64 (x2_1 + 1)) (wrap64 (x3_1 - 1))) = some r := by first | (rw [hy109]; with_reducible exact H) | (have H2_ := (Option.bind_some _ _).symm.trans H; rw [hy109]; with_reducible exact H2_) | (have H2_ := (Option.bind_some _ _).symm.trans H; with_reducible exact H2_) | with_reducible exact H | (rw [hy109]; exact H) | exact H
        have Ny109 := Aside0.mk hy109
        clear hy109
        obtain ⟨y110, hy110⟩ : ∃ y_ : List (S70), y_ = (y109.set (x3_1 : Int).toNat (⟨(⟨(rd_T70 x0_1 x2_1).f0.f0, (rd_T70 x0_1 x2_1).f0.f1, (rd_T70 x0_1 x2_1).f0.f2⟩ : S38), (rd_T70 x0_1 x2_1).f1⟩ : S70)) := ⟨_, rfl⟩
        replace H : (api_Effect.l0 k1 y110 (wrap64 (x2_1 + 1)) (wrap64 (x3_1 - 1))) = some r := by first | (rw [hy110]; with_reducible exact H) | (have H2_ := (Option.bind_some _ _).symm.trans H; rw [hy110]; with_reducible exact H2_) | (have H2_ := (Option.bind_some _ _).symm.trans H; with_reducible exact H2_) | with_reducible exact H | (rw [hy110]; exact H) | exact H
        have Ny110 := Aside0.mk hy110
        clear hy110
        have H' := Aside0.mk H
        clear H
        try go_wp2
        have n0_ := Aside0.mk (Kd.R_drew HO_0.out)
        have n1_ := Aside0.mk (Kept.drew HK.out)
        have n2_ := Aside0.mk (below_drew1 HB.out)
        clear HO_0
        clear HK
        clear HB
        have HO_0 := n0_
        have HK := n1_
        have HB := n2_
        clear n0_ n1_ n2_
        have p107 : 0 ≤ (x3_1 : Int) := of_decide_eq_true (by first | (with_reducible assumption) | assumption)
        have q107 : x3_1 < (x0_1.length : Int) := of_decide_eq_true (by first | (with_reducible assumption) | assumption)
        obtain ⟨ad107, e107, hx107_0, hx107_1, hx107_2, hx107_3⟩ := at_T70 (Kd.R_reads' HO_0.out).2.2 x3_1 p107 q107
        cases e107
        replace p107 := eq_true p107
        replace q107 := eq_true q107
        have p108 : 0 ≤ (x2_1 : Int) := of_decide_eq_true (by first | (with_reducible assumption) | assumption)
        have q108 : x2_1 < (x0_1.length : Int) := of_decide_eq_true (by first | (with_reducible assumption) | assumption)
        obtain ⟨ad108, e108, hx108_0, hx108_1, hx108_2, hx108_3⟩ := at_T70 (Kd.R_reads' HO_0.out).2.2 x2_1 p108 q108
        obtain rfl : ad107 = ad108 := (by injection e108)
        replace p108 := eq_true p108
        replace q108 := eq_true q108
        have p8 : 0 ≤ (x2_1 : Int) := of_decide_eq_true (by first | (with_reducible assumption) | assumption)
        have q8 : (x2_1 : Int) < ((x0_1.length : Int) : Int) := of_decide_eq_true (by first | (with_reducible assumption) | assumption)
        obtain ⟨go8, co8, eo8, gb8, gl8, cl8, HG8⟩ := Kd.R_form HO_0.out (by omega)
        (first | cases eo8 | (injection eo8 with ea_ en_ ec_; (first | subst ea_ | (injection ea_ with ea_; subst ea_)); subst ec_; clear en_))
        have GB8 := Aside0.mk gb8
        have GG8 := Aside0.mk HG8
        clear gb8 gl8 HG8
        have HMgo8 := Aside0.mk (show (P0_ go8 ∨ w.heap.size ≤ go8) from (HO_0.out.1 _ rfl))
        (first | simp only [add_plain] at hx107_0 | skip)
        (first | simp only [add_plain] at hx107_1 | skip)
        (first | simp only [add_plain] at hx107_2 | skip)
        (first | simp only [add_plain] at hx107_3 | skip)
        (first | simp only [add_plain] at hx108_0 | skip)
        (first | simp only [add_plain] at hx108_1 | skip)
        (first | simp only [add_plain] at hx108_2 | skip)
        (first | simp only [add_plain] at hx108_3 | skip)
        obtain ⟨ce8, hcl8, hM8, hcc8, hfr8⟩ := Kd.R_elem HO_0.out z70 (x2_1 : Int) p8 q8
        obtain rfl := k70_openM hM8
        have hx8_0 : World.cell? _ ⟨go8, (x2_1 : Int).toNat * 4, none⟩ = some (.int .i64 ((rd_T70 x0_1 x2_1).f0.f0)) := hcc8 0 _ rfl
        have hx8_1 : World.cell? _ ⟨go8, (x2_1 : Int).toNat * 4 + 1, none⟩ = some (.bool ((rd_T70 x0_1 x2_1).f0.f1)) := hcc8 1 _ rfl
        have hx8_2 : World.cell? _ ⟨go8, (x2_1 : Int).toNat * 4 + 2, none⟩ = some (.int .i64 ((rd_T70 x0_1 x2_1).f0.f2)) := hcc8 2 _ rfl
        have hx8_3 : World.cell? _ ⟨go8, (x2_1 : Int).toNat * 4 + 3, none⟩ = some (.bool ((rd_T70 x0_1 x2_1).f1)) := hcc8 3 _ rfl
        have hf8_0 : World.frozen? _ ⟨go8, (x2_1 : Int).toNat * 4, none⟩ = false := hfr8 0
        have hf8_1 : World.frozen? _ ⟨go8, (x2_1 : Int).toNat * 4 + 1, none⟩ = false := hfr8 1
        have hf8_2 : World.frozen? _ ⟨go8, (x2_1 : Int).toNat * 4 + 2, none⟩ = false := hfr8 2
        have hf8_3 : World.frozen? _ ⟨go8, (x2_1 : Int).toNat * 4 + 3, none⟩ = false := hfr8 3
        clear hcl8 hcc8 hfr8 hM8
        replace p8 := eq_true p8
        replace q8 := eq_true q8
        obtain ⟨ce11, hcl11, hM11, hcc11, hfr11⟩ := Kd.R_elem HO_0.out z70 (x2_1 : Int) (of_decide_eq_true (by first | (with_reducible assumption) | assumption)) (by have h_ : (x2_1 : Int) < ((x0_1.length : Int) : Int) := of_decide_eq_true (by first | (with_reducible assumption) | assumption); first | exact h_ | (have e_ := (Kd.R_reads' HO_0.out).1; omega) | simpa using h_)
        obtain rfl := k70_openM hM11
        have HP11 := (Kd.R_seg HO_0.out (x2_1 : Int) (of_decide_eq_true (by first | (with_reducible assumption) | assumption)) (by have h_ : (x2_1 : Int) < ((x0_1.length : Int) : Int) := of_decide_eq_true (by first | (with_reducible assumption) | assumption); first | exact h_ | (have e_ := (Kd.R_reads' HO_0.out).1; omega) | simpa using h_) (seg := [.int .i64 ((rd_T70 x0_1 x3_1).f0.f0), .bool ((rd_T70 x0_1 x3_1).f0.f1), .int .i64 ((rd_T70 x0_1 x3_1).f0.f2), .bool ((rd_T70 x0_1 x3_1).f1)]) (j := 0) hcl11 hcc11 (show 4 ≤ 4 from by decide) (x' := (⟨(⟨(rd_T70 x0_1 x3_1).f0.f0, (rd_T70 x0_1 x3_1).f0.f1, (rd_T70 x0_1 x3_1).f0.f2⟩ : S38), (rd_T70 x0_1 x3_1).f1⟩ : S70)) (k70_mkM _ _ _ (⟨(⟨(rd_T70 x0_1 x3_1).f0.f0, (rd_T70 x0_1 x3_1).f0.f1, (rd_T70 x0_1 x3_1).f0.f2⟩ : S38), (rd_T70 x0_1 x3_1).f1⟩ : S70) ) (fun _ hk => hk)).1
        rw [← Ny109.out] at HP11
        have HQ11 := Aside0.mk HP11
        clear hcl11 hcc11 hfr11 hM11 HP11
        have p9 : 0 ≤ (x3_1 : Int) := of_decide_eq_true (by first | (with_reducible assumption) | assumption)
        have q9 : (x3_1 : Int) < ((x0_1.length : Int) : Int) := of_decide_eq_true (by first | (with_reducible assumption) | assumption)
        obtain ⟨ce9, hcl9, hM9, hcc9, hfr9⟩ := Kd.R_elem HQ11.out z70 (x3_1 : Int) p9 q9
        obtain rfl := k70_openM hM9
        have hne_ : ¬ ((x2_1 : Int).toNat * 4 = (x3_1 : Int).toNat * 4) := by have h2_ := of_eq_true p8; have h1_ : x2_1 < x3_1 := of_decide_eq_true (by assumption); omega
        have hne2_ : ¬ ((x3_1 : Int).toNat * 4 = (x2_1 : Int).toNat * 4) := fun e_ => hne_ e_.symm
        obtain ⟨ce9w, hcl9w, hM9w, hcc9w, hfr9w⟩ := Kd.R_elem HO_0.out z70 (x3_1 : Int) p9 q9
        have hg9_0 : World.frozen? _ ⟨go8, (x3_1 : Int).toNat * 4, none⟩ = false := hfr9w 0
        have hg9_1 : World.frozen? _ ⟨go8, (x3_1 : Int).toNat * 4 + 1, none⟩ = false := hfr9w 1
        have hg9_2 : World.frozen? _ ⟨go8, (x3_1 : Int).toNat * 4 + 2, none⟩ = false := hfr9w 2
        have hg9_3 : World.frozen? _ ⟨go8, (x3_1 : Int).toNat * 4 + 3, none⟩ = false := hfr9w 3
        clear hcl9w hM9w hcc9w hfr9w
        have hx9_0 : World.cell? _ ⟨go8, (x3_1 : Int).toNat * 4, none⟩ = some (.int .i64 ((rd_T70 y109 x3_1).f0.f0)) := hcc9 0 _ rfl
        have hx9_1 : World.cell? _ ⟨go8, (x3_1 : Int).toNat * 4 + 1, none⟩ = some (.bool ((rd_T70 y109 x3_1).f0.f1)) := hcc9 1 _ rfl
        have hx9_2 : World.cell? _ ⟨go8, (x3_1 : Int).toNat * 4 + 2, none⟩ = some (.int .i64 ((rd_T70 y109 x3_1).f0.f2)) := hcc9 2 _ rfl
        have hx9_3 : World.cell? _ ⟨go8, (x3_1 : Int).toNat * 4 + 3, none⟩ = some (.bool ((rd_T70 y109 x3_1).f1)) := hcc9 3 _ rfl
        have hf9_0 : World.frozen? _ ⟨go8, (x3_1 : Int).toNat * 4, none⟩ = false := hfr9 0
        have hf9_1 : World.frozen? _ ⟨go8, (x3_1 : Int).toNat * 4 + 1, none⟩ = false := hfr9 1
        have hf9_2 : World.frozen? _ ⟨go8, (x3_1 : Int).toNat * 4 + 2, none⟩ = false := hfr9 2
        have hf9_3 : World.frozen? _ ⟨go8, (x3_1 : Int).toNat * 4 + 3, none⟩ = false := hfr9 3
        clear hcl9 hcc9 hfr9 hM9
        replace p9 := eq_true p9
        replace q9 := eq_true q9
        obtain ⟨ce12, hcl12, hM12, hcc12, hfr12⟩ := Kd.R_elem HQ11.out z70 (x3_1 : Int) (of_decide_eq_true (by first | (with_reducible assumption) | assumption)) (by have h_ : (x3_1 : Int) < ((x0_1.length : Int) : Int) := of_decide_eq_true (by first | (with_reducible assumption) | assumption); first | exact h_ | (have e_ := (Kd.R_reads' HO_0.out).1; omega) | simpa using h_)
        obtain rfl := k70_openM hM12
        have HP12 := (Kd.R_seg HQ11.out (x3_1 : Int) (of_decide_eq_true (by first | (with_reducible assumption) | assumption)) (by have h_ : (x3_1 : Int) < ((x0_1.length : Int) : Int) := of_decide_eq_true (by first | (with_reducible assumption) | assumption); first | exact h_ | (have e_ := (Kd.R_reads' HO_0.out).1; omega) | simpa using h_) (seg := [.int .i64 ((rd_T70 x0_1 x2_1).f0.f0), .bool ((rd_T70 x0_1 x2_1).f0.f1), .int .i64 ((rd_T70 x0_1 x2_1).f0.f2), .bool ((rd_T70 x0_1 x2_1).f1)]) (j := 0) hcl12 hcc12 (show 4 ≤ 4 from by decide) (x' := (⟨(⟨(rd_T70 x0_1 x2_1).f0.f0, (rd_T70 x0_1 x2_1).f0.f1, (rd_T70 x0_1 x2_1).f0.f2⟩ : S38), (rd_T70 x0_1 x2_1).f1⟩ : S70)) (k70_mkM _ _ _ (⟨(⟨(rd_T70 x0_1 x2_1).f0.f0, (rd_T70 x0_1 x2_1).f0.f1, (rd_T70 x0_1 x2_1).f0.f2⟩ : S38), (rd_T70 x0_1 x2_1).f1⟩ : S70) ) (fun _ hk => hk)).1
        rw [← Ny110.out] at HP12
        have HQ12 := Aside0.mk HP12
        clear hcl12 hcc12 hfr12 hM12 HP12
        refine start_ (n := 16) (S := fun w' => w'.cell? ⟨go8, ((x3_1).toNat * 4), none⟩ = some (.int .i64 ((rd_T70 x0_1 x3_1).f0.f0)) ∧ w'.cell? ⟨go8, ((x3_1).toNat * 4) + 1, none⟩ = some (.bool ((rd_T70 x0_1 x3_1).f0.f1)) ∧ w'.cell? ⟨go8, ((x3_1).toNat * 4) + 2, none⟩ = some (.int .i64 ((rd_T70 x0_1 x3_1).f0.f2)) ∧ w'.cell? ⟨go8, ((x3_1).toNat * 4) + 3, none⟩ = some (.bool ((rd_T70 x0_1 x3_1).f1)) ∧ w'.cell? ⟨go8, ((x2_1).toNat * 4), none⟩ = some (.int .i64 ((rd_T70 x0_1 x2_1).f0.f0)) ∧ w'.cell? ⟨go8, ((x2_1).toNat * 4) + 1, none⟩ = some (.bool ((rd_T70 x0_1 x2_1).f0.f1)) ∧ w'.cell? ⟨go8, ((x2_1).toNat * 4) + 2, none⟩ = some (.int .i64 ((rd_T70 x0_1 x2_1).f0.f2)) ∧ w'.cell? ⟨go8, ((x2_1).toNat * 4) + 3, none⟩ = some (.bool ((rd_T70 x0_1 x2_1).f1))) (ds := [13, 15]) #[false, false, false, false, false, false, false, false, false, false, false, false, false, false, false, false] (by kernel_rfl) rfl rfl ⟨hx107_0, hx107_1, hx107_2, hx107_3, hx108_0, hx108_1, hx108_2, hx108_3⟩ (fun hHeld => ?_); refine with_tabW api_Effect.tab3 api_Effect.bits3 (fun HT_ HW_ => ?_)
        generalize wr.drew = w10 at hg9_0 hg9_1 hg9_2 hg9_3 HO_0 HK HB GG8 HQ11 HQ12 hf8_0 hf8_1 hf8_2 hf8_3 hf9_0 hf9_1 hf9_2 hf9_3 hx107_0 hx107_1 hx107_2 hx107_3 hx108_0 hx108_1 hx108_2 hx108_3 hx8_0 hx8_1 hx8_2 hx8_3 hx9_0 hx9_1 hx9_2 hx9_3 hHeld ⊢
        refine pure_ (i := 0) (N := some 14) (v := ?_) (a' := ?_) #[true, false, false, false, false, false, false, false, false, false, false, false, false, false, false, false] rfl rfl (any_of HT_.out (by kernel_rfl)) (fun _ _ _ h => h) (Or.inl ⟨by rfl, ?_⟩) ?_ ?_
        rotate_left
        ·intro w'
         go_simp
         with_reducible rfl
        rotate_left
        ·simp only [Act.put, List.setIfInBounds_toArray, List.set_cons_zero, List.set_cons_succ, i64_w, i32_w]
         rfl
        refine pure_ (i := 1) (N := some 15) (v := ?_) (a' := ?_) #[true, true, false, false, false, false, false, false, false, false, false, false, false, false, false, false] rfl rfl (any_of HT_.out (by kernel_rfl)) (fun _ _ _ h => h) (Or.inl ⟨by rfl, ?_⟩) ?_ ?_
        rotate_left
        ·intro w'
         go_simp
         with_reducible rfl
        rotate_left
        ·simp only [Act.put, List.setIfInBounds_toArray, List.set_cons_zero, List.set_cons_succ, i64_w, i32_w]
         rfl
        refine pure_ (i := 2) (N := some 16) (v := ?_) (a' := ?_) #[true, true, true, false, false, false, false, false, false, false, false, false, false, false, false, false] rfl rfl (any_of HT_.out (by kernel_rfl)) (fun _ _ _ h => h) (Or.inl ⟨by rfl, ?_⟩) ?_ ?_
        rotate_left
        ·intro w'
         go_simp
         with_reducible rfl
        rotate_left
        ·simp only [Act.put, List.setIfInBounds_toArray, List.set_cons_zero, List.set_cons_succ, i64_w, i32_w]
         rfl
        refine pure_ (i := 3) (N := some 17) (v := ?_) (a' := ?_) #[true, true, true, true, false, false, false, false, false, false, false, false, false, false, false, false] rfl rfl (any_of HT_.out (by kernel_rfl)) (fun _ _ _ h => h) (Or.inl ⟨by rfl, ?_⟩) ?_ ?_
        rotate_left
        ·intro w'
         go_simp
         with_reducible rfl
        rotate_left
        ·simp only [Act.put, List.setIfInBounds_toArray, List.set_cons_zero, List.set_cons_succ, i64_w, i32_w]
         rfl
        refine pure_ (i := 4) (N := some 18) (v := ?_) (a' := ?_) #[true, true, true, true, true, false, false, false, false, false, false, false, false, false, false, false] rfl rfl (any_of HT_.out (by kernel_rfl)) (fun _ _ _ h => h) (Or.inl ⟨by rfl, ?_⟩) ?_ ?_
        rotate_left
        ·intro w'
         go_simp
         with_reducible rfl
        rotate_left
        ·simp only [Act.put, List.setIfInBounds_toArray, List.set_cons_zero, List.set_cons_succ, i64_w, i32_w]
         rfl
        refine pure_ (i := 5) (N := some 19) (v := ?_) (a' := ?_) #[true, true, true, true, true, true, false, false, false, false, false, false, false, false, false, false] rfl rfl (any_of HT_.out (by kernel_rfl)) (fun _ _ _ h => h) (Or.inl ⟨by rfl, ?_⟩) ?_ ?_
        rotate_left
        ·intro w'
         go_simp
         with_reducible rfl
        rotate_left
        ·simp only [Act.put, List.setIfInBounds_toArray, List.set_cons_zero, List.set_cons_succ, i64_w, i32_w]
         rfl
        refine pure_ (i := 6) (N := some 20) (v := ?_) (a' := ?_) #[true, true, true, true, true, true, true, false, false, false, false, false, false, false, false, false] rfl rfl (any_of HT_.out (by kernel_rfl)) (fun _ _ _ h => h) (Or.inl ⟨by rfl, ?_⟩) ?_ ?_
        rotate_left
        ·intro w'
         go_simp
         with_reducible rfl
        rotate_left
        ·simp only [Act.put, List.setIfInBounds_toArray, List.set_cons_zero, List.set_cons_succ, i64_w, i32_w]
         rfl
        refine pure_ (i := 8) (N := some 22) (v := ?_) (a' := ?_) #[true, true, true, true, true, true, true, false, true, false, false, false, false, false, false, false] rfl rfl (any_of HT_.out (by kernel_rfl)) (fun _ _ _ h => h) (Or.inl ⟨by rfl, ?_⟩) ?_ ?_
        rotate_left
        ·intro w'
         go_simp
         with_reducible rfl
        rotate_left
        ·simp only [Act.put, List.setIfInBounds_toArray, List.set_cons_zero, List.set_cons_succ, i64_w, i32_w]
         rfl
        refine pure_ (i := 9) (N := some 23) (v := ?_) (a' := ?_) #[true, true, true, true, true, true, true, false, true, true, false, false, false, false, false, false] rfl rfl (any_of HT_.out (by kernel_rfl)) (fun _ _ _ h => h) (Or.inl ⟨by rfl, ?_⟩) ?_ ?_
        rotate_left
        ·intro w'
         go_simp
         with_reducible rfl
        rotate_left
        ·simp only [Act.put, List.setIfInBounds_toArray, List.set_cons_zero, List.set_cons_succ, i64_w, i32_w]
         rfl
        refine pure_ (i := 10) (N := some 24) (v := ?_) (a' := ?_) #[true, true, true, true, true, true, true, false, true, true, true, false, false, false, false, false] rfl rfl (any_of HT_.out (by kernel_rfl)) (fun _ _ _ h => h) (Or.inl ⟨by rfl, ?_⟩) ?_ ?_
        rotate_left
        ·intro w'
         go_simp
         with_reducible rfl
        rotate_left
        ·simp only [Act.put, List.setIfInBounds_toArray, List.set_cons_zero, List.set_cons_succ, i64_w, i32_w]
         rfl
        refine take_ (i := 7) (N := some 21) (v := ?_) (a' := ?_) #[true, true, true, true, true, true, true, true, true, true, true, false, false, false, false, false] rfl rfl (take_ofW HT_.out HW_.out (by kernel_rfl)) (fun _ _ _ h => h) (Or.inl ⟨by rfl, ?_⟩) hHeld ?_ ?_
        rotate_left
        ·rintro w' ⟨s0, s1, s2, s3, s4, s5, s6, s7⟩
         go_simp
         with_reducible rfl
        rotate_left
        ·simp only [Act.put, List.setIfInBounds_toArray, List.set_cons_zero, List.set_cons_succ, i64_w, i32_w]
         rfl
        refine take_ (i := 11) (N := some 25) (v := ?_) (a' := ?_) #[true, true, true, true, true, true, true, true, true, true, true, true, false, false, false, false] rfl rfl (take_ofW HT_.out HW_.out (by kernel_rfl)) (fun _ _ _ h => h) (Or.inl ⟨by rfl, ?_⟩) hHeld ?_ ?_
        rotate_left
        ·rintro w' ⟨s0, s1, s2, s3, s4, s5, s6, s7⟩
         go_simp
         with_reducible rfl
        rotate_left
        ·simp only [Act.put, List.setIfInBounds_toArray, List.set_cons_zero, List.set_cons_succ, i64_w, i32_w]
         rfl
        refine pure_ (i := 12) (N := some 26) (v := ?_) (a' := ?_) #[true, true, true, true, true, true, true, true, true, true, true, true, true, false, false, false] rfl rfl (any_of HT_.out (by kernel_rfl)) (fun _ _ _ h => h) (Or.inl ⟨by rfl, ?_⟩) ?_ ?_
        rotate_left
        ·intro w'
         go_simp
         with_reducible rfl
        rotate_left
        ·simp only [Act.put, List.setIfInBounds_toArray, List.set_cons_zero, List.set_cons_succ, i64_w, i32_w]
         rfl
        refine last_ (i := 13) (N := none) #[true, true, true, true, true, true, true, true, true, true, true, true, true, true, false, false] rfl rfl (one_of HT_.out (by kernel_rfl)) (by decide) (fun K hK => ?_)
        refine skip_ (w1 := ?_) (by rfl) rfl ?_ ?_
        rotate_left
        ·go_simp
         rfl
        refine hK.out _ _ ?_
        clear hK K
        refine pure_ (i := 14) (N := some 27) (v := ?_) (a' := ?_) #[true, true, true, true, true, true, true, true, true, true, true, true, true, true, true, false] rfl rfl (any_of HT_.out (by kernel_rfl)) (fun _ _ _ h => h) (Or.inl ⟨by rfl, ?_⟩) ?_ ?_
        rotate_left
        ·intro w'
         go_simp
         with_reducible rfl
        rotate_left
        ·simp only [Act.put, List.setIfInBounds_toArray, List.set_cons_zero, List.set_cons_succ, i64_w, i32_w]
         rfl
        refine last_ (i := 15) (N := none) #[true, true, true, true, true, true, true, true, true, true, true, true, true, true, true, true] rfl rfl (one_of HT_.out (by kernel_rfl)) (by decide) (fun K hK => ?_)
        refine skip_ (w1 := ?_) (by rfl) rfl ?_ ?_
        rotate_left
        ·go_simp
         rfl
        refine hK.out _ _ ?_
        clear hK K
        refine done_ (done_of HT_.out (by kernel_rfl)) ?_
        try go_wp2
        (try simp only [← hl0_1])
        go_roundg k1
        case measure => have := HK1.out; omega
        case rel => exact ⟨(y110), (wrap64 (x2_1 + 1)), (wrap64 (x3_1 - 1)), (by first | rfl | (simp; done) | (simp [*]; done)), (by first | rfl | (simp; done) | (simp [*]; done)), H', ⟨by have := HK1.out; omega⟩, ⟨by (try simp only [hl0_1]); (with_reducible repeat (first | apply Kd.R_alloc | apply Kd.R_drewN | apply Kd.R_drew)); exact HQ12.out⟩, ⟨by repeat (first | (with_reducible first | exact HK.out | apply Kept.alloc | apply Kept.drewN | apply Kept.drew | refine Kept.setCell ?_ HMgo8.out _ | refine Kept.setCell ?_ HMgo8.out _ | refine Kept.setCell ?_ HMgo8.out _ | refine Kept.setCell ?_ HMgo8.out _ | refine Kept.setCell ?_ HMgo8.out _ | refine Kept.setCell ?_ HMgo8.out _ | refine Kept.setCell ?_ HMgo8.out _ | refine Kept.setCell ?_ HMgo8.out _) | exact HK.out)⟩, ⟨by repeat (first | (with_reducible first | exact HB.out | apply below_alloc | apply pw_below_drewN | apply below_drew1 | refine below_set ?_ GB8.out | refine below_set ?_ GB8.out | refine below_set ?_ GB8.out | refine below_set ?_ GB8.out | refine below_set ?_ GB8.out | refine below_set ?_ GB8.out | refine below_set ?_ GB8.out | refine below_set ?_ GB8.out) | exact HB.out)⟩⟩
       ·rw [if_neg c7] at H
        exact absurd H (by simp)
      ·rw [if_neg c6] at H
       exact absurd H (by simp)
     ·rw [if_neg c5] at H
      exact absurd H (by simp)
    ·rw [if_neg c4] at H
     exact absurd H (by simp)
   ·rw [if_neg c3] at H
    have c3b0 : decide (x2_1 < x3_1) = false := decide_eq_false c3
    clear c3
    obtain rfl := Option.some.inj H
    go_wp2
    first | go_end0 | ((try simp only [Exit.inBlock, Exit.then]); refine bodyPost_ret (results_none rfl _ _ _) rfl ?_)
    exact ⟨by first | rfl | (simp [errW_none, errW_some] <;> rfl) | (simp [*, errW_none, errW_some] <;> rfl), (by first | exact (by (with_reducible repeat (first | apply Kd.R_alloc | apply Kd.R_drewN | apply Kd.R_drew)); exact HO_0.out) | (simp only [hl0_1]; exact (by (with_reducible repeat (first | apply Kd.R_alloc | apply Kd.R_drewN | apply Kd.R_drew)); exact HO_0.out))), by repeat (first | (with_reducible first | exact HB.out | apply below_alloc | apply pw_below_drewN | apply below_drew1) | exact HB.out), by repeat (first | (with_reducible first | exact HK.out | apply Kept.alloc | apply Kept.drewN | apply Kept.drew) | exact HK.out)⟩
end Go.Proofs.YtokekdhmhfoliaaGreat.F
end

section
namespace Go.Proofs.YtokekdhmhfoliaaGreat.F
open Go.RowKit Go.Proofs.YtokekdhmhfoliaaGreatW.PrintWords Go.Proofs.YtokekdhmhfoliaaGreatW.PrintLast Go.Proofs.YtokekdhmhfoliaaGreatW.PrintMore
attribute [local go_sem] max2_int min2_int max_two min_two max_three min_three max_four min_four
set_option linter.unusedVariables false
set_option linter.unusedSimpArgs false
def trace_Last.f (l0 : List S70) : Option (List S70) := if l0.length ≤ 1000000 then api_Effect.f (l0.length + 1) (lastsOf l0) else none
attribute [local go_sem] Oper.semAt_some
def flatEffs (l : List S70) : List Value := l.flatMap effCells
theorem eff_M (w : World) (base : Nat) (ok : Nat → Prop) (x : S70) : (k70).M w base ok x (effCells x) :=
 ⟨[.int .i64 x.f0.f0, .bool x.f0.f1, .int .i64 x.f0.f2], [.bool x.f1], rfl, ⟨[.int .i64 x.f0.f0], [.bool x.f0.f1, .int .i64 x.f0.f2], rfl, rfl, ⟨[.bool x.f0.f1], [.int .i64 x.f0.f2], rfl, rfl, rfl⟩⟩, rfl⟩
theorem effs_reps (w : World) (base : Nat) (ok : Nat → Prop) : ∀ (l l' : List S70) (cs : List Value), Reps ((k70).M w base ok) 4 l' cs → Reps ((k70).M w base ok) 4 (l' ++ l) (cs ++ flatEffs l)
 | [], l', cs, h => by simpa [flatEffs] using h
 | x :: l, l', cs, h => by
  have h1 := effs_reps w base ok l (l' ++ [x]) (cs ++ effCells x) (h.snoc (eff_M w base ok x) rfl)
  rw [List.append_assoc, List.append_assoc] at h1
  exact h1
theorem effs_R (w : World) (base : Nat) (v : Value) (l : List S70) (h : w.ownsRow base 70 4 v l.length (flatEffs l)) : Kd.R k70 70 w base (fun k => some k = v.ownBlock) v l :=
 ⟨fun k hk => hk.symm, flatEffs l, h, by have := effs_reps w base (fun k => some k = v.ownBlock ∧ some k ≠ v.ownBlock) l [] [] (Reps.none _ _); simp only [List.nil_append] at this; exact this⟩
theorem effs_new (W : World) (x : S70) : ∀ (j : Nat) (u : Value), (effCells x)[j]? = some u → (W.alloc (.cells #[.int .i64 x.f0.f0, .bool x.f0.f1, .int .i64 x.f0.f2, .bool x.f1] 70)).cell? (Addr.add ⟨W.heap.size, 0, none⟩ j) = some u := by
 intro j u h
 have e : Addr.add ⟨W.heap.size, 0, none⟩ j = ⟨W.heap.size, j, none⟩ := add_plain _ _
 rw [e]
 show (match (W.alloc _).heap[W.heap.size]? with | some (.cells c _ _) => c[j]? | _ => none) = _
 rw [World.alloc_heap_new]
 show (List.toArray (effCells x))[j]? = some u
 rw [List.getElem?_toArray]
 exact h
theorem effs_one (x : S70) : ∀ u ∈ effCells x, u.oneCell' = true := by
 intro u hu
 simp only [effCells, List.mem_cons, List.not_mem_nil, or_false] at hu
 rcases hu with rfl | rfl | rfl | rfl <;> rfl
theorem lastsRun_len : ∀ (l : List S70) (m : List (S38 × Int)), (lastsRun l m).length ≤ l.length
 | [], m => Nat.le_refl _
 | x :: l, m => by
  unfold lastsRun
  split
  ·simp only [List.length_cons]; have := lastsRun_len l (mapPut m x.f0 (wrap64 (((mapLook m x.f0).getD 0) + 1))); omega
  ·have := lastsRun_len l (mapPut m x.f0 (wrap64 (((mapLook m x.f0).getD 0) + 1))); simp only [List.length_cons]; omega
theorem cells_own {β : Type} (B : Nat) (f : β → Obj) (hf : ∀ s, (f s).isCells = true) : Own (fun s W => W.heap[B]? = some (f s)) := by
 rintro s X Y row h hg hrow
 have hlt : B < X.heap.size := (Array.getElem?_eq_some_iff.1 h).1
 refine (hg.block B hlt fun e => ?_).trans h
 obtain ⟨o, ho, hc⟩ := hrow B e.symm
 rw [h] at ho; cases ho; rw [hf] at hc; cases hc
theorem flat_snoc (l : List S70) (x : S70) : flatEffs (l ++ [x]) = flatEffs l ++ effCells x := by unfold flatEffs; rw [List.flatMap_append]; simp
theorem boxed_kept {W W' : World} {B : Nat} {t : TypeId} {v u : Value} (h : Boxed W B t v) (hk : Kept W W' (fun k => some k = u.ownBlock)) (hne : some B ≠ u.ownBlock) : Boxed W' B t v := (hk.2 B h.lt hne).trans h
set_option maxHeartbeats 8000000 in
set_option maxRecDepth 100000 in
theorem trace_Last.calls (A0 : Option Addr) (c0 : Nat) (l0 : List S70) (r : List S70) (w : World) (hr0 : Kd.C k70 w A0 l0.length l0) (hc0 : l0.length ≤ c0) (h : trace_Last.f l0 = some r) :
  Calls Tryz.prog 33 #[.slice A0 l0.length c0] w fun e w' => ∃ v0_ : Value, e = .returned (v0_) ∧ Kd.R k70 70 w' w.heap.size (fun _ => True) v0_ r ∧ Below w.heap.size w w' := by
 unfold trace_Last.f at h
 have hcond : l0.length ≤ 1000000 := by
  by_cases hc : l0.length ≤ 1000000
  ·exact hc
  ·rw [if_neg hc] at h; cases h
 rw [if_pos hcond] at h
 refine (callsIn_wide (n := 6)).1 ?_
 obtain ⟨i0, hi, hz0, hz1, hz2⟩ := info_parts info70
 refine callsIn_of_wp_marks Tryz.func33 rfl trivial ?_ rfl
 simp only [Tryz.ntmps33, List.size_toArray, List.length_cons, List.length_nil, Nat.reduceAdd, Nat.reduceSub, Array.replicate_succ, Array.replicate_zero, List.push_toArray, List.append_toArray, List.nil_append, List.cons_append]
 gi_wp2_with (refine ⟨trivial, ?_⟩; gi_at_call 68; refine (lasts_call _ _ _ rfl).mono ?_; rintro e w' ⟨rfl, rfl⟩)
 have bO := Boxed.new w 25 (.slice none 0 0)
 have bN := Boxed.new (w.alloc (.cells #[.slice none 0 0] 25)) 25 (.slice A0 l0.length c0)
 rw [World.size_alloc] at bN
 have hB0 : Below w.heap.size w ((w.alloc (.cells #[.slice none 0 0] 25)).alloc (.cells #[.slice A0 l0.length c0] 25)) := ((Below.refl _ w).alloc (Nat.le_refl _) _).alloc (by simp) _
 have hsz : ((w.alloc (.cells #[.slice none 0 0] 25)).alloc (.cells #[.slice A0 l0.length c0] 25)).heap.size = w.heap.size + 2 := by simp
 have bO1 := bO.alloc (.cells #[.slice A0 l0.length c0] 25)
 obtain ⟨W0, hW0⟩ : ∃ W0, (w.alloc (.cells #[.slice none 0 0] 25)).alloc (.cells #[.slice A0 l0.length c0] 25) = W0 := ⟨_, rfl⟩
 rw [hW0] at bN bO1 hB0 hsz ⊢
 clear hW0 bO
 have HC := Aside0.mk hr0
 have HH := Aside0.mk h
 have hmax : l0.length ≤ maxLen := by unfold maxLen; omega
 have hst := lasts_stops 5 (by omega) (w.heap.size + 1) w.heap.size A0 c0 l0 W0 bN (by omega) (fun W h => Kd.C_below HC.out (hB0.trans h)) hc0 hmax
 have HL := Aside0.mk hcond
 have hlast : (lastsOf l0).length ≤ l0.length := by unfold lastsOf; have := lastsRun_len l0.reverse []; rwa [List.length_reverse] at this
 clear hr0 h hmax
 refine wpIn_rangeFunc_ownH rfl (by omega) (gf := 105) (lb := #[.pointer (some ⟨w.heap.size + 1, 0, none⟩)]) rfl trivial (enters_of Tryz.func105 (by kernel_rfl) rfl)
  hst (fun h k => h.trans k) (fun W l o o' hl ho hc hw => ⟨belowK_b (w := W0) (by omega) W l o o' hl ho hc hw, walksK_b (w := W0) W l o o' hl ho hc hw, fun v hv => hv.kept (grownBy_putObj' W l o') (fun e => by cases e; unfold Boxed at hv; rw [hv] at ho; cases ho; cases hc)⟩) (Below.refl _ _) (fun _ => rfl)
  (fun pre W => (∃ v, Boxed W w.heap.size 25 v ∧ W.ownsRow w.heap.size 70 4 v pre.length (flatEffs pre) ∧ True) ∧ Below w.heap.size w W ∧ w.heap.size + 2 ≤ W.heap.size)
  (fun _ _ _ => False)
  (OwnFrom.and (Own.from (holdsRow_own w.heap.size w.heap.size 25 70 4 (fun pre => pre.length) flatEffs (fun _ _ => True)) _) (OwnFrom.and (ownFrom_below (Nat.le_refl _) (by omega)) (fun _ _ _ _ hs hg _ => Nat.le_trans hs hg.size)))
  (fun _ _ _ _ _ hs _ _ => hs)
  ⟨⟨_, bO1, World.ownsRow_nil _ _ _ _, trivial⟩, hB0, by omega⟩
  (fun x a' W => ∃ Bx, w.heap.size + 1 < Bx ∧ W.heap[Bx]? = some (.cells #[.int .i64 x.f0.f0, .bool x.f0.f1, .int .i64 x.f0.f2, .bool x.f1] 70 (0, 0)) ∧ a' = { tmps := #[.slice A0 l0.length c0, undef, .slice none 0 0, .pointer (some ⟨w.heap.size, 0, none⟩), .pointer (some ⟨Bx, 0, none⟩), .slice A0 l0.length c0, .func (.func 105) #[] #[.pointer (some ⟨w.heap.size + 1, 0, none⟩)], .agg #[.int .i64 x.f0.f0, .bool x.f0.f1, .int .i64 x.f0.f2, .bool x.f1], undef, undef, undef, undef, undef, undef, undef], defers := [] })
  (fun x a' _ X Y row hs hg hr => by obtain ⟨Bx, h1, h2, h3⟩ := hs; exact ⟨Bx, h1, cells_own Bx (fun (_ : Unit) => .cells #[.int .i64 x.f0.f0, .bool x.f0.f1, .int .i64 x.f0.f2, .bool x.f1] 70 (0, 0)) (fun _ => rfl) () X Y row h2 hg (fun r e => (hr r e).2), h3⟩)
  ?assign ?body ?done ?stop
 case assign =>
  rintro l pre x W K ⟨⟨v, hv, hrow, _⟩, hB, hS⟩ hK
  have hsW := hB.size
  unfold effArgs
  gi_wp2
  refine hK _ _ ((KeepsOthers.alloc _ _).from _) ⟨(Below.refl _ W).alloc hsW _, KeepsWalks.alloc _ _, fun v hv => hv.alloc _⟩ ⟨⟨v, hv.alloc _, hrow.alloc _, trivial⟩, hB.alloc hsW _, Nat.le_trans hS (by simp)⟩ ⟨W.heap.size, by omega, World.alloc_heap_new W _, rfl⟩
 case body =>
  rintro l pre x a' W hl ⟨rr, hrr⟩ ⟨⟨v, hv, hrow, _⟩, hB, hS⟩ ⟨Bx, hBx, hX, rfl⟩ hlt
  have hc := hv.cell
  have z0 : W.cell? ⟨Bx, 0, none⟩ = some (.int .i64 x.f0.f0) := by simp [World.cell?, hX, effCells]
  have z1 : W.cell? ⟨Bx, 1, none⟩ = some (.bool x.f0.f1) := by simp [World.cell?, hX, effCells]
  have z2 : W.cell? ⟨Bx, 2, none⟩ = some (.int .i64 x.f0.f2) := by simp [World.cell?, hX, effCells]
  have z3 : W.cell? ⟨Bx, 3, none⟩ = some (.bool x.f1) := by simp [World.cell?, hX, effCells]
  have HX := Aside0.mk hX
  clear hX
  gi_wp2_with (gi_at_builtin; refine wpListIn_append_own _ rfl _ _ 25 rfl w.heap.size 70 i0 _ 4 32 Tryz.underlying25 hi hz0 hz1 hz2 rfl (by decide) _ _ _ rfl (hrow.alloc _) ⟨W.heap.size, 0, none⟩ 1 1 (effCells x) rfl rfl (effs_new W x) (effs_one x) (by unfold maxLen; omega) (by omega) (by have := hB.size; simp; omega) ?_; intro v' w1 hown' hgrow _; obtain ⟨g', cap', rfl⟩ := ownsRow_succ hown'; obtain ⟨hv1, hv2, hr2, hk2, hb2⟩ := hv.appended (by decide) hrow hB.size (Nat.le_refl _) hown' hgrow; have HBN := Aside0.mk (fun (u : Value) (h : Boxed W (w.heap.size + 1) 25 u) => (((h.alloc _).kept hgrow (h.not_row (by decide) hrow)).other (B' := w.heap.size) (by omega) (Value.slice (some ⟨g', 0, none⟩) (pre.length + 1) cap'))); have hc1 := hv1.cell; have hf1 := hv1.frozen; have HS1 := Aside0.mk hv2; have HR1 := Aside0.mk hr2; have HK1 := Aside0.mk hk2; have HB1 := Aside0.mk hb2; clear hown' hgrow hv1 hv2 hr2 hk2 hb2)
  exact ⟨HK1.out.from _, ⟨HB1.out, ⟨HK1.out.size, fun k o hk ho => HK1.out.same k o hk (Obj.not_cells_of_walk ho)⟩, HBN.out⟩, ⟨_, HS1.out, by rw [flat_snoc, List.length_append]; exact HR1.out, trivial⟩, hB.trans HB1.out, Nat.le_trans hS HK1.out.size⟩
 case done =>
  rintro D ys W hD rfl ⟨⟨v, hv, hrow, _⟩, hB, hS⟩ hK
  have hc := hv.cell
  have HV := Aside0.mk hv
  have HKD := Aside0.mk hK
  have HBW := Aside0.mk hB
  have hR := effs_R W w.heap.size v (lastsOf l0) hrow
  have HR := Aside0.mk (callsIn_wide (n := 5) |>.2 (api_Effect.calls (l0.length + 1) (fun k => some k = v.ownBlock) v (lastsOf l0) r w W hB hR HH.out))
  have HNB := Aside0.mk (hv.not_row (by decide) hrow)
  have HND : Aside0 (some D ≠ v.ownBlock) := ⟨fun e => by
   have hb := (Kd.R_bound hR).1 D e.symm
   obtain ⟨_, _, _, q, _, cells, hq⟩ := hb
   rw [hK] at hq; cases hq⟩
  clear hR hrow hv hB hK
  gi_wp2
  refine ⟨trivial, ?_⟩
  refine HR.out.mono ?_
  rintro e W2 ⟨rfl, hr2, hb2, hk2⟩
  have HR2 := Aside0.mk hr2
  have HB2 := Aside0.mk hb2
  have hc2 := (boxed_kept HV.out hk2 HNB.out).cell
  have hK2 := (hk2.2 D (Array.getElem?_eq_some_iff.1 HKD.out).1 HND.out).trans HKD.out
  have HK2 := Aside0.mk hK2
  clear hr2 hb2 hk2 hK2
  gi_wp2
  refine ⟨by simp, .inl ⟨_, _, rfl, run_takeDeferred HK2.out, ?_⟩⟩
  refine ⟨_, results_tmp rfl _ _ _, v, rfl, Kd.R_mono (Kd.R_step (Kd.R_bound HR2.out) (fun k hk _ => World.putObj_heap_other (fun e => ?_))) (fun _ _ => trivial), HB2.out.trans (belowK_b (w := w) (Nat.le_refl _) W2 D _ _ (by omega) HK2.out rfl rfl)⟩
  obtain ⟨_, _, _, q, _, cells, hq⟩ := hk
  have hd := HK2.out
  rw [e, hd] at hq
  cases hq
 case stop =>
  rintro D c pre W _ _ h _
  exact h.elim
end Go.Proofs.YtokekdhmhfoliaaGreat.F
end

section
namespace Go.Proofs.YtokekdhmhfoliaaGreat.F
open Go.RowKit Go.Proofs.YtokekdhmhfoliaaGreatW.PrintWords Go.Proofs.YtokekdhmhfoliaaGreatW.PrintLast Go.Proofs.YtokekdhmhfoliaaGreatW.PrintMore
attribute [local go_sem] max2_int min2_int max_two min_two max_three min_three max_four min_four
set_option linter.unusedVariables false
set_option linter.unusedSimpArgs false
def argosyref01_Same.l0 : Nat → List Int → List Int → Int → Option (Bool)
 | 0, _, _, _ => none
 | k + 1, x0, x1, x5 => if x5 < (x0.length : Int) then (if 0 ≤ x5 then (if x5 < (x1.length : Int) then (if (rd x0 x5) = (rd x1 x5) then (argosyref01_Same.l0 k x0 x1 (wrap64 (x5 + 1))) else (some false)) else (none)) else (none)) else (some true)
def argosyref01_Same.f (k : Nat) (l0 : List Int) (l1 : List Int) : Option (Bool) := if (l0.length : Int) = (l1.length : Int) then (argosyref01_Same.l0 k l0 l1 0) else (some false)
set_option maxHeartbeats 8000000 in
set_option maxRecDepth 100000 in
theorem argosyref01_Same.calls (k : Nat) (A0 : Option Addr) (c0 : Nat) (l0 : List Int) (A1 : Option Addr) (c1 : Nat) (l1 : List Int) (r : Bool) (w : World) (hr0 : Kd.C (Kd.int .i64) w A0 l0.length l0) (hc0 : l0.length ≤ c0) (hr1 : Kd.C (Kd.int .i64) w A1 l1.length l1) (hc1 : l1.length ≤ c1) (h : argosyref01_Same.f k l0 l1 = some r) :
  Calls Tryz.prog 34 #[.slice A0 l0.length c0, .slice A1 l1.length c1] w fun e w' => e = .returned (.bool r) ∧ Drawn0 w w' := by
 have HR0 := Aside0.mk hr0
 have HC0 := Aside0.mk hc0
 clear hr0 hc0
 have HR1 := Aside0.mk hr1
 have HC1 := Aside0.mk hc1
 clear hr1 hc1
 have H : (if (l0.length : Int) = (l1.length : Int) then (argosyref01_Same.l0 k l0 l1 0) else (some false)) = some r := h
 clear h
 by_cases c3 : (l0.length : Int) = (l1.length : Int)
 ·rw [if_pos c3] at H
  have c3b0 : ((l0.length : Int) == (l1.length : Int)) = true := beq_iff_eq.mpr c3
  have c3b1 : ((l0.length : Int) != (l1.length : Int)) = false := bne_eq_false_iff_eq.mpr c3
  have c3b2 : (l0.length == l1.length) = true := by first | simpa using c3 | (simp at c3 ⊢; omega)
  clear c3
  have H' := Aside0.mk H
  clear H
  go_enter Tryz.func34, Tryz.ntmps34
  go_wp2
  repeat (go_quiet (fail); try go_wp2)
  go_loopg [5] k (fun kq v5 w' => ∃ (x5_1 : Int), v5 = .int .i64 x5_1 ∧ Aside0 (argosyref01_Same.l0 kq l0 l1 x5_1 = some r) ∧ Aside0 (kq ≤ k) ∧ Drawn0 w w')
  case atStart => exact ⟨(0), (by first | rfl | (simp; done) | (simp [*]; done)), H', ⟨Nat.le_refl _⟩, by repeat (first | exact Drawn0.refl _ | apply Drawn0.step)⟩
  case round =>
   clear H'
   try clear c1
   try clear p2
   try clear c3
   try clear c3b0
   try clear c3b1
   try clear c3b2
   obtain ⟨x5_1, rfl, HA, HK1, ⟨m1, rfl⟩⟩ := hrel
   cases gk with
   | zero => exact absurd HA.out (by simp [argosyref01_Same.l0])
   | succ k1 =>
    have H := HA.out
    clear HA
    simp only [argosyref01_Same.l0] at H
    by_cases c4 : x5_1 < (l0.length : Int)
    ·rw [if_pos c4] at H
     have c4b0 : decide (x5_1 < (l0.length : Int)) = true := decide_eq_true c4
     clear c4
     by_cases c5 : 0 ≤ x5_1
     ·rw [if_pos c5] at H
      have c5b0 : decide (0 ≤ x5_1) = true := decide_eq_true c5
      clear c5
      by_cases c6 : x5_1 < (l1.length : Int)
      ·rw [if_pos c6] at H
       have c6b0 : decide (x5_1 < (l1.length : Int)) = true := decide_eq_true c6
       clear c6
       by_cases c7 : (rd l0 x5_1) = (rd l1 x5_1)
       ·rw [if_pos c7] at H
        have c7b0 : ((rd l0 x5_1) == (rd l1 x5_1)) = true := beq_iff_eq.mpr c7
        have c7b1 : ((rd l0 x5_1) != (rd l1 x5_1)) = false := bne_eq_false_iff_eq.mpr c7
        clear c7
        have H' := Aside0.mk H
        clear H
        have p111 : 0 ≤ (x5_1 : Int) := of_decide_eq_true (by first | (with_reducible assumption) | assumption)
        have q111 : x5_1 < (l0.length : Int) := of_decide_eq_true (by first | (with_reducible assumption) | assumption)
        obtain ⟨ad111, e111, hx111_0⟩ := Kd.at_int HR0.out x5_1 p111 q111
        cases e111
        replace p111 := eq_true p111
        replace q111 := eq_true q111
        have p112 : 0 ≤ (x5_1 : Int) := of_decide_eq_true (by first | (with_reducible assumption) | assumption)
        have q112 : x5_1 < (l1.length : Int) := of_decide_eq_true (by first | (with_reducible assumption) | assumption)
        obtain ⟨ad112, e112, hx112_0⟩ := Kd.at_int HR1.out x5_1 p112 q112
        cases e112
        replace p112 := eq_true p112
        replace q112 := eq_true q112
        go_wp2
        repeat (go_quiet (fail); try go_wp2)
        go_roundg k1
        case measure => have := HK1.out; omega
        case rel => exact ⟨(wrap64 (x5_1 + 1)), (by first | rfl | (simp; done) | (simp [*]; done)), H', ⟨by have := HK1.out; omega⟩, by repeat (first | exact Drawn0.refl _ | apply Drawn0.step)⟩
       ·rw [if_neg c7] at H
        have c7b0 : ((rd l0 x5_1) == (rd l1 x5_1)) = false := beq_eq_false_iff_ne.mpr c7
        have c7b1 : ((rd l0 x5_1) != (rd l1 x5_1)) = true := bne_iff_ne.mpr c7
        obtain rfl := Option.some.inj H
        have p111 : 0 ≤ (x5_1 : Int) := of_decide_eq_true (by first | (with_reducible assumption) | assumption)
        have q111 : x5_1 < (l0.length : Int) := of_decide_eq_true (by first | (with_reducible assumption) | assumption)
        obtain ⟨ad111, e111, hx111_0⟩ := Kd.at_int HR0.out x5_1 p111 q111
        cases e111
        replace p111 := eq_true p111
        replace q111 := eq_true q111
        have p112 : 0 ≤ (x5_1 : Int) := of_decide_eq_true (by first | (with_reducible assumption) | assumption)
        have q112 : x5_1 < (l1.length : Int) := of_decide_eq_true (by first | (with_reducible assumption) | assumption)
        obtain ⟨ad112, e112, hx112_0⟩ := Kd.at_int HR1.out x5_1 p112 q112
        cases e112
        replace p112 := eq_true p112
        replace q112 := eq_true q112
        go_wp2
        repeat (go_quiet (fail); try go_wp2)
        go_ret
        exact ⟨by first | rfl | (simp; done) | (simp [*]; done), by repeat (first | exact Drawn0.refl _ | apply Drawn0.step)⟩
      ·rw [if_neg c6] at H
       exact absurd H (by simp)
     ·rw [if_neg c5] at H
      exact absurd H (by simp)
    ·rw [if_neg c4] at H
     have c4b0 : decide (x5_1 < (l0.length : Int)) = false := decide_eq_false c4
     clear c4
     obtain rfl := Option.some.inj H
     go_wp2
     repeat (go_quiet (fail); try go_wp2)
     go_ret
     exact ⟨by first | rfl | (simp; done) | (simp [*]; done), by repeat (first | exact Drawn0.refl _ | apply Drawn0.step)⟩
 ·rw [if_neg c3] at H
  have c3b0 : ((l0.length : Int) == (l1.length : Int)) = false := beq_eq_false_iff_ne.mpr c3
  have c3b1 : ((l0.length : Int) != (l1.length : Int)) = true := bne_iff_ne.mpr c3
  have c3b2 : (l0.length == l1.length) = false := by first | simpa using c3 | (simp at c3 ⊢; omega)
  obtain rfl := Option.some.inj H
  go_enter Tryz.func34, Tryz.ntmps34
  go_wp2
  repeat (go_quiet (fail); try go_wp2)
  go_ret
  exact ⟨by first | rfl | (simp; done) | (simp [*]; done), by repeat (first | exact Drawn0.refl _ | apply Drawn0.step)⟩
end Go.Proofs.YtokekdhmhfoliaaGreat.F
end

section
namespace Go.Proofs.YtokekdhmhfoliaaGreat.F
open Go.RowKit Go.Proofs.YtokekdhmhfoliaaGreatW.PrintWords Go.Proofs.YtokekdhmhfoliaaGreatW.PrintLast Go.Proofs.YtokekdhmhfoliaaGreatW.PrintMore
attribute [local go_sem] max2_int min2_int max_two min_two max_three min_three max_four min_four
set_option linter.unusedVariables false
set_option linter.unusedSimpArgs false
structure Course where
 done : Int
 tried : Int
 undone : Int
 early : Bool
 late : Bool
def course0 : Course := ⟨0, 0, 0, false, false⟩
def encCourse (c : Course) : Value := .agg #[.int .i64 c.done, .int .i64 c.tried, .int .i64 c.undone, .bool c.early, .bool c.late]
def courseStep (c : Course) (i : Int) (x : S70) : Course :=
 if x.f0.f1 = false then (if x.f1 = true ∧ c.done = 0 then { c with done := i + 1 } else c)
 else ⟨c.done, if c.tried = 0 then i + 1 else c.tried, if x.f1 = true ∧ c.undone = 0 then i + 1 else c.undone, c.early || (c.done == 0), c.late || decide (c.undone > 0)⟩
def coursesOf : List S70 → Int → List (Int × Course) → List (Int × Course)
 | [], _, m => m
 | x :: l, i, m => coursesOf l (i + 1) (mapPut m x.f0.f0 (courseStep ((mapLook m x.f0.f0).getD course0) i x))
theorem courses_drop (l : List S70) (i : Nat) (h : i < l.length) (m : List (Int × Course)) (v : Int) : coursesOf (l.drop i) v m = coursesOf (l.drop (i + 1)) (v + 1) (mapPut m l[i].f0.f0 (courseStep ((mapLook m l[i].f0.f0).getD course0) v l[i])) := by
 rw [List.drop_eq_getElem_cons h]; rfl
theorem tt0 {d : Int} (h : (d == 0) = true) : d = 0 := by simpa using h
theorem ff0 {d : Int} (h : (d == 0) = false) : ¬ d = 0 := by simpa using h
theorem course_zero (w : World) : (zeroValue 89).run Tryz.prog w = .ok (encCourse course0) w := Tryz.zeroValue89 w
set_option maxHeartbeats 8000000 in
set_option maxRecDepth 100000 in
theorem courses_calls (A0 : Option Addr) (c0 : Nat) (l0 : List S70) (w : World) (hr0 : Kd.C k70 w A0 l0.length l0) (hc0 : l0.length ≤ c0) :
  Calls Tryz.prog 38 #[.slice A0 l0.length c0] w fun e w' => e = .returned (.map (some w.heap.size)) ∧ MapIs (fun n : Int => Value.int .i64 n) encCourse w' w.heap.size (coursesOf l0 0 []) ∧ Below w.heap.size w w' := by
 have HR := Aside0.mk hr0
 have HM := Aside0.mk (Kd.C_max hr0)
 have HL := Aside0.mk (courses_drop l0)
 clear hr0
 have hmm := @run_makeMap Tryz.prog
 go_enter Tryz.func38, Tryz.ntmps38
 go_wp2
 clear hmm
 go_loopg [10] l0.length (fun kq v10 w' => ∃ (i : Nat) (m : List (Int × Course)), i + kq = l0.length ∧ v10 = .int .i64 i ∧ Aside0 (MapIs (fun n : Int => Value.int .i64 n) encCourse w' w.heap.size m) ∧ Aside0 (coursesOf l0 0 [] = coursesOf (l0.drop i) i m) ∧ Aside0 (Below w.heap.size w w'))
 case atStart => exact ⟨0, [], by omega, rfl, ⟨MapIs.made _ _ _⟩, ⟨rfl⟩, ⟨(Below.refl _ w).alloc (Nat.le_refl _) _⟩⟩
 case round =>
  obtain ⟨i, m, hi, rfl, HMP, HI, HB⟩ := hrel
  have hm := HM.out
  cases gk with
  | zero =>
   obtain rfl : i = l0.length := by omega
   have HE : Aside0 (coursesOf l0 0 [] = m) := ⟨by rw [HI.out, List.drop_eq_nil_of_le (Nat.le_refl _)]; rfl⟩
   go_wp2
   go_ret
   exact ⟨rfl, by rw [HE.out]; exact HMP.out, HB.out⟩
  | succ k =>
   have hlt : i < l0.length := by omega
   obtain ⟨ad, e0, x0, x1, x2, x3⟩ := at_T70 (Kd.C_below HR.out HB.out) (i : Int) (by omega) (by omega)
   rw [Int.toNat_natCast] at x0 x1 x2 x3
   have hrd : rd_T70 l0 (i : Int) = l0[i] := by unfold rd_T70; rw [Int.toNat_natCast, List.getD_eq_getElem?_getD, List.getElem?_eq_getElem hlt]; rfl
   rw [hrd] at x0 x1 x2 x3
   subst e0
   obtain ⟨x, hx⟩ : ∃ x, l0[i] = x := ⟨_, rfl⟩
   have HD := Aside0.mk (HL.out i hlt m (i : Int))
   rw [hx] at x0 x1 x2 x3 HD
   have hlt' : (i : Int) < (l0.length : Int) := by omega
   have h0 : (0 : Int) ≤ i := by omega
   have HI2 := Aside0.mk hi
   clear hx hrd hi
   obtain ⟨⟨⟨xa, xb, xc⟩, xd⟩, hxe⟩ : ∃ y, x = y := ⟨_, rfl⟩
   subst hxe
   simp only at x0 x1 x2 x3
   have hlk := run_map_lookup (key_ok_int Tryz.underlying3) Tryz.underlying82 course_zero (HMP.out.alloc (.cells #[.int .i64 xa, .bool xb, .int .i64 xc, .bool xd] 70)) xa false
   simp only [Bool.false_eq_true, if_false] at hlk
   have hup := fun (W : World) (c : Course) (hW : MapIs (fun n : Int => Value.int .i64 n) encCourse W w.heap.size m) => run_map_update (key_ok_int Tryz.underlying3) Tryz.underlying82 hW xa c
   have HUP := Aside0.mk hup
   clear hup
   obtain ⟨⟨d0, d1, d2, d3, d4⟩, hce⟩ : ∃ c, (mapLook m xa).getD course0 = c := ⟨_, rfl⟩
   rw [hce] at hlk
   have HC := Aside0.mk hce
   clear hce
   change (Instr.lookup 82 (.map (some w.heap.size)) (.int .i64 xa) false).run Tryz.prog _ = .ok (.agg #[.int .i64 d0, .int .i64 d1, .int .i64 d2, .bool d3, .bool d4]) _ at hlk
   have hex : ∀ c : Course, ∃ w3, (Instr.mapUpdate 82 (.map (some w.heap.size)) (.int .i64 xa) (encCourse c)).run Tryz.prog ((wr.alloc (.cells #[.int .i64 xa, .bool xb, .int .i64 xc, .bool xd] 70)).alloc (.cells #[.int .i64 c.done, .int .i64 c.tried, .int .i64 c.undone, .bool c.early, .bool c.late] 89)) = .ok () w3 ∧
     MapIs (fun n : Int => Value.int .i64 n) encCourse w3 w.heap.size (mapPut m xa c) ∧ World.grownBy ((wr.alloc (.cells #[.int .i64 xa, .bool xb, .int .i64 xc, .bool xd] 70)).alloc (.cells #[.int .i64 c.done, .int .i64 c.tried, .int .i64 c.undone, .bool c.early, .bool c.late] 89)) w3 (some w.heap.size) := fun c => HUP.out _ c ((HMP.out.alloc _).alloc _)
   obtain ⟨f, hf⟩ : ∃ f : Course → World, ∀ c, (Instr.mapUpdate 82 (.map (some w.heap.size)) (.int .i64 xa) (encCourse c)).run Tryz.prog ((wr.alloc (.cells #[.int .i64 xa, .bool xb, .int .i64 xc, .bool xd] 70)).alloc (.cells #[.int .i64 c.done, .int .i64 c.tried, .int .i64 c.undone, .bool c.early, .bool c.late] 89)) = .ok () (f c) ∧
     MapIs (fun n : Int => Value.int .i64 n) encCourse (f c) w.heap.size (mapPut m xa c) ∧ World.grownBy ((wr.alloc (.cells #[.int .i64 xa, .bool xb, .int .i64 xc, .bool xd] 70)).alloc (.cells #[.int .i64 c.done, .int .i64 c.tried, .int .i64 c.undone, .bool c.early, .bool c.late] 89)) (f c) (some w.heap.size) :=
    ⟨fun c => Classical.choose (hex c), fun c => Classical.choose_spec (hex c)⟩
   have hu : ∀ (n0 n1 n2 : Int) (n3 n4 : Bool), (Instr.mapUpdate 82 (.map (some w.heap.size)) (.int .i64 xa) (.agg #[.int .i64 n0, .int .i64 n1, .int .i64 n2, .bool n3, .bool n4])).run Tryz.prog ((wr.alloc (.cells #[.int .i64 xa, .bool xb, .int .i64 xc, .bool xd] 70)).alloc (.cells #[.int .i64 n0, .int .i64 n1, .int .i64 n2, .bool n3, .bool n4] 89)) = .ok () (f ⟨n0, n1, n2, n3, n4⟩) := fun n0 n1 n2 n3 n4 => (hf ⟨n0, n1, n2, n3, n4⟩).1
   have HF := Aside0.mk (fun c => (hf c).2)
   clear hf hex HUP
   have fin : ∀ c : Course, Aside0 (courseStep ⟨d0, d1, d2, d3, d4⟩ i ⟨⟨xa, xb, xc⟩, xd⟩ = c) → ∃ (i' : Nat) (m' : List (Int × Course)), i' + k = l0.length ∧ Value.int .i64 ((i : Int) + 1) = .int .i64 i' ∧ Aside0 (MapIs (fun n : Int => Value.int .i64 n) encCourse (f c) w.heap.size m') ∧ Aside0 (coursesOf l0 0 [] = coursesOf (l0.drop i') i' m') ∧ Aside0 (Below w.heap.size w (f c)) := by
    intro c hc
    refine ⟨i + 1, mapPut m xa c, by have := HI2.out; omega, by go_num, ⟨(HF.out c).1⟩, ⟨?_⟩, ⟨(((HB.out.alloc HB.out.size _).alloc (by simp; have := HB.out.size; omega) _).grown (HF.out c).2 (by simp; have := HB.out.size; omega) (fun k e => by cases e; exact Nat.le_refl _))⟩⟩
    have e1 := HD.out
    simp only [HC.out, hc.out] at e1
    rw [HI.out, e1]
    rfl
   have FIN := Aside0.mk fin
   clear fin HC HD
   cases xb
   all_goals cases xd
   all_goals go_wp2
   all_goals
    go_roundg k
    case measure => omega
    case rel =>
     refine FIN.out _ ⟨?_⟩
     (try have q0 := tt0 (d := d0) (by assumption))
     (try have q0 := ff0 (d := d0) (by assumption))
     (try have q1 := tt0 (d := d1) (by assumption))
     (try have q1 := ff0 (d := d1) (by assumption))
     (try have q2 := tt0 (d := d2) (by assumption))
     (try have q2 := ff0 (d := d2) (by assumption))
     clear FIN HF hu hlk
     first
      | (simp [courseStep, *]; done)
      | (simp [courseStep, *] <;> rfl)
end Go.Proofs.YtokekdhmhfoliaaGreat.F
end

section
namespace Go.Proofs
open Go.Shelf
def Tryz.keysA_ren : Go.Shelf.Ren := ⟨fun | 7 => 40 | 10 => 75 | n => n, fun | 23 => 82 | 26 => 3 | 3 => 89 | 28 => 86 | 0 => 0 | 27 => 85 | 33 => 111 | 4 => 4 | n => n, fun | n => n⟩
theorem Tryz.keysA : Go.Proofs.SlLaysZI.n7 Tryz.prog Tryz.keysA_ren := {
 mixed := by kernel_rfl
 f7 := ⟨Tryz.f40.name, by decide, Tryz.func40.trans (congrArg some (by kernel_rfl))⟩
 f10 := ⟨Tryz.f75.name, by decide, Tryz.func75.trans (congrArg some (by kernel_rfl))⟩
 t0 := Tryz.underlying0
 a0 := Tryz.isAgg0
 z0 := Tryz.sizeOf0
 v0 := Tryz.zeroValue0
 t4 := Tryz.underlying4
 a4 := Tryz.isAgg4
 z4 := Tryz.sizeOf4
 v4 := Tryz.zeroValue4
 t23 := Tryz.underlying82
 a23 := Tryz.isAgg82
 z23 := Tryz.sizeOf82
 v23 := Tryz.zeroValue82
 t26 := Tryz.underlying3
 a26 := Tryz.isAgg3
 z26 := Tryz.sizeOf3
 v26 := Tryz.zeroValue3
 t27 := Tryz.underlying85
 a27 := Tryz.isAgg85
 z27 := Tryz.sizeOf85
 v27 := Tryz.zeroValue85
 t28 := Tryz.underlying86
 a28 := Tryz.isAgg86
 z28 := Tryz.sizeOf86
 v28 := Tryz.zeroValue86
 t33 := Tryz.underlying111
 a33 := Tryz.isAgg111
 z33 := Tryz.sizeOf111
 v33 := Tryz.zeroValue111 }
def Tryz.sortedA_ren : Go.Shelf.Ren := ⟨fun | 6 => 39 | 8 => 73 | 9 => 74 | 11 => 107 | 13 => 109 | 12 => 108 | 23 => 152 | 24 => 153 | 14 => 143 | 15 => 144 | 16 => 145 | 17 => 146 | 18 => 147 | 19 => 148 | 20 => 149 | 21 => 150 | 22 => 151 | 25 => 171 | 26 => 172 | 27 => 173 | 28 => 174 | 29 => 175 | 30 => 176 | 31 => 191 | n => n, fun | 26 => 3 | 28 => 86 | 24 => 48 | 0 => 0 | 3 => 3 | 37 => 30 | 48 => 227 | 50 => 229 | 4 => 4 | 40 => 220 | 39 => 219 | 45 => 224 | 5 => 5 | 9 => 9 | 51 => 251 | 55 => 255 | 57 => 264 | 58 => 265 | 33 => 111 | n => n, fun | n => n⟩
theorem Tryz.sortedA : Go.Proofs.SlLaysZI.n6 Tryz.prog Tryz.sortedA_ren := {
 mixed := by kernel_rfl
 f6 := ⟨Tryz.f39.name, by decide, Tryz.func39.trans (congrArg some (by kernel_rfl))⟩
 f8 := ⟨Tryz.f73.name, by decide, Tryz.func73.trans (congrArg some (by kernel_rfl))⟩
 f11 := ⟨Tryz.f107.name, by decide, Tryz.func107.trans (congrArg some (by kernel_rfl))⟩
 t0 := Tryz.underlying0
 a0 := Tryz.isAgg0
 z0 := Tryz.sizeOf0
 v0 := Tryz.zeroValue0
 t24 := Tryz.underlying48
 a24 := Tryz.isAgg48
 z24 := Tryz.sizeOf48
 v24 := Tryz.zeroValue48
 t26 := Tryz.underlying3
 a26 := Tryz.isAgg3
 z26 := Tryz.sizeOf3
 v26 := Tryz.zeroValue3
 t28 := Tryz.underlying86
 a28 := Tryz.isAgg86
 z28 := Tryz.sizeOf86
 v28 := Tryz.zeroValue86
 i26 := by kernel_rfl }
def Tryz.sortA_ren : Go.Shelf.Ren := ⟨fun | 5 => 74 | 8 => 109 | 7 => 108 | 19 => 152 | 20 => 153 | 10 => 143 | 11 => 144 | 12 => 145 | 13 => 146 | 14 => 147 | 15 => 148 | 16 => 149 | 17 => 150 | 18 => 151 | 30 => 171 | 31 => 172 | 32 => 173 | 33 => 174 | 34 => 175 | 35 => 176 | 40 => 191 | n => n, fun | 23 => 48 | 25 => 3 | 3 => 3 | 32 => 30 | 22 => 48 | 0 => 0 | 44 => 227 | 46 => 229 | 4 => 4 | 36 => 220 | 35 => 219 | 41 => 224 | 5 => 5 | 9 => 9 | 53 => 251 | 57 => 255 | 63 => 264 | 64 => 265 | n => n, fun | n => n⟩
theorem Tryz.sortA : Go.Proofs.SlLaysM.n5 Tryz.prog Tryz.sortA_ren := {
 mixed := by kernel_rfl
 f5 := ⟨Tryz.f74.name, by decide, Tryz.func74.trans (congrArg some (by kernel_rfl))⟩
 f7 := ⟨Tryz.f108.name, by decide, Tryz.func108.trans (congrArg some (by kernel_rfl))⟩
 f8 := Tryz.func109.trans (congrArg some (by kernel_rfl))
 f10 := ⟨Tryz.f143.name, by decide, Tryz.func143.trans (congrArg some (by kernel_rfl))⟩
 f11 := ⟨Tryz.f144.name, by decide, Tryz.func144.trans (congrArg some (by kernel_rfl))⟩
 f12 := ⟨Tryz.f145.name, by decide, Tryz.func145.trans (congrArg some (by kernel_rfl))⟩
 f13 := ⟨Tryz.f146.name, by decide, Tryz.func146.trans (congrArg some (by kernel_rfl))⟩
 f14 := ⟨Tryz.f147.name, by decide, Tryz.func147.trans (congrArg some (by kernel_rfl))⟩
 f15 := ⟨Tryz.f148.name, by decide, Tryz.func148.trans (congrArg some (by kernel_rfl))⟩
 f16 := ⟨Tryz.f149.name, by decide, Tryz.func149.trans (congrArg some (by kernel_rfl))⟩
 f17 := ⟨Tryz.f150.name, by decide, Tryz.func150.trans (congrArg some (by kernel_rfl))⟩
 f18 := ⟨Tryz.f151.name, by decide, Tryz.func151.trans (congrArg some (by kernel_rfl))⟩
 f19 := Tryz.func152.trans (congrArg some (by kernel_rfl))
 f20 := Tryz.func153.trans (congrArg some (by kernel_rfl))
 f30 := ⟨Tryz.f171.name, by decide, Tryz.func171.trans (congrArg some (by kernel_rfl))⟩
 f31 := Tryz.func172.trans (congrArg some (by kernel_rfl))
 f32 := Tryz.func173.trans (congrArg some (by kernel_rfl))
 f33 := ⟨Tryz.f174.name, by decide, Tryz.func174.trans (congrArg some (by kernel_rfl))⟩
 f34 := ⟨Tryz.f175.name, by decide, Tryz.func175.trans (congrArg some (by kernel_rfl))⟩
 f35 := ⟨Tryz.f176.name, by decide, Tryz.func176.trans (congrArg some (by kernel_rfl))⟩
 f40 := ⟨Tryz.f191.name, by decide, Tryz.func191.trans (congrArg some (by kernel_rfl))⟩
 t0 := Tryz.underlying0
 a0 := Tryz.isAgg0
 z0 := Tryz.sizeOf0
 v0 := Tryz.zeroValue0
 t3 := Tryz.underlying3
 a3 := Tryz.isAgg3
 z3 := Tryz.sizeOf3
 v3 := Tryz.zeroValue3
 t4 := Tryz.underlying4
 a4 := Tryz.isAgg4
 z4 := Tryz.sizeOf4
 v4 := Tryz.zeroValue4
 t5 := Tryz.underlying5
 a5 := Tryz.isAgg5
 z5 := Tryz.sizeOf5
 v5 := Tryz.zeroValue5
 t9 := Tryz.underlying9
 a9 := Tryz.isAgg9
 z9 := Tryz.sizeOf9
 v9 := Tryz.zeroValue9
 t22 := Tryz.underlying48
 a22 := Tryz.isAgg48
 z22 := Tryz.sizeOf48
 v22 := Tryz.zeroValue48
 t23 := Tryz.underlying48
 a23 := Tryz.isAgg48
 z23 := Tryz.sizeOf48
 v23 := Tryz.zeroValue48
 t25 := Tryz.underlying3
 a25 := Tryz.isAgg3
 z25 := Tryz.sizeOf3
 v25 := Tryz.zeroValue3
 t32 := Tryz.underlying30
 a32 := Tryz.isAgg30
 z32 := Tryz.sizeOf30
 v32 := Tryz.zeroValue30
 t35 := Tryz.underlying219
 a35 := Tryz.isAgg219
 z35 := Tryz.sizeOf219
 v35 := Tryz.zeroValue219
 t36 := Tryz.underlying220
 a36 := Tryz.isAgg220
 z36 := Tryz.sizeOf220
 v36 := Tryz.zeroValue220
 t41 := Tryz.underlying224
 a41 := Tryz.isAgg224
 z41 := Tryz.sizeOf224
 v41 := Tryz.zeroValue224
 t44 := Tryz.underlying227
 a44 := Tryz.isAgg227
 z44 := Tryz.sizeOf227
 v44 := Tryz.zeroValue227
 t46 := Tryz.underlying229
 a46 := Tryz.isAgg229
 z46 := Tryz.sizeOf229
 v46 := Tryz.zeroValue229
 t53 := Tryz.underlying251
 a53 := Tryz.isAgg251
 z53 := Tryz.sizeOf251
 v53 := Tryz.zeroValue251
 t57 := Tryz.underlying255
 a57 := Tryz.isAgg255
 z57 := Tryz.sizeOf255
 v57 := Tryz.zeroValue255
 t63 := Tryz.underlying264
 a63 := Tryz.isAgg264
 z63 := Tryz.sizeOf264
 v63 := Tryz.zeroValue264
 t64 := Tryz.underlying265
 a64 := Tryz.isAgg265
 z64 := Tryz.sizeOf265
 v64 := Tryz.zeroValue265 }
end Go.Proofs
end

section
namespace Go.Proofs.YtokekdhmhfoliaaGreat.F
open Go.RowKit Go.Proofs.YtokekdhmhfoliaaGreatW.PrintWords Go.Proofs.YtokekdhmhfoliaaGreatW.PrintLast Go.Proofs.YtokekdhmhfoliaaGreatW.PrintMore
attribute [local go_sem] max2_int min2_int max_two min_two max_three min_three max_four min_four
set_option linter.unusedVariables false
set_option linter.unusedSimpArgs false
open Go.Maps Go.Sort Go.Shelf in
theorem insert_perm {H : Type} (x : Lit × DataW H) : ∀ l : List (Lit × DataW H), (DataW.insert x l).Perm (x :: l)
 | [] => List.Perm.refl _
 | y :: r => by
  unfold DataW.insert
  split
  ·exact List.Perm.refl _
  ·exact ((insert_perm x r).cons y).trans (List.Perm.swap x y r)
theorem foldr_perm {H : Type} : ∀ l : List (Lit × DataW H), (l.foldr DataW.insert []).Perm l
 | [] => List.Perm.refl _
 | x :: l => (insert_perm x _).trans ((foldr_perm l).cons x)
def anyElem {H : Type} : Value → Option (DataW H × List MemPlace) := fun _ => some (.nil, [])
theorem keyOf_wf (n : Int) (h : (Lit.int .i64 n).wf = true) : keyOf Tryz.prog 3 (.int .i64 n) = some (.int .i64 n) := by
 unfold keyOf
 rw [Tryz.underlying3]
 simp [mapKey, Tryz.underlying3, h]
theorem owns_of_map {H : Type} {ν : Type} {encV : ν → Value} {w : World} {b : Nat} {m : List (Int × ν)} (h : MapIs (fun n : Int => Value.int .i64 n) encV w b m) (hl : m.length ≤ 1000000) (hk : ∀ x ∈ m, (Lit.int .i64 x.1).wf = true) :
  ∃ D0 : DataW H, w.ownsMap Tryz.prog 3 anyElem b 1000000 D0 ∧ (Go.intKeys D0).Perm (keysOf m) ∧ Maps.size D0 = m.length := by
 obtain ⟨es, h1, h2⟩ := h.entries
 have hsz : es.size = m.length := by rw [← Array.length_toList, h2, entriesOf_length]
 have hkeys : es.toList.map (·.key) = (keysOf m).map (fun n : Int => Value.int .i64 n) := by
  rw [h2]; unfold entriesOf; rw [List.range_eq_range']; exact entries_keys m 0
 have hborn : es.toList.map (·.born) = List.range m.length := by
  rw [h2]
  apply List.ext_getElem?
  intro i
  rw [List.getElem?_map, entriesOf_get]
  by_cases hi : i < m.length
  ·rw [List.getElem?_eq_getElem hi, List.getElem?_range hi]; rfl
  ·rw [List.getElem?_eq_none (by omega), List.getElem?_eq_none (by simp; omega)]; rfl
 have hrd : ∀ x ∈ es.toList, ∃ n : Int, x.key = .int .i64 n ∧ (Lit.int .i64 n).wf = true := by
  intro x hx
  rw [h2] at hx
  obtain ⟨i, hi⟩ := List.mem_iff_getElem?.1 hx
  rw [entriesOf_get] at hi
  obtain ⟨y, hy, rfl⟩ := Option.map_eq_some_iff.1 hi
  exact ⟨y.1, rfl, hk y (List.mem_of_getElem? hy)⟩
 have hrg : es.toList.map (Go.WideElems.rg (H := H) Tryz.prog 3 anyElem) = (keysOf m).map fun n => (Lit.int .i64 n, DataW.nil) := by
  have e1 : es.toList.map (Go.WideElems.rg (H := H) Tryz.prog 3 anyElem) = es.toList.map (fun x => ((match x.key with | .int .i64 n => Lit.int .i64 n | _ => .bool false), DataW.nil)) := by
   apply List.map_congr_left
   intro x hx
   obtain ⟨n, hn, hw⟩ := hrd x hx
   unfold Go.WideElems.rg Go.WideElems.rd
   rw [hn, keyOf_wf n hw]; rfl
  rw [e1]
  have e2 := congrArg (List.map (fun v : Value => ((match v with | .int .i64 n => Lit.int .i64 n | _ => .bool false), (DataW.nil : DataW H)))) hkeys
  rw [List.map_map, List.map_map] at e2
  exact e2
 refine ⟨.map ((es.toList.map (Go.WideElems.rg Tryz.prog 3 anyElem)).foldr DataW.insert []), ⟨es, m.length, h1, ⟨by rw [hsz]; unfold maxLen; omega, ⟨?_, ?_, ?_⟩, ?_⟩, by omega, rfl⟩, ?_, ?_⟩
 ·intro x hx
  have : x.born ∈ es.toList.map (·.born) := List.mem_map_of_mem hx
  rw [hborn] at this
  exact List.mem_range.1 this
 ·rw [hborn]; exact List.nodup_range
 ·rw [hkeys]
  exact List.pairwise_map.2 (h.nodup.imp (fun hne e => hne (by simpa using e)))
 ·intro x hx
  obtain ⟨n, hn, hw⟩ := hrd x hx
  refine ⟨(Lit.int .i64 n, DataW.nil), ?_⟩
  unfold Go.WideElems.rd
  rw [hn, keyOf_wf n hw]; rfl
 ·have hp := foldr_perm (es.toList.map (Go.WideElems.rg (H := H) Tryz.prog 3 anyElem))
  rw [hrg] at hp ⊢
  have := hp.map (fun p : Lit × DataW H => Go.intOf p.1)
  refine this.trans ?_
  rw [List.map_map]
  exact List.Perm.of_eq ((List.map_congr_left (fun n _ => rfl)).trans (List.map_id (keysOf m)))
 ·show (List.foldr DataW.insert [] _).length = _
  rw [(foldr_perm _).length_eq, List.length_map, Array.length_toList, hsz]
open Go.Maps Go.Sort Go.Shelf in
theorem sorts_any (m : Nat) : AnyZI.SortsIn Tryz.prog Tryz.sortedA_ren Fence.wide m :=
 ⟨fun blk off cap ss W hH hblk hsz => callsIn_wide.2 (AnyM.slices_Sort_int Tryz.sortA blk off cap ss W hH hblk hsz),
   fun p cap W => callsIn_wide.2 (AnyM.slices_Sort_int_none Tryz.sortA p cap W)⟩
open Go.Maps Go.Sort Go.Shelf in
theorem keys_call (mb : Option Nat) (W : World) : Calls Tryz.prog 40 #[.map mb] W fun e w' => e = .returned (.func (.func 75) #[] #[.pointer (some ⟨W.heap.size, 0, none⟩)]) ∧ w' = W.alloc (.cells #[.map mb] 82) :=
 (callsIn_wide (n := 5)).1 (AnyZI.keys_in Tryz.keysA Fence.wide 5 trivial rfl mb W)
open Go.Maps Go.Sort Go.Shelf in
theorem sorted_call {H : Type} (b nn : Nat) (D0 : DataW H) (R : Value → Option (DataW H × List MemPlace)) (w : World) (hown : w.ownsMap Tryz.prog 3 R b nn D0) (hmax : Maps.size D0 ≤ maxLen) (hbytes : Maps.size D0 * 8 ≤ 140737488355328) :
  Calls Tryz.prog 39 #[.func (.func 75) #[] #[.pointer (some ⟨w.heap.size, 0, none⟩)]] (w.alloc (.cells #[.map (some b)] 82)) fun e w' => ∃ (v : Value) (ss : List Int), e = .returned v ∧ ss.Perm (Go.intKeys D0) ∧
   w'.ownsRow (w.alloc (.cells #[.map (some b)] 82)).heap.size 3 1 v ss.length ((ss.mergeSort (fun x y => decide (x ≤ y))).map Go.encZ) ∧ Below (w.alloc (.cells #[.map (some b)] 82)).heap.size (w.alloc (.cells #[.map (some b)] 82)) w' := by
 refine (callsIn_wide (n := 5)).1 ?_
 have hbl := hown.lt
 have hseq : SeqGives Fence.wide 2 Tryz.prog 75 #[.pointer (some ⟨w.heap.size, 0, none⟩)] Go.encZ (fun ss => ss.Perm (Go.intKeys D0)) (Maps.size D0) (w.alloc (.cells #[.map (some b)] 82)) :=
  AnyZI.keys_gives (ρ := Tryz.keysA_ren) { Tryz.keysA with } Fence.wide _ trivial rfl (by omega) w.heap.size b nn D0 _ (by simp) (by simp) (by
   obtain ⟨es, clock, hb, Ft, hs, hD⟩ := hown
   exact ⟨es, clock, (Below.heap_alloc _ _ b hbl).trans hb, Ft, hs, hD⟩)
 have cS := AnyZI.sorted_in Tryz.sortedA Fence.wide 5 trivial trivial trivial trivial rfl (by omega) (sorts_any _) (enters_of Tryz.func74 (by kernel_rfl) rfl) 75 #[.pointer (some ⟨w.heap.size, 0, none⟩)] trivial (enters_of Tryz.func75 (by kernel_rfl) rfl) _ _ hmax hbytes _ hseq
 refine cS.mono ?_
 rintro e w' ⟨v, ss, he, hS, hrow, _, hb⟩
 exact ⟨v, ss, he, hS, hrow, hb⟩
theorem mem_coursesOf {x : Int × Course} : ∀ (l : List S70) (i : Int) (m : List (Int × Course)), x ∈ coursesOf l i m → x.1 ∈ keysOf m ∨ ∃ y ∈ l, y.f0.f0 = x.1 := by
 intro l
 induction l with
 | nil => intro i m h; exact .inl (List.mem_map_of_mem h)
 | cons y l ih =>
  intro i m h
  rcases ih _ _ h with h | ⟨z, hz, he⟩
  ·rw [keysOf_put] at h
   split at h
   ·exact .inl h
   ·rcases List.mem_append.1 h with h | h
    ·exact .inl h
    ·rw [List.mem_singleton] at h
     exact .inr ⟨y, List.mem_cons_self .., h.symm⟩
  ·exact .inr ⟨z, List.mem_cons_of_mem _ hz, he⟩
theorem length_put {κ ν : Type} [DecidableEq κ] (m : List (κ × ν)) (k : κ) (v : ν) : (mapPut m k v).length ≤ m.length + 1 := by
 unfold mapPut
 split
 ·rw [List.length_map]; omega
 ·simp
theorem length_coursesOf : ∀ (l : List S70) (i : Int) (m : List (Int × Course)), (coursesOf l i m).length ≤ m.length + l.length := by
 intro l
 induction l with
 | nil => intro i m; exact Nat.le_refl _
 | cons y l ih =>
  intro i m
  have h1 := ih (i + 1) (mapPut m y.f0.f0 (courseStep ((mapLook m y.f0.f0).getD course0) i y))
  have h2 := length_put m y.f0.f0 (courseStep ((mapLook m y.f0.f0).getD course0) i y)
  show (coursesOf l (i + 1) _).length ≤ _
  rw [List.length_cons]
  omega
def isLeft (m : List (Int × Course)) (i : Int) : Bool := decide (((mapLook m i).getD course0).done > 0) && ((mapLook m i).getD course0).undone == 0
def leftOf (l : List S70) : List Int := ((keysOf (coursesOf l 0 [])).mergeSort (fun x y => decide (x ≤ y))).filter (isLeft (coursesOf l 0 []))
def trace_Left.f (l0 : List S70) : Option (List Int) := if l0.length ≤ 1000000 ∧ ∀ x ∈ l0, (Lit.int .i64 x.f0.f0).wf = true then some (leftOf l0) else none
theorem sort_perm {a b : List Int} (h : a.Perm b) : a.mergeSort (fun x y => decide (x ≤ y)) = b.mergeSort (fun x y => decide (x ≤ y)) := by
 have ha := List.pairwise_mergeSort (le := fun x y : Int => decide (x ≤ y)) (fun a b c => by simp; omega) (fun a b => by simp; omega) a
 have hb := List.pairwise_mergeSort (le := fun x y : Int => decide (x ≤ y)) (fun a b c => by simp; omega) (fun a b => by simp; omega) b
 have hp : (a.mergeSort (fun x y => decide (x ≤ y))).Perm (b.mergeSort (fun x y => decide (x ≤ y))) := (List.mergeSort_perm a _).trans (h.trans (List.mergeSort_perm b _).symm)
 exact hp.eq_of_pairwise (le := fun x y : Int => decide (x ≤ y) = true) (fun x y _ _ h1 h2 => by simp at h1 h2; omega) ha hb
theorem filter_take (p : Int → Bool) (l : List Int) (i : Nat) (h : i < l.length) : (l.take (i + 1)).filter p = if p l[i] then (l.take i).filter p ++ [l[i]] else (l.take i).filter p := by
 rw [List.take_succ_eq_append_getElem h, List.filter_append]
 by_cases hp : p l[i] = true
 ·simp [hp]
 ·simp [hp]
set_option maxHeartbeats 8000000 in
set_option maxRecDepth 100000 in
theorem trace_Left.calls (A0 : Option Addr) (c0 : Nat) (l0 : List S70) (r : List Int) (w : World) (hr0 : Kd.C k70 w A0 l0.length l0) (hc0 : l0.length ≤ c0) (h : trace_Left.f l0 = some r) :
  Calls Tryz.prog 35 #[.slice A0 l0.length c0] w fun e w' => ∃ v0_ : Value, e = .returned (v0_) ∧ Kd.R (Kd.int .i64) 3 w' w.heap.size (fun _ => True) v0_ r ∧ Below w.heap.size w w' := by
 unfold trace_Left.f at h
 have hcond : l0.length ≤ 1000000 ∧ ∀ x ∈ l0, (Lit.int .i64 x.f0.f0).wf = true := by
  by_cases hc : l0.length ≤ 1000000 ∧ ∀ x ∈ l0, (Lit.int .i64 x.f0.f0).wf = true
  ·exact hc
  ·rw [if_neg hc] at h; cases h
 rw [if_pos hcond] at h
 obtain rfl := Option.some.inj h
 clear h
 have HC := Aside0.mk (courses_calls A0 c0 l0 w hr0 hc0)
 have HCOND := Aside0.mk hcond
 clear hr0 hcond
 go_enter Tryz.func35, Tryz.ntmps35
 go_wp2_with (go_at_call 38; refine HC.out.mono ?_; rintro e w1 ⟨rfl, hM, hB⟩; have HM1 := Aside0.mk hM; have HB1 := Aside0.mk hB; clear hM hB)
 obtain ⟨m, HMM⟩ : ∃ m, Aside0 (coursesOf l0 0 [] = m) := ⟨_, ⟨rfl⟩⟩
 have hml : m.length ≤ 1000000 := by rw [← HMM.out]; have := length_coursesOf l0 0 []; have := HCOND.out.1; simp at *; omega
 have hmk : ∀ x ∈ m, (Lit.int .i64 x.1).wf = true := by
  intro x hx
  rw [← HMM.out] at hx
  rcases mem_coursesOf l0 0 [] hx with h | ⟨y, hy, he⟩
  ·cases h
  ·rw [← he]; exact HCOND.out.2 y hy
 have hM1 := HM1.out
 rw [HMM.out] at hM1
 obtain ⟨D0, ho, hp, hsz⟩ := owns_of_map (H := Unit) hM1 hml hmk
 have HS := Aside0.mk (sorted_call w.heap.size 1000000 D0 anyElem w1 ho (by rw [hsz]; unfold maxLen; omega) (by rw [hsz]; omega))
 have HP := Aside0.mk hp
 have HML := Aside0.mk hml
 have HMW := Aside0.mk hM1
 clear ho hp hsz hml hmk hM1 HC HM1
 go_wp2_with (go_at_call 40; refine (keys_call _ _).mono ?_; rintro e w2 ⟨rfl, rfl⟩)
 go_wp2_with (go_at_call 39; refine HS.out.mono ?_; rintro e w3 ⟨v, ss, rfl, hS, hrow, hB⟩; have HSS := Aside0.mk hS; have HROW := Aside0.mk hrow; have HB3 := Aside0.mk hB; clear hS hrow hB; obtain ⟨A, c, rfl, hrd⟩ := own_reads (k := .i64) (xs := ss.mergeSort (fun x y => decide (x ≤ y))) HROW.out; have HRD := Aside0.mk hrd; clear hrd)
 clear HS HROW
 obtain ⟨ks, HKS⟩ : ∃ ks, Aside0 ((keysOf m).mergeSort (fun x y => decide (x ≤ y)) = ks) := ⟨_, ⟨rfl⟩⟩
 have hke : ss.mergeSort (fun x y => decide (x ≤ y)) = ks := (sort_perm (HSS.out.trans HP.out)).trans HKS.out
 have hkl : ks.length = ss.length := by rw [← hke, List.length_mergeSort]
 have hsl : ss.length ≤ 1000000 := by
  have h1 := (HSS.out.trans HP.out).length_eq
  have h2 := HML.out
  unfold keysOf at h1
  rw [List.length_map] at h1
  omega
 have hC := Kd.C_of_reads (d := (0 : Int)) (h1 := fun _ => rfl) HRD.out
 rw [hke] at hC
 have HK := Aside0.mk (show Kd.C (Kd.int .i64) w3 A ss.length ks from hC)
 have HM3 := Aside0.mk ((HMW.out.alloc (.cells #[.map (some w.heap.size)] 82)).below HB3.out)
 have HB03 := Aside0.mk ((HB1.out.alloc HB1.out.size (.cells #[.map (some w.heap.size)] 82)).trans (HB3.out.mono (by simp; have := HB1.out.size; omega)))
 have HLR : Aside0 (leftOf l0 = ks.filter (isLeft m)) := ⟨by unfold leftOf; rw [HMM.out, HKS.out]⟩
 have HFT := Aside0.mk (filter_take (isLeft m) ks)
 clear hC hke HRD HSS HP HMW HB3 HB1 HKS HMM HCOND
 have HKL := Aside0.mk hkl
 have HSL := Aside0.mk hsl
 clear hkl hsl
 go_wp2
 go_loopg [3, 14] ss.length (fun kq v3 v14 w' => ∃ (i : Nat) (ys : List Int), i + kq = ss.length ∧ v14 = .int .i64 i ∧ Aside0 (ys = (ks.take i).filter (isLeft m)) ∧ Aside0 (Kd.R (Kd.int .i64) 3 w' w3.heap.size (fun _ => True) v3 ys) ∧ Aside0 (Below w3.heap.size w3 w'))
 case atStart => exact ⟨0, [], by omega, rfl, ⟨rfl⟩, ⟨Kd.R_nil _ _ _ _ _⟩, ⟨Below.refl _ _⟩⟩
 case round =>
  obtain ⟨i, ys, hi, rfl, HY, HO, HB⟩ := hrel
  have hsl := HSL.out
  cases gk with
  | zero =>
   obtain rfl : i = ss.length := by omega
   have HE : Aside0 (leftOf l0 = ys) := ⟨by rw [HLR.out, HY.out, ← HKL.out, List.take_length]⟩
   go_wp2
   go_ret
   exact ⟨_, rfl, by rw [HE.out]; exact Kd.R_lower HO.out HB03.out.size, HB03.out.trans (HB.out.mono HB03.out.size)⟩
  | succ k =>
   have hlt : i < ks.length := by have := HKL.out; omega
   obtain ⟨x, hx⟩ : ∃ x, ks[i] = x := ⟨_, rfl⟩
   have HF := Aside0.mk (HFT.out i hlt)
   obtain ⟨ad, e0, hc0_⟩ := Kd.at_int HK.out (i : Int) (by omega) (by omega)
   have hrd : rd ks (i : Int) = x := by unfold rd; rw [Int.toNat_natCast, List.getD_eq_getElem?_getD, List.getElem?_eq_getElem hlt]; exact hx
   rw [Int.toNat_natCast, hrd] at hc0_
   have hcell := (HB.out.cell (World.block_lt_of_cell? w3 _ hc0_)).trans hc0_
   rw [hx] at HF
   subst e0
   have hlt' : (i : Int) < (ss.length : Int) := by omega
   have h0 : (0 : Int) ≤ i := by omega
   have HI2 := Aside0.mk hi
   have hyl : ys.length ≤ 1000000 := by
    rw [HY.out]
    have h1 := List.length_filter_le (isLeft m) (ks.take i)
    have h2 := List.length_take_le i ks
    omega
   have HYL := Aside0.mk hyl
   have hlk := run_map_lookup (key_ok_int Tryz.underlying3) Tryz.underlying82 course_zero (HM3.out.below HB.out) x false
   simp only [Bool.false_eq_true, if_false] at hlk
   obtain ⟨⟨d0, d1, d2, d3, d4⟩, hce⟩ : ∃ c, (mapLook m x).getD course0 = c := ⟨_, rfl⟩
   have hil : isLeft m x = (decide (d0 > 0) && d2 == 0) := by unfold isLeft; rw [hce]
   rw [hce] at hlk
   change (Instr.lookup 82 (.map (some w.heap.size)) (.int .i64 x) false).run Tryz.prog _ = .ok (.agg #[.int .i64 d0, .int .i64 d1, .int .i64 d2, .bool d3, .bool d4]) _ at hlk
   have HIL := Aside0.mk hil
   have HS3 := Aside0.mk HB.out.size
   clear hx hrd hc0_ hi hlt hce hil hyl
   by_cases hd0 : 0 < d0
   ·by_cases hd2 : d2 = 0
    ·have HT : Aside0 ((ks.take (i + 1)).filter (isLeft m) = ys ++ [x]) := ⟨by rw [HF.out, HIL.out, HY.out]; simp [hd0, hd2]⟩
     subst hd2
     go_wp2_with (((with_reducible refine gate_builtin (b := .append) (xs := #[.tmp 29, .tmp 31]) rfl ?_); (try (refine gate_guard (by rfl) ?_; dsimp only)); at_builtin; refine Kd.R_append (Kd.int .i64) (w0 := w3) w3.heap.size rfl (.tmp 29) (.tmp 31) 48 3 (.int .i64 0) 8 rfl Tryz.underlying48 info3 rfl (by decide) (by omega) u3 ys x [.int .i64 x] (fun _ => True) (fun _ => False) rfl (by simp [Act.eval]) ?aP (fun _ hk => hk.elim) ?aF ?aO ?aB ?aS ?aL ?_; (case aP => exact rfl); (case aF => exact (fun _ _ => trivial)); (case aO => exact (by (with_reducible repeat (first | apply Kd.R_alloc | apply Kd.R_drewN | apply Kd.R_drew)); exact HO.out)); (case aB => exact HB.out.alloc HS3.out _); (case aS => exact Nat.le_trans HS3.out (by simp)); (case aL => have := HYL.out; omega); intro v4 w4 ho hb hg hat; have HO4 := Aside0.mk ho; have HB4 := Aside0.mk hb; clear ho hb hg hat))
     go_roundg k
     case measure => omega
     case rel => exact ⟨i + 1, ys ++ [x], by have := HI2.out; omega, by go_num, ⟨HT.out.symm⟩, HO4, HB4⟩
    ·have HT : Aside0 ((ks.take (i + 1)).filter (isLeft m) = ys) := ⟨by rw [HF.out, HIL.out, HY.out]; simp [hd2]⟩
     have hd2b : (d2 == 0) = false := by simpa using hd2
     clear hd2
     go_wp2
     go_roundg k
     case measure => omega
     case rel => exact ⟨i + 1, ys, by have := HI2.out; omega, by go_num, ⟨HT.out.symm⟩, ⟨Kd.R_alloc HO.out _⟩, ⟨HB.out.alloc HS3.out _⟩⟩
   ·have HT : Aside0 ((ks.take (i + 1)).filter (isLeft m) = ys) := ⟨by rw [HF.out, HIL.out, HY.out]; simp [hd0]⟩
    go_wp2
    go_roundg k
    case measure => omega
    case rel => exact ⟨i + 1, ys, by have := HI2.out; omega, by go_num, ⟨HT.out.symm⟩, ⟨Kd.R_alloc HO.out _⟩, ⟨HB.out.alloc HS3.out _⟩⟩
end Go.Proofs.YtokekdhmhfoliaaGreat.F
end

section
namespace Go.Proofs.YtokekdhmhfoliaaGreat.F
open Go.RowKit Go.Proofs.YtokekdhmhfoliaaGreatW.PrintWords Go.Proofs.YtokekdhmhfoliaaGreatW.PrintLast Go.Proofs.YtokekdhmhfoliaaGreatW.PrintMore
attribute [local go_sem] max2_int min2_int max_two min_two max_three min_three max_four min_four
set_option linter.unusedVariables false
set_option linter.unusedSimpArgs false
def keyIs (a : Int) (b : Bool) (c : Int) (x : S70) : Bool := x.f0.f0 == a && x.f0.f1 == b && x.f0.f2 == c
def idxFrom (p : S70 → Bool) : List S70 → Int → Int
 | [], _ => -1
 | x :: l, i => if p x then i else idxFrom p l (i + 1)
def trace_Find.f (l0 : List S70) (a1_0 : Int) (a1_1 : Bool) (a1_2 : Int) : Option Int := some (idxFrom (keyIs a1_0 a1_1 a1_2) l0 0)
theorem idxFrom_drop (p : S70 → Bool) (l : List S70) (i : Nat) (h : i < l.length) (v : Int) : idxFrom p (l.drop i) v = if p l[i] then v else idxFrom p (l.drop (i + 1)) (v + 1) := by
 rw [List.drop_eq_getElem_cons h]; rfl
set_option maxHeartbeats 2000000 in
set_option maxRecDepth 100000 in
theorem find_lit (g : Nat) (x : S70) (a : Int) (b : Bool) (c : Int) (w : World) (hg : w.heap[g]? = some (.cells #[.int .i64 a, .bool b, .int .i64 c] 38 (0, 0))) :
  Calls Tryz.prog 71 #[.agg #[.int .i64 x.f0.f0, .bool x.f0.f1, .int .i64 x.f0.f2, .bool x.f1], .pointer (some ⟨g, 0, none⟩)] w fun e w' => e = .returned (.bool (keyIs a b c x)) ∧ Below w.heap.size w w' := by
 have hlt := blk_lt hg
 have c0 : w.cell? ⟨g, 0, none⟩ = some (.int .i64 a) := (blk_cell hg 0).trans rfl
 have c1 : w.cell? ⟨g, 1, none⟩ = some (.bool b) := (blk_cell hg 1).trans rfl
 have c2 : w.cell? ⟨g, 2, none⟩ = some (.int .i64 c) := (blk_cell hg 2).trans rfl
 go_enter Tryz.func71, Tryz.ntmps71
 go_wp2
 all_goals (go_ret; refine ⟨?_, (Below.refl _ _).alloc (Nat.le_refl _) _⟩; simp [keyIs, *])
set_option maxHeartbeats 4000000 in
set_option maxRecDepth 100000 in
theorem find_index (A0 : Option Addr) (c0 : Nat) (l0 : List S70) (g : Nat) (a : Int) (b : Bool) (c : Int) (w : World) (hr0 : Kd.C k70 w A0 l0.length l0) (hc0 : l0.length ≤ c0) (hg : w.heap[g]? = some (.cells #[.int .i64 a, .bool b, .int .i64 c] 38 (0, 0))) :
  Calls Tryz.prog 70 #[.slice A0 l0.length c0, .func (.func 71) #[] #[.pointer (some ⟨g, 0, none⟩)]] w fun e w' => e = .returned (.int .i64 (idxFrom (keyIs a b c) l0 0)) ∧ Below w.heap.size w w' := by
 have HR := Aside0.mk hr0
 have HG := Aside0.mk hg
 have HB := Aside0.mk (Below.refl w.heap.size w)
 have HM := Aside0.mk (Kd.C_max hr0)
 have HL := Aside0.mk (idxFrom_drop (keyIs a b c) l0)
 clear hr0 hg
 go_enter Tryz.func70, Tryz.ntmps70
 go_wp2
 go_loopg [5, 8] l0.length (fun kq v5 v8 w' => ∃ i : Nat, i + kq = l0.length ∧ v8 = .int .i64 i ∧ Aside0 (idxFrom (keyIs a b c) l0 0 = idxFrom (keyIs a b c) (l0.drop i) i) ∧ Aside0 (Below w.heap.size w w'))
 case atStart => exact ⟨0, by omega, rfl, ⟨rfl⟩, ⟨Below.refl _ _⟩⟩
 case round =>
  obtain ⟨i, hi, rfl, HI, HB⟩ := hrel
  have hm := HM.out
  cases gk with
  | zero =>
   obtain rfl : i = l0.length := by omega
   have HE : Aside0 (idxFrom (keyIs a b c) l0 0 = -1) := ⟨by rw [HI.out, List.drop_eq_nil_of_le (Nat.le_refl _)]; rfl⟩
   go_wp2
   go_ret
   exact ⟨by rw [HE.out]; rfl, HB.out⟩
  | succ k =>
   have hlt : i < l0.length := by omega
   obtain ⟨ad, e0, x0, x1, x2, x3⟩ := at_T70 (Kd.C_below HR.out HB.out) (i : Int) (by omega) (by omega)
   rw [Int.toNat_natCast] at x0 x1 x2 x3
   have hrd : rd_T70 l0 (i : Int) = l0[i] := by unfold rd_T70; rw [Int.toNat_natCast, List.getD_eq_getElem?_getD, List.getElem?_eq_getElem hlt]; rfl
   rw [hrd] at x0 x1 x2 x3
   subst e0
   have HGR := Aside0.mk ((HB.out.block g (blk_lt HG.out)).trans HG.out)
   obtain ⟨x, hx⟩ : ∃ x, l0[i] = x := ⟨_, rfl⟩
   have HD := Aside0.mk (HL.out i hlt (i : Int))
   rw [hx] at x0 x1 x2 x3 HD
   have hlt' : (i : Int) < (l0.length : Int) := by omega
   have h0 : (0 : Int) ≤ i := by omega
   have HI2 := Aside0.mk hi
   clear hx hrd hi
   obtain ⟨v, hv⟩ : ∃ v, keyIs a b c x = v := ⟨_, rfl⟩
   have HV := Aside0.mk hv
   clear hv
   cases v
   all_goals
    go_wp2_with (go_at_call 71; refine (find_lit g x a b c _ HGR.out).mono ?_; rintro e w2 ⟨rfl, hB2⟩; rw [HV.out]; have HB2 := Aside0.mk hB2; clear hB2)
   ·go_roundg k
    case measure => omega
    case rel => exact ⟨i + 1, by have := HI2.out; omega, by go_num, ⟨by rw [HI.out, HD.out, HV.out]; simp⟩, ⟨HB.out.trans (HB2.out.mono HB.out.size)⟩⟩
   ·go_ret
    exact ⟨by rw [HI.out, HD.out, HV.out]; rfl, HB.out.trans (HB2.out.mono HB.out.size)⟩
set_option maxHeartbeats 2000000 in
set_option maxRecDepth 100000 in
theorem trace_Find.calls (A0 : Option Addr) (c0 : Nat) (l0 : List S70) (a1_0 : Int) (a1_1 : Bool) (a1_2 : Int) (r : Int) (w : World) (hr0 : Kd.C k70 w A0 l0.length l0) (hc0 : l0.length ≤ c0) (h : trace_Find.f l0 a1_0 a1_1 a1_2 = some r) :
  Calls Tryz.prog 36 #[.slice A0 l0.length c0, .agg #[.int .i64 a1_0, .bool a1_1, .int .i64 a1_2]] w fun e w' => e = .returned (.int .i64 r) ∧ Below w.heap.size w w' := by
 obtain rfl := Option.some.inj h
 have HR := Aside0.mk hr0
 clear hr0 h
 go_enter Tryz.func36, Tryz.ntmps36
 go_wp2_with (go_at_call 70; refine (find_index A0 c0 l0 w.heap.size a1_0 a1_1 a1_2 _ (Kd.C_alloc HR.out _) hc0 (heap_alloc_new w _)).mono ?_; rintro e w2 ⟨rfl, hB2⟩; have HB2 := Aside0.mk hB2; clear hB2)
 go_ret
 exact ⟨rfl, ((Below.refl _ w).alloc (Nat.le_refl _) _).trans (HB2.out.mono (by simp))⟩
end Go.Proofs.YtokekdhmhfoliaaGreat.F
end
