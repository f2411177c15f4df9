-- Words by hand, filled by myprint.py for this seat.
import Derived.Test.YtphifpibjgeijaaProg
import Derived.Below
import Derived.Deep.Draws
import Derived.Deep.AppendLies
import Derived.Maps.AppendAt
import Derived.OwnWalk
import Derived.Laws.BytesArg
import Derived.Laws.MakeOwn
import Derived.Laws.OwnMore
import Derived.Deep.OwnRows
import Derived.Tactics
import Derived.Lib.ConvBytes
import Derived.Laws.Slices
import Derived.WalkKit
import Derived.KernelRfl
import Derived.RowKit3
import Derived.Deep.LoopGhost
import Derived.Deep.QuietTactic
import Derived.BigQuiet
import Derived.WideLaws
import Derived.Deep.DeepCutAuto
import Derived.Deep.CutBlock
import Derived.Deep.RegionHeld3
import Derived.Laws.Rows
import Derived.Lib.AppendStr
import Derived.ArgAppend
import Derived.Laws.IdiomCopy
import Derived.OrdersHeld
import Derived.Laws.BitsLemmas
import Derived.RowKit
import Derived.Test.YtphifpibjgeijaaWWords
import Derived.Test.YtphifpibjgeijaaWLast
import Derived.Test.YtphifpibjgeijaaWTab
import Derived.Test.YtphifpibjgeijaaWFour
import Derived.Test.YtphifpibjgeijaaWQPut
import Derived.Test.YtphifpibjgeijaaWApart
import Derived.Test.YtphifpibjgeijaaWArr
import Derived.Test.YtphifpibjgeijaaWZeros
import Derived.Test.YtphifpibjgeijaaWFoot
import Derived.Test.YtphifpibjgeijaaWKept
import Derived.Test.YtphifpibjgeijaaWShare
import Derived.Test.YtphifpibjgeijaaWN
import Derived.Test.YtphifpibjgeijaaWFootNe
import Derived.Test.YtphifpibjgeijaaWAt
import Derived.Test.YtphifpibjgeijaaWEqStruct
import Derived.Test.YtphifpibjgeijaaWRepsOne
import Derived.Test.YtphifpibjgeijaaWInv
import Derived.Test.YtphifpibjgeijaaWInvWords
import Derived.Test.YtphifpibjgeijaaWGuard
import Derived.Test.YtphifpibjgeijaaWNEv
import Derived.Test.YtphifpibjgeijaaWMore
namespace Go.Proofs.Ytphifpibjgeijaa.F
open Go.RowKit Go.Proofs.YtphifpibjgeijaaW.PrintWords Go.Proofs.YtphifpibjgeijaaW.PrintLast Go.Proofs.YtphifpibjgeijaaW.PrintMore
/-! Maps that a call makes: an association list in the order in which its keys came. -/
set_option linter.unusedVariables false
set_option linter.unusedSimpArgs false
section maps
variable {κ ν : Type}

def mapLook [DecidableEq κ] (m : List (κ × ν)) (k : κ) : Option ν := (m.find? (fun x => decide (x.1 = k))).map (·.2)
def mapPut [DecidableEq κ] (m : List (κ × ν)) (k : κ) (v : ν) : List (κ × ν) :=
  if (mapLook m k).isSome then m.map (fun x => if x.1 = k then (k, v) else x) else m ++ [(k, v)]
def keysOf (m : List (κ × ν)) : List κ := m.map (·.1)

/-- Block b is a map that holds just the pairs of m. -/
structure MapIs (encK : κ → Value) (encV : ν → Value) (w : World) (b : Nat) (m : List (κ × ν)) : Prop where
  nodup : (keysOf m).Nodup
  at_ : ∃ es : Array MapEntry, w.heap[b]? = some (.map es m.length) ∧ es.toList = (List.range m.length).zipWith (fun i (x : κ × ν) => ({ key := encK x.1, val := encV x.2, born := i } : MapEntry)) m

theorem MapIs.of_block {encK : κ → Value} {encV : ν → Value} {w w' : World} {b : Nat} {m : List (κ × ν)} (h : MapIs encK encV w b m) (hb : w'.heap[b]? = w.heap[b]?) : MapIs encK encV w' b m := by
  obtain ⟨hn, es, h1, h2⟩ := h
  exact ⟨hn, es, hb.trans h1, h2⟩
theorem MapIs.lt {encK : κ → Value} {encV : ν → Value} {w : World} {b : Nat} {m : List (κ × ν)} (h : MapIs encK encV w b m) : b < w.heap.size := by
  obtain ⟨_, es, h1, _⟩ := h
  exact blk_lt h1
theorem MapIs.alloc {encK : κ → Value} {encV : ν → Value} {w : World} {b : Nat} {m : List (κ × ν)} (h : MapIs encK encV w b m) (o : Obj) : MapIs encK encV (w.alloc o) b m := h.of_block (Below.heap_alloc w o b h.lt)
theorem MapIs.drew {encK : κ → Value} {encV : ν → Value} {w : World} {b : Nat} {m : List (κ × ν)} (h : MapIs encK encV w b m) : MapIs encK encV w.drew b m := h.of_block rfl
theorem MapIs.below {encK : κ → Value} {encV : ν → Value} {w w' : World} {b : Nat} {m : List (κ × ν)} (h : MapIs encK encV w b m) (hb : Below w.heap.size w w') : MapIs encK encV w' b m := h.of_block (hb.block b h.lt)
theorem MapIs.grown {encK : κ → Value} {encV : ν → Value} {w w' : World} {b : Nat} {m : List (κ × ν)} {row : Option Nat} (h : MapIs encK encV w b m) (hg : w.grownBy w' row) (hr : some b ≠ row) : MapIs encK encV w' b m := h.of_block (hg.block b h.lt hr)
theorem MapIs.setCell {encK : κ → Value} {encV : ν → Value} {w : World} {b : Nat} {m : List (κ × ν)} {p : Addr} (h : MapIs encK encV w b m) (hp : b ≠ p.block) (u : Value) : MapIs encK encV (w.setCell p u) b m := h.of_block (Below.heap_setCell w p u b hp)
theorem MapIs.made (encK : κ → Value) (encV : ν → Value) (w : World) : MapIs encK encV (w.alloc (.map #[] 0)) w.heap.size ([] : List (κ × ν)) :=
  ⟨List.nodup_nil, #[], heap_alloc_new w _, rfl⟩

/-- What a map's operations ask of its keys' type. -/
structure KeyOk [DecidableEq κ] (P : Program) (K : TypeId) (encK : κ → Value) : Prop where
  check : ∀ (empty : Bool) (k : κ) (w : World), (Instr.checkKey empty 10000 K (encK k)).run P w = .ok () w
  find : ∀ (k : κ) (es : List MapEntry) (ks : List κ) (w : World), es.map (·.key) = ks.map encK →
    (Instr.findKey K (encK k) es).run P w = .ok ((ks.findIdx? (fun x => decide (x = k))).bind fun i => es[i]?.map fun e => (i, e.val)) w
  same : ∀ k, Instr.sameBits 10000 (encK k) (encK k) = true

theorem findAsking_run [DecidableEq κ] {P : Program} {K : TypeId} {encK : κ → Value} (heq : ∀ (a b : κ) (w : World), (Op.equal K (encK a) (encK b)).run P w = .ok (decide (a = b)) w) (k : κ) (w : World) :
    ∀ (es : List MapEntry) (ks : List κ) (j : Nat), es.map (·.key) = ks.map encK →
      (Instr.findAsking K (encK k) es j).run P w = .ok ((ks.findIdx? (fun x => decide (x = k))).bind fun i => es[i]?.map fun e => (j + i, e.val)) w := by
  intro es
  induction es with
  | nil =>
    intro ks j h
    obtain rfl : ks = [] := by cases ks <;> simp_all
    rfl
  | cons e es ih =>
    intro ks j h
    cases ks with
    | nil => simp at h
    | cons k' ks =>
      simp only [List.map_cons, List.cons.injEq] at h
      unfold Instr.findAsking
      simp only [Sem.run_bind, h.1, heq, Result.andThen_ok]
      by_cases hk : k = k'
      · subst hk
        simp [List.findIdx?_cons]
      · have hk' : ¬ k' = k := fun e => hk e.symm
        rw [decide_eq_false hk]
        simp only [Bool.false_eq_true, if_false]
        rw [ih ks (j + 1) h.2, List.findIdx?_cons, decide_eq_false hk']
        simp only [Bool.false_eq_true, if_false]
        cases ks.findIdx? (fun x => decide (x = k)) with
        | none => rfl
        | some i => simp [Nat.add_assoc, Nat.add_comm 1 i]
theorem entries_keys {encK : κ → Value} {encV : ν → Value} (m : List (κ × ν)) (j : Nat) : ((List.range' j m.length).zipWith (fun i (x : κ × ν) => ({ key := encK x.1, val := encV x.2, born := i } : MapEntry)) m).map (·.key) = (keysOf m).map encK := by
  induction m generalizing j with
  | nil => rfl
  | cons x m ih => simp only [List.length_cons, List.range'_succ, List.zipWith_cons_cons, List.map_cons, keysOf]; rw [ih (j + 1)]; rfl
theorem entries_at {encK : κ → Value} {encV : ν → Value} (m : List (κ × ν)) (i : Nat) : ((List.range m.length).zipWith (fun i (x : κ × ν) => ({ key := encK x.1, val := encV x.2, born := i } : MapEntry)) m)[i]? = (m[i]?).map fun x => { key := encK x.1, val := encV x.2, born := i } := by
  rw [List.getElem?_zipWith]
  by_cases h : i < m.length
  · rw [List.getElem?_range h, List.getElem?_eq_getElem h]; rfl
  · rw [List.getElem?_eq_none (by simp; omega), List.getElem?_eq_none (by omega)]; rfl
theorem look_idx [DecidableEq κ] (m : List (κ × ν)) (k : κ) : mapLook m k = ((keysOf m).findIdx? (fun x => decide (x = k))).bind fun i => m[i]?.map (·.2) := by
  induction m with
  | nil => rfl
  | cons x m ih =>
    unfold mapLook keysOf at *
    rw [List.find?_cons, List.map_cons, List.findIdx?_cons]
    by_cases h : x.1 = k
    · simp [h]
    · simp only [h, decide_false, Bool.false_eq_true, if_false]
      rw [ih]
      cases (List.map (·.1) m).findIdx? (fun x => decide (x = k)) <;> simp

section
variable {P : Program} {T K E : TypeId} {encK : κ → Value} {encV : ν → Value}
theorem map_found [DecidableEq κ] (kok : KeyOk P K encK) {w' : World} {m : List (κ × ν)} {es : Array MapEntry} (h : es.toList = (List.range m.length).zipWith (fun i (x : κ × ν) => ({ key := encK x.1, val := encV x.2, born := i } : MapEntry)) m) (k : κ) :
    (Instr.findKey K (encK k) es.toList).run P w' = .ok (((keysOf m).findIdx? (fun x => decide (x = k))).bind fun i => m[i]?.map fun x => (i, encV x.2)) w' := by
  have hk : es.toList.map (·.key) = (keysOf m).map encK := by rw [h, List.range_eq_range']; exact entries_keys m 0
  rw [kok.find k es.toList (keysOf m) w' hk]
  congr 1
  cases hx : (keysOf m).findIdx? (fun x => decide (x = k)) with
  | none => rfl
  | some i =>
    simp only [Option.bind_some]
    rw [h, entries_at, Option.map_map]; rfl
theorem run_map_lookup [DecidableEq κ] (kok : KeyOk P K encK) (ht : P.underlying T = some (.map K E)) {z : ν} (hz : ∀ w, (zeroValue E).run P w = .ok (encV z) w) {w : World} {b : Nat} {m : List (κ × ν)} (hm : MapIs encK encV w b m) (k : κ) (ok : Bool) :
    (Instr.lookup T (.map (some b)) (encK k) ok).run P w = .ok (if ok then .tuple #[encV ((mapLook m k).getD z), .bool (mapLook m k).isSome] else encV ((mapLook m k).getD z)) w := by
  obtain ⟨_, es, h1, h2⟩ := hm
  have hf := map_found (w' := w) kok h2 k
  have hl := look_idx m k
  have hg : (getObj b).run P w = .ok (.map es m.length) w := by unfold getObj; simp [Sem.run, h1]
  unfold Instr.lookup
  simp only [Sem.run_bind, run_underlying ht, hg, Result.andThen_ok, Sem.run_pure, kok.check, hf]
  cases hx : (keysOf m).findIdx? (fun x => decide (x = k)) with
  | none =>
    rw [hx] at hl
    simp only [Option.bind_none] at hl ⊢
    rw [hl]
    cases ok <;> simp [Sem.run_bind, hz, Result.andThen_ok, Sem.run_pure]
  | some i =>
    rw [hx] at hl
    simp only [Option.bind_some] at hl ⊢
    cases hy : m[i]? with
    | none =>
      rw [hy] at hl
      simp only [Option.map_none] at hl ⊢
      rw [hl]
      cases ok <;> simp [Sem.run_bind, hz, Result.andThen_ok, Sem.run_pure]
    | some x =>
      rw [hy] at hl
      simp only [Option.map_some] at hl ⊢
      rw [hl]
      cases ok <;> simp [Sem.run_bind, Result.andThen_ok, Sem.run_pure]
theorem run_map_len (t : TypeId) (ht : P.underlying T = some (.map K E)) {w : World} {b : Nat} {m : List (κ × ν)} (hm : MapIs encK encV w b m) : (Builtin.len_ #[T] t #[.map (some b)]).run P w = .ok (.int .i64 m.length) w := by
  obtain ⟨_, es, h1, h2⟩ := hm
  have hg : (getObj b).run P w = .ok (.map es m.length) w := by unfold getObj; simp [Sem.run, h1]
  have hs : es.size = m.length := by
    have := congrArg List.length h2
    rw [Array.length_toList, List.length_zipWith, List.length_range, Nat.min_self] at this
    exact this
  unfold Builtin.len_
  simp [Sem.run_bind, run_underlying ht, hg, Result.andThen_ok, Sem.run_pure, goInt, hs]

/-- The entries of m, as they lie. -/
def entriesOf (encK : κ → Value) (encV : ν → Value) (m : List (κ × ν)) : List MapEntry := (List.range m.length).zipWith (fun i (x : κ × ν) => ({ key := encK x.1, val := encV x.2, born := i } : MapEntry)) m
theorem entriesOf_length (m : List (κ × ν)) : (entriesOf encK encV m).length = m.length := by simp [entriesOf]
theorem entriesOf_get (m : List (κ × ν)) (i : Nat) : (entriesOf encK encV m)[i]? = (m[i]?).map fun x => { key := encK x.1, val := encV x.2, born := i } := entries_at m i
theorem entriesOf_snoc (m : List (κ × ν)) (x : κ × ν) : entriesOf encK encV (m ++ [x]) = entriesOf encK encV m ++ [{ key := encK x.1, val := encV x.2, born := m.length }] := by
  apply List.ext_getElem?
  intro i
  rw [entriesOf_get]
  rcases Nat.lt_trichotomy i m.length with h | h | h
  · rw [List.getElem?_append_left h, List.getElem?_append_left (by rw [entriesOf_length]; exact h), entriesOf_get]
  · subst h
    rw [List.getElem?_append_right (Nat.le_refl _), List.getElem?_append_right (by rw [entriesOf_length]; exact Nat.le_refl _), entriesOf_length, Nat.sub_self]; rfl
  · rw [List.getElem?_eq_none (by simp; omega), List.getElem?_eq_none (by simp [entriesOf_length]; omega)]; rfl
theorem MapIs.entries {w : World} {b : Nat} {m : List (κ × ν)} (h : MapIs encK encV w b m) : ∃ es : Array MapEntry, w.heap[b]? = some (.map es m.length) ∧ es.toList = entriesOf encK encV m := h.at_
/-- The block set to the entries of another list. -/
theorem MapIs.put_ {w : World} {b : Nat} {m m' : List (κ × ν)} (h : MapIs encK encV w b m) (hn : (keysOf m').Nodup) {es' : Array MapEntry} (he : es'.toList = entriesOf encK encV m') {c : Nat} (hc : c = m'.length) :
    MapIs encK encV { w with heap := w.heap.setIfInBounds b (.map es' c) } b m' ∧ w.grownBy { w with heap := w.heap.setIfInBounds b (.map es' c) } (some b) := by
  have hlt := h.lt
  subst hc
  refine ⟨⟨hn, es', by simp [hlt], he⟩, rfl, rfl, rfl, by simp, fun i hi hne => ?_⟩
  have : b ≠ i := fun e => hne (by rw [e])
  simp [Array.getElem?_setIfInBounds_ne this]
theorem keysOf_put [DecidableEq κ] (m : List (κ × ν)) (k : κ) (v : ν) : keysOf (mapPut m k v) = if (mapLook m k).isSome then keysOf m else keysOf m ++ [k] := by
  unfold mapPut keysOf
  by_cases h : (mapLook m k).isSome = true
  · rw [if_pos h, if_pos h, List.map_map]
    apply List.map_congr_left
    intro x hx
    simp only [Function.comp]
    by_cases e : x.1 = k
    · rw [if_pos e]; exact e.symm
    · rw [if_neg e]
  · rw [if_neg h, if_neg h]; simp
theorem look_none [DecidableEq κ] {m : List (κ × ν)} {k : κ} : mapLook m k = none ↔ k ∉ keysOf m := by
  unfold mapLook keysOf
  rw [Option.map_eq_none_iff, List.find?_eq_none]
  constructor
  · intro h hk
    obtain ⟨x, hx, rfl⟩ := List.mem_map.1 hk
    exact absurd (decide_eq_true rfl) (h x hx)
  · intro h x hx hd
    exact h (List.mem_map.2 ⟨x, hx, of_decide_eq_true hd⟩)
theorem nodup_put [DecidableEq κ] {m : List (κ × ν)} (h : (keysOf m).Nodup) (k : κ) (v : ν) : (keysOf (mapPut m k v)).Nodup := by
  rw [keysOf_put]
  split
  · exact h
  · rename_i hs
    have hk : k ∉ keysOf m := look_none.1 (by cases hx : mapLook m k with | none => rfl | some y => rw [hx] at hs; exact absurd rfl hs)
    rw [List.nodup_append]
    exact ⟨h, List.nodup_cons.2 ⟨List.not_mem_nil, List.nodup_nil⟩, fun a ha b hb => by rw [List.mem_singleton] at hb; subst hb; rintro rfl; exact hk ha⟩
/-- Where a key stands. -/
theorem idx_spec [DecidableEq κ] {m : List (κ × ν)} {k : κ} {i : Nat} (h : (keysOf m).findIdx? (fun x => decide (x = k)) = some i) : ∃ v, m[i]? = some (k, v) ∧ mapLook m k = some v := by
  have hl := look_idx m k
  rw [h] at hl
  rw [List.findIdx?_eq_some_iff_getElem] at h
  obtain ⟨hlt, hd, _⟩ := h
  have hlt' : i < m.length := by unfold keysOf at hlt; rw [List.length_map] at hlt; exact hlt
  have hk : (m[i]'hlt').1 = k := by
    have := of_decide_eq_true hd
    simpa [keysOf] using this
  refine ⟨(m[i]'hlt').2, ?_, ?_⟩
  · rw [List.getElem?_eq_getElem hlt', ← hk]
  · rw [hl, Option.bind_some, List.getElem?_eq_getElem hlt']; rfl
theorem put_found [DecidableEq κ] {m : List (κ × ν)} (hn : (keysOf m).Nodup) {k : κ} {i : Nat} (h : (keysOf m).findIdx? (fun x => decide (x = k)) = some i) (v : ν) : mapPut m k v = m.set i (k, v) := by
  obtain ⟨v0, hi, hl⟩ := idx_spec h
  unfold mapPut
  rw [hl, if_pos (show (some v0).isSome = true from rfl)]
  apply List.ext_getElem?
  intro j
  rw [List.getElem?_map, List.getElem?_set]
  have hlt : i < m.length := (List.getElem?_eq_some_iff.1 hi).1
  by_cases hj : i = j
  · subst hj
    rw [if_pos rfl, if_pos hlt, hi]; simp
  · rw [if_neg hj]
    cases hx : m[j]? with
    | none => rfl
    | some x =>
      simp only [Option.map_some]
      have hne : ¬ x.1 = k := by
        intro e
        obtain ⟨hjl, hxe⟩ := List.getElem?_eq_some_iff.1 hx
        obtain ⟨_, hie⟩ := List.getElem?_eq_some_iff.1 hi
        have h1 : (keysOf m)[j]'(by unfold keysOf; simpa using hjl) = (keysOf m)[i]'(by unfold keysOf; simpa using hlt) := by
          unfold keysOf
          rw [List.getElem_map, List.getElem_map, hxe, hie, e]
        exact hj ((List.getElem_inj hn).1 h1).symm
      rw [if_neg hne]
theorem put_new [DecidableEq κ] {m : List (κ × ν)} {k : κ} (h : (keysOf m).findIdx? (fun x => decide (x = k)) = none) (v : ν) : mapPut m k v = m ++ [(k, v)] ∧ mapLook m k = none := by
  have hl := look_idx m k
  rw [h] at hl
  unfold mapPut
  rw [hl]
  exact ⟨rfl, rfl⟩
theorem entriesOf_set (m : List (κ × ν)) (i : Nat) (k : κ) (v : ν) (es : Array MapEntry) (he : es.toList = entriesOf encK encV m) : (es.modify i fun e => { e with key := encK k, val := encV v }).toList = entriesOf encK encV (m.set i (k, v)) := by
  apply List.ext_getElem?
  intro j
  rw [Array.getElem?_toList, Array.getElem?_modify, entriesOf_get, List.getElem?_set, ← Array.getElem?_toList, he, entriesOf_get]
  by_cases hj : i = j
  · subst hj
    rw [if_pos rfl, if_pos rfl]
    by_cases hlt : i < m.length
    · rw [if_pos hlt, List.getElem?_eq_getElem hlt]; rfl
    · rw [if_neg hlt, List.getElem?_eq_none (by omega)]; rfl
  · rw [if_neg hj, if_neg hj]
theorem run_getObj {w : World} {b : Nat} {es : Array MapEntry} {c : Nat} (h : w.heap[b]? = some (.map es c)) : (getObj b).run P w = .ok (.map es c) w := by unfold getObj; simp [Sem.run, h]
theorem run_setObj {w : World} {b : Nat} {es : Array MapEntry} {c : Nat} (h : w.heap[b]? = some (.map es c)) (o : Obj) : (setObj b o).run P w = .ok () { w with heap := w.heap.setIfInBounds b o } := by unfold setObj; simp [Sem.run, h]
theorem run_map_update [DecidableEq κ] (kok : KeyOk P K encK) (ht : P.underlying T = some (.map K E)) {w : World} {b : Nat} {m : List (κ × ν)} (hm : MapIs encK encV w b m) (k : κ) (v : ν) :
    ∃ w', (Instr.mapUpdate T (.map (some b)) (encK k) (encV v)).run P w = .ok () w' ∧ MapIs encK encV w' b (mapPut m k v) ∧ w.grownBy w' (some b) := by
  obtain ⟨es, h1, h2⟩ := hm.entries
  have hf := map_found (w' := w) kok h2 k
  have hsz : es.size = m.length := by rw [← Array.length_toList, h2, entriesOf_length]
  cases hx : (keysOf m).findIdx? (fun x => decide (x = k)) with
  | none =>
    obtain ⟨hp, _⟩ := put_new hx v
    refine ⟨{ w with heap := w.heap.setIfInBounds b (.map (es.push { key := encK k, val := encV v, born := m.length }) (m.length + 1)) }, ?_, hm.put_ (nodup_put hm.nodup k v) ?_ (by rw [hp]; simp)⟩
    · rw [hx] at hf
      unfold Instr.mapUpdate
      simp only [Sem.run_bind, run_underlying ht, run_getObj h1, Result.andThen_ok, kok.check, hf, Option.bind_none, run_setObj h1]
    · rw [hp, entriesOf_snoc, Array.toList_push, h2]
  | some i =>
    obtain ⟨v0, hi, hl⟩ := idx_spec hx
    have hp := put_found hm.nodup hx v
    refine ⟨{ w with heap := w.heap.setIfInBounds b (.map (es.modify i fun e => { e with key := encK k, val := encV v }) m.length) }, ?_, hm.put_ (nodup_put hm.nodup k v) ?_ (by rw [hp, List.length_set])⟩
    · rw [hx] at hf
      have hes : es[i]? = some { key := encK k, val := encV v0, born := i } := by rw [← Array.getElem?_toList, h2, entriesOf_get, hi]; rfl
      unfold Instr.mapUpdate
      simp only [Sem.run_bind, run_underlying ht, run_getObj h1, Result.andThen_ok, kok.check, hf, Option.bind_some, hi, Option.map_some, hes, Option.getD_some, Instr.keyThatStays, kok.same, if_true, Sem.run_pure, run_setObj h1]
    · rw [hp]; exact entriesOf_set m i k v es h2
/-- 'm[k] op= ..': the entry is made, if it is not there. -/
theorem run_map_entry [DecidableEq κ] (kok : KeyOk P K encK) (ht : P.underlying T = some (.map K E)) {z : ν} (hz : ∀ w, (zeroValue E).run P w = .ok (encV z) w) {w : World} {b : Nat} {m : List (κ × ν)} (hm : MapIs encK encV w b m) (k : κ) :
    ∃ w' i, (Instr.mapEntry T (.map (some b)) (encK k)).run P w = .ok (.tuple #[encV ((mapLook m k).getD z), .int .i64 (i : Nat)]) w' ∧ MapIs encK encV w' b (mapPut m k ((mapLook m k).getD z)) ∧ w.grownBy w' (some b) ∧
      (keysOf (mapPut m k ((mapLook m k).getD z))).findIdx? (fun x => decide (x = k)) = some i := by
  obtain ⟨es, h1, h2⟩ := hm.entries
  have hf := map_found (w' := w) kok h2 k
  have hsz : es.size = m.length := by rw [← Array.length_toList, h2, entriesOf_length]
  cases hx : (keysOf m).findIdx? (fun x => decide (x = k)) with
  | none =>
    obtain ⟨hp, hl⟩ := put_new hx ((mapLook m k).getD z)
    refine ⟨{ w with heap := w.heap.setIfInBounds b (.map (es.push { key := encK k, val := encV z, born := m.length }) (m.length + 1)) }, m.length, ?_, (hm.put_ (nodup_put hm.nodup k _) ?_ (by rw [hp]; simp)).1, (hm.put_ (nodup_put hm.nodup k _) ?_ (by rw [hp]; simp)).2, ?_⟩
    · rw [hx] at hf
      unfold Instr.mapEntry
      simp only [Sem.run_bind, run_underlying ht, run_getObj h1, Result.andThen_ok, kok.check, hf, Option.bind_none, hz, run_setObj h1, Sem.run_pure, hl, Option.getD_none, goInt]
    · rw [hp, entriesOf_snoc, Array.toList_push, h2, hl]; rfl
    · rw [hp, entriesOf_snoc, Array.toList_push, h2, hl]; rfl
    · rw [hp]
      unfold keysOf at hx ⊢
      rw [List.map_append, List.findIdx?_append, hx]
      simp [List.findIdx?_cons]
  | some i =>
    obtain ⟨v0, hi, hl⟩ := idx_spec hx
    have hp := put_found hm.nodup hx ((mapLook m k).getD z)
    have hlt : i < m.length := (List.getElem?_eq_some_iff.1 hi).1
    have hself : m.set i (k, v0) = m := by
      apply List.ext_getElem?
      intro j
      rw [List.getElem?_set]
      by_cases hj : i = j
      · subst hj; rw [if_pos rfl, if_pos hlt, hi]
      · rw [if_neg hj]
    have hpm : mapPut m k ((mapLook m k).getD z) = m := by rw [hp, hl, Option.getD_some, hself]
    have hes : es[i]? = some { key := encK k, val := encV v0, born := i } := by rw [← Array.getElem?_toList, h2, entriesOf_get, hi]; rfl
    have he2 : (es.modify i fun e => { e with key := encK k }).toList = entriesOf encK encV m := by
      rw [← h2]
      apply List.ext_getElem?
      intro j
      rw [Array.getElem?_toList, Array.getElem?_modify]
      by_cases hj : i = j
      · subst hj; rw [if_pos rfl, hes, Array.getElem?_toList, hes]; rfl
      · rw [if_neg hj, Array.getElem?_toList]
    have hpt := hm.put_ hm.nodup (es' := es.modify i fun e => { e with key := encK k }) he2 (c := m.length) rfl
    rw [hpm]
    refine ⟨{ w with heap := w.heap.setIfInBounds b (.map (es.modify i fun e => { e with key := encK k }) m.length) }, i, ?_, hpt.1, hpt.2, hx⟩
    rw [hx] at hf
    unfold Instr.mapEntry
    simp only [Sem.run_bind, run_underlying ht, run_getObj h1, Result.andThen_ok, kok.check, hf, Option.bind_some, hi, Option.map_some, hes, Option.getD_some, Instr.keyThatStays, kok.same, if_true, Sem.run_pure, run_setObj h1, hl, goInt]
theorem run_entry_store [DecidableEq κ] {w : World} {b : Nat} {m : List (κ × ν)} (hm : MapIs encK encV w b m) {k : κ} {i : Nat} (hi : (keysOf m).findIdx? (fun x => decide (x = k)) = some i) (v : ν) :
    ∃ w', (Instr.entryStore T (.map (some b)) (.int .i64 (i : Nat)) (encV v)).run P w = .ok () w' ∧ MapIs encK encV w' b (mapPut m k v) ∧ w.grownBy w' (some b) := by
  obtain ⟨es, h1, h2⟩ := hm.entries
  obtain ⟨v0, hv, hl⟩ := idx_spec hi
  have hp := put_found hm.nodup hi v
  have hlt : i < m.length := (List.getElem?_eq_some_iff.1 hv).1
  have hsz : es.size = m.length := by rw [← Array.length_toList, h2, entriesOf_length]
  have hes : ∀ j, es[j]? = (m[j]?).map fun x => ({ key := encK x.1, val := encV x.2, born := j } : MapEntry) := fun j => by rw [← Array.getElem?_toList, h2, entriesOf_get]
  have hfi : es.findIdx? (fun e => (e.born : Int) == ((i : Nat) : Int)) = some i := by
    rw [Array.findIdx?_eq_some_iff_getElem]
    have hget : ∀ j (h : j < es.size), es[j].born = j := by
      intro j h
      have := hes j
      rw [Array.getElem?_eq_getElem h, List.getElem?_eq_getElem (by omega)] at this
      rw [Option.some.inj this]
    refine ⟨by omega, by rw [hget]; simp, fun j hj => ?_⟩
    rw [hget]
    simp
    omega
  have hset := entriesOf_set (encK := encK) (encV := encV) m i k v es h2
  have hsame : (es.modify i fun e => { e with val := encV v }) = (es.modify i fun e => { e with key := encK k, val := encV v }) := by
    apply Array.ext_getElem?
    intro j
    rw [Array.getElem?_modify, Array.getElem?_modify]
    by_cases hj : i = j
    · subst hj; rw [if_pos rfl, if_pos rfl, hes, hv]; rfl
    · rw [if_neg hj, if_neg hj]
  refine ⟨{ w with heap := w.heap.setIfInBounds b (.map (es.modify i fun e => { e with key := encK k, val := encV v }) m.length) }, ?_, hm.put_ (nodup_put hm.nodup k v) (by rw [hp]; exact hset) (by rw [hp, List.length_set])⟩
  unfold Instr.entryStore
  simp only [Sem.run_bind, run_getObj h1, Result.andThen_ok, asInt, asIntOf, Sem.run_pure, hfi, hsame, run_setObj h1]
end
theorem put_put [DecidableEq κ] (m : List (κ × ν)) (k : κ) (u v : ν) : mapPut (mapPut m k u) k v = mapPut m k v := by
  have hs : (mapLook (mapPut m k u) k).isSome = true := by
    cases h : mapLook (mapPut m k u) k with
    | some x => rfl
    | none =>
      exfalso
      refine look_none.1 h ?_
      rw [keysOf_put]
      cases hx : mapLook m k with
      | none => rw [if_neg (by simp)]; exact List.mem_append_right _ (List.mem_singleton.2 rfl)
      | some y =>
        rw [if_pos (show (some y).isSome = true from rfl)]
        cases Classical.em (k ∈ keysOf m) with
        | inl h => exact h
        | inr h => rw [look_none.2 h] at hx; cases hx
  unfold mapPut at hs ⊢
  rw [if_pos hs]
  by_cases h : (mapLook m k).isSome = true
  · rw [if_pos h, if_pos h, List.map_map]
    apply List.map_congr_left
    intro x _
    simp only [Function.comp]
    by_cases e : x.1 = k
    · simp [e]
    · simp [e]
  · rw [if_neg h, if_neg h, List.map_append]
    have hk : k ∉ keysOf m := look_none.1 (by cases hx : mapLook m k with | none => rfl | some y => rw [hx] at h; exact absurd rfl h)
    congr 1
    · conv => rhs; rw [← List.map_id m]
      apply List.map_congr_left
      intro x hx
      have : ¬ x.1 = k := fun e => hk (List.mem_map.2 ⟨x, hx, e⟩)
      simp [this]
    · simp
theorem put_look [DecidableEq κ] (m : List (κ × ν)) (k : κ) (u : ν) : mapLook (mapPut m k u) k = some u := by
  unfold mapPut
  by_cases h : (mapLook m k).isSome = true
  · rw [if_pos h]
    unfold mapLook at *
    rw [List.find?_map]
    cases hx : m.find? (fun x => decide (x.1 = k)) with
    | none => rw [hx] at h; cases h
    | some y =>
      have : (fun x : κ × ν => decide ((if x.1 = k then (k, u) else x).1 = k)) = (fun x => decide (x.1 = k)) := by
        funext x
        by_cases e : x.1 = k <;> simp [e]
      have h2 : List.find? ((fun x : κ × ν => decide (x.1 = k)) ∘ fun x => if x.1 = k then (k, u) else x) m = some y := by
        rw [← hx]; exact congrArg (fun f => List.find? f m) this
      rw [h2]
      have hy : y.1 = k := of_decide_eq_true (by have := List.find?_some hx; exact this)
      simp [hy]
  · rw [if_neg h]
    unfold mapLook at *
    rw [List.find?_append]
    cases hx : m.find? (fun x => decide (x.1 = k)) with
    | none => simp
    | some y => rw [hx] at h; exact absurd rfl h

/-- Keys that are whole numbers. -/
theorem find_now_int {q : IntKind} (k : Int) : ∀ (es : List MapEntry) (ks : List Int) (j : Nat), es.map (·.key) = ks.map (fun n => Value.int q n) →
    Instr.findNow (.int q) (.int q k) es j = some ((ks.findIdx? (fun x => decide (x = k))).bind fun i => es[i]?.map fun e => (j + i, e.val)) := by
  intro es
  induction es with
  | nil =>
    intro ks j h
    obtain rfl : ks = [] := by cases ks <;> simp_all
    rfl
  | cons e es ih =>
    intro ks j h
    cases ks with
    | nil => simp at h
    | cons k' ks =>
      simp only [List.map_cons, List.cons.injEq] at h
      unfold Instr.findNow
      rw [h.1]
      simp only [Instr.sameNow, if_true]
      by_cases hk : k = k'
      · subst hk
        simp [List.findIdx?_cons]
      · have hk' : ¬ k' = k := fun e => hk e.symm
        have hb : (k == k') = false := by simpa using hk
        rw [hb]
        simp only [List.findIdx?_cons, decide_eq_false hk', Bool.false_eq_true, if_false]
        rw [ih ks (j + 1) h.2]
        cases ks.findIdx? (fun x => decide (x = k)) with
        | none => rfl
        | some i => simp [Nat.add_assoc, Nat.add_comm 1 i]
theorem key_ok_int {P : Program} {K : TypeId} {q : IntKind} (hK : P.underlying K = some (.int q)) : KeyOk P K (fun n : Int => Value.int q n) where
  check := fun e k w => by unfold Instr.checkKey; simp [Sem.run_bind, run_underlying hK, Result.andThen_ok, Sem.run_pure]
  find := fun k es ks w h => by
    unfold Instr.findKey
    simp only [Sem.run_bind, run_underlying hK, Result.andThen_ok, find_now_int k es ks 0 h, Sem.run_pure]
    simp
  same := fun k => by simp [Instr.sameBits]
end maps

end Go.Proofs.Ytphifpibjgeijaa.F
