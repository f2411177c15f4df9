-- Words for rows, by hand, filled for this seat.
import Derived.Test.YtphifpibjgeijaaProg
import Derived.Below
import Derived.Deep.Draws
import Derived.Deep.AppendLies
import Derived.Maps.AppendAt
import Derived.OwnWalk
import Derived.Laws.BytesArg
import Derived.Laws.MakeOwn
import Derived.Laws.OwnMore
import Derived.Deep.OwnRows
import Derived.Tactics
import Derived.Lib.ConvBytes
import Derived.Laws.Slices
import Derived.WalkKit
import Derived.KernelRfl
import Derived.RowKit3
import Derived.Deep.LoopGhost
import Derived.Deep.QuietTactic
import Derived.BigQuiet
import Derived.WideLaws
import Derived.Deep.DeepCutAuto
import Derived.Deep.CutBlock
import Derived.Deep.RegionHeld3
import Derived.Laws.Rows
import Derived.Lib.AppendStr
import Derived.ArgAppend
import Derived.Laws.IdiomCopy
import Derived.OrdersHeld
import Derived.Laws.BitsLemmas
import Derived.RowKit
import Derived.Test.YtphifpibjgeijaaWWords
import Derived.Test.YtphifpibjgeijaaWLast
import Derived.Test.YtphifpibjgeijaaWTab
import Derived.Test.YtphifpibjgeijaaWFour
import Derived.Test.YtphifpibjgeijaaWQPut
import Derived.Test.YtphifpibjgeijaaWApart
import Derived.Test.YtphifpibjgeijaaWArr
import Derived.Test.YtphifpibjgeijaaWZeros
import Derived.Test.YtphifpibjgeijaaWFoot
import Derived.Test.YtphifpibjgeijaaWKept
import Derived.Test.YtphifpibjgeijaaWShare
import Derived.Test.YtphifpibjgeijaaWN
import Derived.Test.YtphifpibjgeijaaWFootNe
import Derived.Test.YtphifpibjgeijaaWAt
import Derived.Test.YtphifpibjgeijaaWEqStruct
import Derived.Test.YtphifpibjgeijaaWRepsOne
import Derived.Test.YtphifpibjgeijaaWInv
import Derived.Test.YtphifpibjgeijaaWInvWords
import Derived.Test.YtphifpibjgeijaaWGuard
import Derived.Test.YtphifpibjgeijaaWNEv
import Derived.Test.YtphifpibjgeijaaWMore
import Derived.Deep.Slices
namespace Go.Proofs.Ytphifpibjgeijaa.F
open Go.RowKit Go.Proofs.YtphifpibjgeijaaW.PrintWords Go.Proofs.YtphifpibjgeijaaW.PrintLast Go.Proofs.YtphifpibjgeijaaW.PrintMore
/-! What an argument's reading (a row's premise) gives in the print's own kinds: one word a kind. -/
open Go.RowKit Go.Deep

section
variable {α β : Type}
/-- Whatever reads at the type t is an x of kind d of which V holds. -/
structure Opens (P : Program) (t : TypeId) (d : Kd α) (V : α → Prop) : Prop where
  out : ∀ {H : Type} (enc : TypeId × Value → H) (w : World) (base : Nat) (spare : Nat → Bool) (held : Bool) (fuel : Nat) (cs : List Value) (r : DataW H × List MemPlace),
    DataW.trod enc P w base spare held fuel t cs = some r → ∃ x, d.K w x cs ∧ V x
theorem opens_int {P : Program} {t : TypeId} {k : IntKind} (ht : P.underlying t = some (.int k)) : Opens P t (Kd.int k) (fun n => (Lit.int k n).wf = true) := by
  constructor
  intro H enc w base spare held fuel cs r h
  obtain ⟨x, rfl, _, hw⟩ := DataW.trod_int ht h
  exact ⟨x, rfl, hw⟩
theorem opens_bool {P : Program} {t : TypeId} (ht : P.underlying t = some .bool) : Opens P t Kd.bool (fun _ => True) := by
  constructor
  intro H enc w base spare held fuel cs r h
  obtain ⟨x, rfl, _⟩ := DataW.trod_bool ht h
  exact ⟨x, rfl, trivial⟩
theorem opens_string {P : Program} {t : TypeId} (ht : P.underlying t = some .string) : Opens P t Kd.string (fun s => s.size ≤ maxLen) := by
  constructor
  intro H enc w base spare held fuel cs r h
  obtain ⟨x, rfl, _, hm⟩ := DataW.trod_string ht h
  exact ⟨x, rfl, hm⟩
theorem opens_iso {P : Program} {t : TypeId} {d : Kd α} {V : α → Prop} (f : β → α) (g : α → β) (hg : ∀ y, f (g y) = y) (h : Opens P t d V) : Opens P t (Kd.iso d f) (fun x => V (f x)) := by
  constructor
  intro H enc w base spare held fuel cs r hr
  obtain ⟨x, hk, hv⟩ := h.out enc w base spare held fuel cs r hr
  exact ⟨g x, by show d.K w (f (g x)) cs; rw [hg]; exact hk, by show V (f (g x)); rw [hg]; exact hv⟩
theorem add_add_ (a : Addr) (i j : Nat) : (a.add i).add j = a.add (i + j) := by
  unfold Addr.add
  by_cases hi : i = 0 <;> by_cases hj : j = 0 <;> simp [hi, hj, Nat.add_assoc]
theorem opens_slice {P : Program} {t e : TypeId} {d : Kd α} {V : α → Prop} (z : α) (ht : P.underlying t = some (.slice e)) (hc : P.cellsOf e = d.sz) (h : Opens P e d V) :
    Opens P t (Kd.slice e d) (fun xs => xs.length ≤ maxLen ∧ ∀ x ∈ xs, V x) := by
  constructor
  intro H enc w base spare held fuel cs r hr
  haveI : Inhabited α := ⟨z⟩
  rcases open_slice ht hr with ⟨rfl, _⟩ | ⟨a, len, cap, m, n, D, Pl, rfl, hb, hl, hm, hmm, _, hx⟩
  · exact ⟨[], ⟨none, 0, rfl, Nat.le_refl _, Kd.C_nil d w⟩, Nat.zero_le _, fun x hx => by cases hx⟩
  · have hlm : len ≤ m := by rw [hmm]; split <;> omega
    obtain ⟨f, hf⟩ := choose_lt (n := len) (p := fun i x => ∃ c, c.length = d.sz ∧ d.K w x c ∧ V x ∧ ∀ j u, c[j]? = some u → w.cell? (a.add (i * d.sz + j)) = some u) (fun i hi => by
      obtain ⟨cs', h1, h2⟩ := hx i (by omega)
      obtain ⟨x, hk, hv⟩ := h.out enc w base spare held n cs' _ h2
      obtain ⟨_, hl', hcell⟩ := World.cells?_some h1
      rw [hc] at hl' hcell
      refine ⟨x, cs', hl', hk, hv, fun j u hu => ?_⟩
      have hj : j < d.sz := by
        rcases Nat.lt_or_ge j d.sz with hj | hj
        · exact hj
        · rw [List.getElem?_eq_none (by omega)] at hu; cases hu
      have := hcell j hj
      rw [add_add_] at this
      rw [this, hu])
    have hlen : ((List.range len).map f).length = len := by simp
    refine ⟨(List.range len).map f, ⟨some a, cap, by rw [hlen], by rw [hlen]; exact hl, ?_⟩, by rw [hlen]; omega, ?_⟩
    · rw [hlen]
      refine ⟨hlen, ?_, fun _ => ⟨a, rfl, fun j p hp => ?_⟩⟩
      · unfold maxLen at hm; omega
      · have hj : j < len := by
          have := (List.getElem?_eq_some_iff.1 hp).1
          rwa [hlen] at this
        have hpe : f j = p := by
          rw [List.getElem?_map, List.getElem?_range hj] at hp
          exact Option.some.inj hp
        obtain ⟨c, h1, h2, _, h4⟩ := hf j hj
        rw [hpe] at h2
        exact ⟨c, h1, h2, h4⟩
    · intro x hx
      obtain ⟨j, hj, rfl⟩ := List.mem_map.1 hx
      obtain ⟨c, _, _, h3, _⟩ := hf j (List.mem_range.1 hj)
      exact h3
/-- Fields, from a place of a struct's cells on. -/
structure OpensF (P : Program) (fs : List Field) (off : Nat) (d : Kd α) (V : α → Prop) : Prop where
  out : ∀ {H : Type} (enc : TypeId × Value → H) (w : World) (base : Nat) (spare : Nat → Bool) (held : Bool) (fuel : Nat) (cs : List Value),
    cs.length = off + d.sz → (∀ f ∈ fs, ∃ r, DataW.trod enc P w base spare held fuel f.type ((cs.drop f.offset).take (P.cellsOf f.type)) = some r) → ∃ x, d.K w x (cs.drop off) ∧ V x
theorem opensF_one {P : Program} {f : Field} {off : Nat} {d : Kd α} {V : α → Prop} (ho : f.offset = off) (hc : P.cellsOf f.type = d.sz) (h : Opens P f.type d V) : OpensF P [f] off d V := by
  constructor
  intro H enc w base spare held fuel cs hl hr
  obtain ⟨r, hr⟩ := hr f (List.mem_singleton.2 rfl)
  rw [ho, hc, List.take_of_length_le (by rw [List.length_drop]; omega)] at hr
  exact h.out enc w base spare held fuel _ r hr
theorem opensF_cons {P : Program} {f : Field} {fs : List Field} {off : Nat} {d : Kd α} {d' : Kd β} {V : α → Prop} {V' : β → Prop} (ho : f.offset = off) (hc : P.cellsOf f.type = d.sz) (h : Opens P f.type d V) (h' : OpensF P fs (off + d.sz) d' V') :
    OpensF P (f :: fs) off (Kd.pair d d') (fun x => V x.1 ∧ V' x.2) := by
  constructor
  intro H enc w base spare held fuel cs hl hr
  have hl' : cs.length = off + (d.sz + d'.sz) := hl
  obtain ⟨r, hr1⟩ := hr f (List.mem_cons_self ..)
  rw [ho, hc] at hr1
  obtain ⟨x, hk, hv⟩ := h.out enc w base spare held fuel _ r hr1
  obtain ⟨y, hk', hv'⟩ := h'.out enc w base spare held fuel cs (by omega) (fun g hg => hr g (List.mem_cons_of_mem _ hg))
  refine ⟨(x, y), ⟨(cs.drop off).take d.sz, cs.drop (off + d.sz), ?_, hk, hk'⟩, hv, hv'⟩
  rw [← List.drop_drop, List.take_append_drop]
theorem opens_struct {P : Program} {t : TypeId} {fs : Array Field} {d : Kd α} {V : α → Prop} (ht : P.underlying t = some (.struct fs)) (hc : P.cellsOf t = d.sz) (h : OpensF P fs.toList 0 d V) : Opens P t d V := by
  constructor
  intro H enc w base spare held fuel cs r hr
  obtain ⟨xs, n, _, _, hl, hxl, hx⟩ := DataW.trod_struct ht hr
  obtain ⟨x, hk, hv⟩ := h.out enc w base spare held n cs (by omega) (fun f hf => by
    obtain ⟨i, hi, rfl⟩ := List.mem_iff_getElem.1 hf
    have hi' : i < fs.size := by simpa using hi
    have := hx i fs[i] (by simp [hi'])
    rw [List.getElem?_eq_getElem (by omega)] at this
    exact ⟨_, by simpa using this⟩)
  rw [List.drop_zero] at hk
  exact ⟨x, hk, hv⟩
end

end Go.Proofs.Ytphifpibjgeijaa.F
