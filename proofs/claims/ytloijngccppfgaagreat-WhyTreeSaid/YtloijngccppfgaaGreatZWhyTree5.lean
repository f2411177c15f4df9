-- Texts of this seat's, joined.
import Derived.Test.YtloijngccppfgaaGreatZWhyTree4
import Derived.Test.YtloijngccppfgaaGreatZWhyTree1
import Derived.BigRegion
import Derived.WalkSmall
import Derived.Deep.RegionWith
import Derived.Shelf.Abstract
import Derived.Deep.RegionHeld2
import Derived.Deep.DeepCutAuto
import Derived.Deep.CutRange
import Derived.Test.YtloijngccppfgaaGreatZWhyTree2
import Derived.Test.YtloijngccppfgaaGreatProg
import Derived.Below
import Derived.Deep.Draws
import Derived.Deep.AppendLies
import Derived.Maps.AppendAt
import Derived.OwnWalk
import Derived.Laws.BytesArg
import Derived.Laws.MakeOwn
import Derived.Laws.OwnMore
import Derived.Deep.OwnRows
import Derived.Tactics
import Derived.Lib.ConvBytes
import Derived.Laws.Slices
import Derived.WalkKit
import Derived.KernelRfl
import Derived.RowKit3
import Derived.Deep.LoopGhost
import Derived.Deep.QuietTactic
import Derived.BigQuiet
import Derived.WideLaws
import Derived.Deep.CutBlock
import Derived.Deep.RegionHeld3
import Derived.Laws.Rows
import Derived.Lib.AppendStr
import Derived.ArgAppend
import Derived.Laws.IdiomCopy
import Derived.OrdersHeld
import Derived.Laws.BitsLemmas
import Derived.RowKit
import Derived.Test.YtloijngccppfgaaGreatZWhyTree3
import Derived.RangeFuncNested
import Derived.RangeFuncLeaves
import Derived.RegionIn
import Derived.LoopIn
import Derived.TacticsInMore
import Derived.OwnWalkIn
import Derived.Shelf.AbstractIn
import Derived.Lib.SliceRun
section
namespace Go.Proofs.YtloijngccppfgaaGreat.Pure
set_option linter.unusedVariables false
set_option linter.unusedSectionVars false
open Go.RowKit Go.Proofs.YtloijngccppfgaaGreat.F Go.Proofs.YtloijngccppfgaaGreatW.PrintWords Go.Proofs.YtloijngccppfgaaGreatW.PrintLast
theorem rd_item {l : List S39} {i : Nat} (hl : i < l.length) : rd_T39 l (i : Int) = l[i] := by unfold rd_T39; rw [Int.toNat_natCast, List.getD_eq_getElem?_getD, List.getElem?_eq_getElem hl]; rfl
section
variable {Q : S39 → Prop} (hQ : ∀ (x : S39) (m : List Int), Q x → Q ⟨x.f0, x.f1, x.f2, x.f3, x.f4, x.f5, x.f6, m⟩)
 (hN : ∀ (x : S112) (inn alt : Int), fitsS x = true → Q ⟨x.f0, x.f1, x.f3, x.f4, (x.f5.length : Int), inn, alt, []⟩)
def QA (Q : S39 → Prop) (l : List S39) : Prop := ∀ x ∈ l, Q x
theorem QA.snoc {l : List S39} (h : QA Q l) {x : S39} (hx : Q x) : QA Q (l ++ [x]) := by
 intro y hy
 rcases List.mem_append.1 hy with hy | hy
 ·exact h y hy
 ·rw [List.mem_singleton.1 hy]; exact hx
include hQ in
theorem QA.after {l : List S39} (h : QA Q l) (a k : Int) : QA Q (addAfter l a k) := by
 intro y hy
 unfold addAfter at hy
 by_cases hl : a.toNat < l.length
 ·have hr : rd_T39 l a = l[a.toNat] := by unfold rd_T39; rw [List.getD_eq_getElem?_getD, List.getElem?_eq_getElem hl]; rfl
  rcases List.mem_or_eq_of_mem_set hy with hy | hy
  ·exact h y hy
  ·rw [hy]; exact hQ _ _ (by rw [hr]; exact h _ (List.getElem_mem hl))
 ·rw [List.set_eq_of_length_le (by omega)] at hy
  exact h y hy
include hQ in
theorem QA.arcs (b : List S112) (ats : List Int) (a : Int) : ∀ (s : List ByteArray) (l : List S39), QA Q l → QA Q (arcsTo b ats a s l)
 | [], _, h => h
 | x :: s, l, h => by rw [arcsTo]; exact QA.arcs b ats a s _ (QA.after hQ h _ _)
include hQ in
theorem QA.pass2 (b : List S112) (ats : List Int) : ∀ (n : List S112) (i : Nat) (l : List S39), QA Q l → QA Q (F.pass2 b ats i n l)
 | [], _, _, h => h
 | x :: n, i, l, h => by rw [F.pass2]; exact QA.pass2 b ats n (i + 1) _ (QA.arcs hQ _ _ _ _ _ h)
theorem fits_alts {nm un : ByteArray} {af : List ByteArray} {sb vi : Bool} {al : List (SB110 S112)} (h : fitsS ⟨nm, un, af, sb, vi, al⟩ = true) : altsFit al = true ∧ (sb = false → al = []) ∧ (sb = true → 0 < al.length) := by
 unfold fitsS at h
 split at h
 ·cases h
 ·cases sb with
  | true =>
   simp only [if_true, Bool.and_eq_true, decide_eq_true_eq] at h
   exact ⟨h.2.1, fun e => (by cases e), fun _ => h.2.2⟩
  | false =>
   simp only [Bool.false_eq_true, if_false, Bool.and_eq_true, decide_eq_true_eq] at h
   obtain rfl := List.length_eq_zero_iff.1 h.2.1
   exact ⟨by unfold altsFit; rfl, fun _ => rfl, fun e => by cases e⟩
include hQ hN in
mutual
theorem QA.node (inn alt : Int) (out : List S39) (h : QA Q out) : ∀ x : S112, fitsS x = true → QA Q (flNode inn alt out x)
 | ⟨nm, un, af, sb, vi, al⟩, hf => by
  unfold flNode
  exact QA.alts _ _ _ (QA.snoc h (hN ⟨nm, un, af, sb, vi, al⟩ inn alt hf)) al (fits_alts hf).1
theorem QA.nodes (inn alt : Int) (out : List S39) (nums : List Int) (h : QA Q out) : ∀ l : List S112, nodesFit l = true → QA Q (flNodes inn alt out nums l).1
 | [], _ => by simpa [flNodes] using h
 | x :: l, hf => by
  unfold nodesFit at hf
  rw [Bool.and_eq_true] at hf
  unfold flNodes
  exact QA.nodes inn alt _ _ (QA.node inn alt out h x hf.1) l hf.2
theorem QA.body (inn alt : Int) (out : List S39) (h : QA Q out) : ∀ b : SB110 S112, bodyFits b = true → QA Q (flBody inn alt out b)
 | ⟨l⟩, hf => by
  unfold bodyFits at hf
  unfold flBody
  exact QA.pass2 hQ _ _ _ _ _ (QA.nodes inn alt out [] h l hf)
theorem QA.alts (inn alt : Int) (out : List S39) (h : QA Q out) : ∀ l : List (SB110 S112), altsFit l = true → QA Q (flAlts inn alt out l)
 | [], _ => by simpa [flAlts] using h
 | b :: l, hf => by
  unfold altsFit at hf
  rw [Bool.and_eq_true] at hf
  unfold flAlts
  exact QA.alts inn (alt + 1) _ (QA.body inn alt out h b hf.1) l hf.2
end
end
theorem eqAll_get {α β : Type} (p : α → β → Bool) : ∀ (l : List α) (m : List β), eqAll p l m = true → l.length = m.length ∧ ∀ (i : Nat) (h1 : i < l.length) (h2 : i < m.length), p l[i] m[i] = true
 | [], [], _ => ⟨rfl, fun i h1 _ => by simp at h1⟩
 | x :: l, y :: m, h => by
  unfold eqAll at h
  rw [Bool.and_eq_true] at h
  have ih := eqAll_get p l m h.2
  refine ⟨by simp [ih.1], fun i h1 h2 => ?_⟩
  cases i with
  | zero => exact h.1
  | succ i => exact ih.2 i (by simpa using h1) (by simpa using h2)
 | [], _ :: _, h => by unfold eqAll at h; cases h
 | _ :: _, [], h => by unfold eqAll at h; cases h
def ItemQ (x : S39) : Prop := (x.f2 = false → x.f4 = 0) ∧ (x.f2 = true → 1 ≤ x.f4)
theorem right_saga {p : List S39} (h : rightB p = true) : shapedB p = true ∧ checkB (nameP p) (sagaOf p) = true ∧ p.length = (makeL (nameP p) (sagaOf p)).length ∧ ∀ (i : Nat) (h1 : i < p.length) (h2 : i < (makeL (nameP p) (sagaOf p)).length), alikeB p[i] (makeL (nameP p) (sagaOf p))[i] = true := by
 unfold rightB at h
 simp only [Bool.and_eq_true] at h
 exact ⟨h.1, h.2.1, (eqAll_get _ _ _ h.2.2).1, (eqAll_get _ _ _ h.2.2).2⟩
theorem check_fits {nm : ByteArray} {l : List BodyK} (h : checkB nm l = true) : altsFit l = true ∧ 0 < l.length := by
 have h1 := (check_small h).2.2.2.2.2
 unfold checkI at h1
 split at h1
 ·split at h1
  ·omega
  ·split at h1
   ·omega
   ·split at h1
    ·rename_i hb
     unfold bodiesOk at hb
     rw [Bool.and_eq_true, decide_eq_true_eq] at hb
     exact hb
    ·omega
 ·omega
theorem right_items {p : List S39} (h : rightB p = true) (i : Nat) (hi : i < p.length) : ItemQ (rd_T39 p (i : Int)) := by
 obtain ⟨h1, h2, h3, h4⟩ := right_saga h
 have hf := check_fits h2
 have hm : QA ItemQ (makeL (nameP p) (sagaOf p)) := by
  unfold makeL
  refine QA.alts (fun x m hx => hx) (fun x inn alt hx => ?_) 0 0 _ ?_ _ hf.1
  ·obtain ⟨nm, un, af, sb, vi, al⟩ := x
   obtain ⟨-, k1, k2⟩ := fits_alts hx
   refine ⟨fun e => ?_, fun e => ?_⟩
   ·have := k1 e
    simp [this]
   ·have := k2 e
    show 1 ≤ (al.length : Int)
    omega
  ·intro x hx
   rw [List.mem_singleton.1 hx]
   refine ⟨fun e => (by cases e), fun _ => ?_⟩
   show 1 ≤ ((sagaOf p).length : Int)
   omega
 have h5 := h4 i hi (by omega)
 have h6 := hm _ (List.getElem_mem (show i < (makeL (nameP p) (sagaOf p)).length by omega))
 rw [rd_item hi]
 unfold alikeB at h5
 simp only [Bool.and_eq_true, beq_iff_eq, decide_eq_true_eq] at h5
 unfold ItemQ at h6 ⊢
 rw [h5.2.2.1, h5.2.2.2.2.1]
 exact h6
theorem item_in {p : List S39} (h : rightB p = true) (i : Nat) (hi : i < p.length) (h0 : i ≠ 0) : ∃ a k : Nat, (rd_T39 p (i : Int)).f5 = a ∧ (rd_T39 p (i : Int)).f6 = k ∧ a < i ∧ (k : Int) < (rd_T39 p (a : Int)).f4 ∧ (rd_T39 p (a : Int)).f2 = true := by
 obtain ⟨h1, -⟩ := right_saga h
 have h2 := itemB_in (shaped_at h1 hi) h0
 rw [← rd_item hi] at h2
 obtain ⟨a, ha⟩ := Int.eq_ofNat_of_zero_le h2.1
 obtain ⟨k, hk⟩ := Int.eq_ofNat_of_zero_le h2.2.2.1
 rw [ha] at h2
 rw [hk] at h2
 have hal : a < p.length := by omega
 have h3 := right_items h a hal
 refine ⟨a, k, ha, hk, by omega, h2.2.2.2, ?_⟩
 cases hs : (rd_T39 p (a : Int)).f2
 ·have := h3.1 hs
  have := h2.2.2.2
  omega
 ·rfl
theorem item_alts {p : List S39} (h : rightB p = true) (i : Nat) (hi : i < p.length) : ∃ n : Nat, (rd_T39 p (i : Int)).f4 = n ∧ n ≤ 4 := by
 obtain ⟨h1, -⟩ := right_saga h
 have h2 := itemB_alts (shaped_at h1 hi)
 rw [← rd_item hi] at h2
 obtain ⟨n, hn⟩ := Int.eq_ofNat_of_zero_le h2.1
 exact ⟨n, hn, by omega⟩
end Go.Proofs.YtloijngccppfgaaGreat.Pure
end

section
namespace Go.Proofs.YtloijngccppfgaaGreat.F
open Go.RowKit Go.Proofs.YtloijngccppfgaaGreatW.PrintWords Go.Proofs.YtloijngccppfgaaGreatW.PrintLast Go.Proofs.YtloijngccppfgaaGreatW.PrintMore
attribute [local go_sem] max2_int min2_int max_two min_two max_three min_three max_four min_four
set_option linter.unusedVariables false
set_option linter.unusedSimpArgs false
structure Fl where
 cl : Bool
 tc : Bool
 dn : Bool
 sp : Bool
 ha : Bool
 at_ : Int
structure By where
 fa : Bool
 wh : Bool
 cl : Bool
structure St where
 it : Nat → Fl
 bo : Nat → Nat → By
def Fl.v (f : Fl) : Nat → Value
 | 0 => .bool f.cl
 | 1 => .bool f.tc
 | 2 => .bool f.dn
 | 3 => .bool f.sp
 | 4 => .bool f.ha
 | _ => .int .i64 f.at_
def By.v (b : By) : Nat → Value
 | 0 => .bool b.fa
 | 1 => .bool b.wh
 | _ => .bool b.cl
def memOf (pv lv : Value) (s : St) (j : Nat) : Value :=
 if j = 0 then pv else if j = 1 then lv else if j < 386 then (s.it ((j - 2) / 6)).v ((j - 2) % 6) else (s.bo ((j - 386) / 12) ((j - 386) % 12 / 3)).v ((j - 386) % 12 % 3)
def bCells (m : Nat → Value) : Array Value := Array.ofFn (n := 1154) fun j => m j
theorem bCells_at (m : Nat → Value) (j : Nat) (h : j < 1154) : (bCells m)[j]? = some (m j) := by
 unfold bCells
 rw [Array.getElem?_ofFn, dif_pos h]
theorem bCells_set (m : Nat → Value) (j : Nat) (v : Value) : (bCells m).setIfInBounds j v = bCells (fun k => if k = j then v else m k) := by
 apply Array.ext
 ·simp [bCells]
 ·intro k h1 h2
  rw [Array.getElem_setIfInBounds (by simpa using h1)]
  simp only [bCells, Array.getElem_ofFn]
  by_cases h : j = k
  ·rw [if_pos h, if_pos h.symm]
  ·rw [if_neg h, if_neg (fun e => h e.symm)]
theorem bCells_ext {m n : Nat → Value} (h : ∀ j, j < 1154 → m j = n j) : bCells m = bCells n := by
 apply Array.ext
 ·simp [bCells]
 ·intro k h1 h2
  simp only [bCells, Array.getElem_ofFn]
  exact h k (by simpa [bCells] using h1)
def St.setIt (s : St) (i : Nat) (f : Fl) : St := ⟨fun j => if j = i then f else s.it j, s.bo⟩
def St.setBo (s : St) (i k : Nat) (b : By) : St := ⟨s.it, fun j q => if j = i ∧ q = k then b else s.bo j q⟩
def BoardAt (w : World) (g : Nat) (pv lv : Value) (s : St) : Prop := w.heap[g]? = some (.cells (bCells (memOf pv lv s)) 130 (0, 0))
section
variable {w : World} {g : Nat} {pv lv : Value} {s : St}
theorem BoardAt.cell (h : BoardAt w g pv lv s) (j : Nat) (hj : j < 1154) : w.cell? ⟨g, j, none⟩ = some (memOf pv lv s j) := (blk_cell h j).trans (bCells_at _ j hj)
theorem BoardAt.free (h : BoardAt w g pv lv s) (j : Nat) : w.frozen? ⟨g, j, none⟩ = false := blk_frozen h j
theorem memOf_it (i k : Nat) (hi : i < 64) (hk : k < 6) : memOf pv lv s (2 + i * 6 + k) = (s.it i).v k := by
 unfold memOf
 rw [if_neg (by omega), if_neg (by omega), if_pos (by omega), show (2 + i * 6 + k - 2) / 6 = i from by omega, show (2 + i * 6 + k - 2) % 6 = k from by omega]
theorem memOf_bo (i k q : Nat) (hk : k < 4) (hq : q < 3) : memOf pv lv s (386 + i * 12 + k * 3 + q) = (s.bo i k).v q := by
 unfold memOf
 rw [if_neg (by omega), if_neg (by omega), if_neg (by omega), show (386 + i * 12 + k * 3 + q - 386) / 12 = i from by omega, show (386 + i * 12 + k * 3 + q - 386) % 12 / 3 = k from by omega, show (386 + i * 12 + k * 3 + q - 386) % 12 % 3 = q from by omega]
theorem BoardAt.it (h : BoardAt w g pv lv s) (i k : Nat) (hi : i < 64) (hk : k < 6) : w.cell? ⟨g, 2 + i * 6 + k, none⟩ = some ((s.it i).v k) := by
 rw [h.cell _ (by omega), memOf_it i k hi hk]
theorem BoardAt.bo (h : BoardAt w g pv lv s) (i k q : Nat) (hi : i < 64) (hk : k < 4) (hq : q < 3) : w.cell? ⟨g, 386 + i * 12 + k * 3 + q, none⟩ = some ((s.bo i k).v q) := by
 rw [h.cell _ (by omega), memOf_bo i k q hk hq]
theorem BoardAt.put {m : Nat → Value} (h : w.heap[g]? = some (.cells (bCells m) 130 (0, 0))) (j : Nat) (v : Value) : (w.setCell ⟨g, j, none⟩ v).heap[g]? = some (.cells (bCells (fun k => if k = j then v else m k)) 130 (0, 0)) := blk_put h j v (bCells_set m j v)
theorem BoardAt.of {m : Nat → Value} (h : w.heap[g]? = some (.cells (bCells m) 130 (0, 0))) (hm : ∀ j, j < 1154 → m j = memOf pv lv s j) : BoardAt w g pv lv s := by
 unfold BoardAt
 rw [h, bCells_ext hm]
def Fl.set (f : Fl) (k : Nat) (v : Value) : Nat → Value := fun q => if q = k then v else f.v q
theorem BoardAt.putIt (h : BoardAt w g pv lv s) (i k : Nat) (hi : i < 64) (hk : k < 6) (v : Value) (f : Fl) (hf : ∀ q, q < 6 → f.v q = if q = k then v else (s.it i).v q) : BoardAt (w.setCell ⟨g, 2 + i * 6 + k, none⟩ v) g pv lv (s.setIt i f) := by
 refine BoardAt.of (BoardAt.put h _ _) (fun j hj => ?_)
 unfold memOf St.setIt
 dsimp only
 by_cases h0 : j = 0
 ·rw [if_neg (by omega), if_pos h0, if_pos h0]
 by_cases h1 : j = 1
 ·rw [if_neg (by omega), if_neg h0, if_pos h1, if_neg h0, if_pos h1]
 by_cases h2 : j < 386
 ·rw [if_neg h0, if_neg h1, if_pos h2, if_neg h0, if_neg h1, if_pos h2]
  by_cases h3 : (j - 2) / 6 = i
  ·rw [if_pos h3, hf _ (by omega), h3]
   by_cases h4 : j = 2 + i * 6 + k
   ·rw [if_pos h4, if_pos (by omega)]
   ·rw [if_neg h4, if_neg (by omega)]
  ·rw [if_neg h3, if_neg (by omega)]
 ·rw [if_neg (by omega), if_neg h0, if_neg h1, if_neg h2, if_neg h0, if_neg h1, if_neg h2]
theorem BoardAt.putBo (h : BoardAt w g pv lv s) (i k q : Nat) (hi : i < 64) (hk : k < 4) (hq : q < 3) (v : Value) (b : By) (hf : ∀ r, r < 3 → b.v r = if r = q then v else (s.bo i k).v r) : BoardAt (w.setCell ⟨g, 386 + i * 12 + k * 3 + q, none⟩ v) g pv lv (s.setBo i k b) := by
 refine BoardAt.of (BoardAt.put h _ _) (fun j hj => ?_)
 unfold memOf St.setBo
 dsimp only
 by_cases h0 : j = 0
 ·rw [if_neg (by omega), if_pos h0, if_pos h0]
 by_cases h1 : j = 1
 ·rw [if_neg (by omega), if_neg h0, if_pos h1, if_neg h0, if_pos h1]
 by_cases h2 : j < 386
 ·rw [if_neg (by omega), if_neg h0, if_neg h1, if_pos h2, if_neg h0, if_neg h1, if_pos h2]
 ·rw [if_neg h0, if_neg h1, if_neg h2, if_neg h0, if_neg h1, if_neg h2]
  by_cases h3 : (j - 386) / 12 = i ∧ (j - 386) % 12 / 3 = k
  ·rw [if_pos h3, hf _ (by omega), h3.1, h3.2]
   by_cases h4 : j = 386 + i * 12 + k * 3 + q
   ·rw [if_pos h4, if_pos (by omega)]
   ·rw [if_neg h4, if_neg (by omega)]
  ·rw [if_neg h3, if_neg (by omega)]
end
theorem BoardAt.putFl {w : World} {g : Nat} {pv lv : Value} {s : St} (h : BoardAt w g pv lv s) (i : Nat) (hi : i < 64) (f : Fl) : BoardAt ((((((w.setCell ⟨g, 2 + i * 6, none⟩ (.bool f.cl)).setCell ⟨g, 2 + i * 6 + 1, none⟩ (.bool f.tc)).setCell ⟨g, 2 + i * 6 + 2, none⟩ (.bool f.dn)).setCell ⟨g, 2 + i * 6 + 3, none⟩ (.bool f.sp)).setCell ⟨g, 2 + i * 6 + 4, none⟩ (.bool f.ha)).setCell ⟨g, 2 + i * 6 + 5, none⟩ (.int .i64 f.at_)) g pv lv (s.setIt i f) := by
 refine BoardAt.of (BoardAt.put (BoardAt.put (BoardAt.put (BoardAt.put (BoardAt.put (BoardAt.put h _ _) _ _) _ _) _ _) _ _) _ _) (fun j hj => ?_)
 by_cases h3 : 2 ≤ j ∧ (j - 2) / 6 = i
 ·obtain ⟨r, hr, rfl⟩ : ∃ r, r < 6 ∧ j = 2 + i * 6 + r := ⟨(j - 2) % 6, by omega, by omega⟩
  have e : (s.setIt i f).it i = f := by simp [St.setIt]
  rw [memOf_it (s := s.setIt i f) i r hi hr, e]
  match r, hr with
  | 0, _ => simp [Fl.v]
  | 1, _ => simp [Fl.v]
  | 2, _ => simp [Fl.v]
  | 3, _ => simp [Fl.v]
  | 4, _ => simp [Fl.v]
  | 5, _ => simp [Fl.v]
  | r + 6, hr => omega
 ·rw [if_neg (by omega), if_neg (by omega), if_neg (by omega), if_neg (by omega), if_neg (by omega), if_neg (by omega)]
  unfold memOf St.setIt
  dsimp only
  by_cases h0 : j = 0
  ·rw [if_pos h0, if_pos h0]
  by_cases h1 : j = 1
  ·rw [if_neg h0, if_pos h1, if_neg h0, if_pos h1]
  rw [if_neg (show ¬ (j - 2) / 6 = i by omega)]
theorem BoardAt.drew {w : World} {g : Nat} {pv lv : Value} {s : St} (h : BoardAt w g pv lv s) : BoardAt w.drew g pv lv s := blk_drew h
theorem at_letter_ {P : Program} {c : Code} {Q : Exit → Act → World → Prop} {a : Act} {w : World} (S : World → Prop) (hS : S w) (h : ∀ W, S W → c.wp P Q a W) : c.wp P Q a w := h w hS
def stepS (f : S50) : Fl := ⟨f.f0 == 0 || (f.f0 == 3 || f.f3), f.f0 != 0, f.f0 == 2 && f.f1 == 0, false, false, 0⟩
def BoardP (B : Nat) (w w' : World) (g : Nat) (pv lv : Value) (s : St) : Prop := Below B w w' ∧ BoardAt w' g pv lv s
set_option maxHeartbeats 8000000 in
set_option maxRecDepth 100000 in
theorem step_walk (l : List S50) (Al : Option Addr) (cl : Nat) (pv : Value) (s : St) (w0 w : World) (g i : Nat) (hl : Kd.C k50 w0 Al l.length l) (hb : Below w0.heap.size w0 w) (hg : w0.heap.size ≤ g) (hG : BoardAt w g pv (.slice Al l.length cl) s) (hi : i < l.length) (h64 : l.length ≤ 64) :
  Calls Tryz.prog 96 #[.pointer (some ⟨g, 0, none⟩), .int .i64 i] w fun e w' => e = .returned (.tuple #[]) ∧ BoardP w0.heap.size w0 w' g pv (.slice Al l.length cl) (s.setIt i (stepS (rd_T50 l (i : Int)))) := by
 obtain ⟨ad, e0, x0, x1, x2, x3⟩ := at_T50 (Kd.C_below hl hb) (i : Int) (by omega) (by omega)
 subst e0
 rw [Int.toNat_natCast] at x0 x1 x2 x3
 have hlt : (i : Int) < (l.length : Int) := by omega
 have h0 : (0 : Int) ≤ i := by omega
 have h6 : (i : Int) < 64 := by omega
 have y1 : w.cell? ⟨g, 1, none⟩ = some (.slice (some ad) l.length cl) := hG.cell 1 (by omega)
 have HG := Aside0.mk hG
 have HB := Aside0.mk hb
 obtain ⟨⟨a, b, c, d⟩, hf⟩ : ∃ f, rd_T50 l (i : Int) = f := ⟨_, rfl⟩
 rw [hf] at x0 x1 x2 x3 ⊢
 dsimp only at x0 x1 x2 x3
 clear hl hb hG hf
 unfold stepS
 dsimp only
 cases c0 : a == 0
 case' false => cases c3 : a == 3
 all_goals cases c2 : a == 2
 all_goals
  go_enter Tryz.func96, Tryz.ntmps96
  go_wp2
  refine at_letter_ (fun W => Aside0 (Below w0.heap.size w0 W) ∧ Aside0 (BoardAt W g pv (.slice (some ad) l.length cl) s) ∧ Aside0 (W.heap[w.heap.size]? = some (.cells #[.int .i64 a, .int .i64 b, .int .i64 c, .bool d] 50 (0, 0)))) ⟨⟨below_step HB.out ((Below.refl _ _).alloc (Nat.le_refl _) _)⟩, ⟨blk_alloc HG.out _⟩, ⟨blk_new _ _⟩⟩ (fun W ⟨HB2, HG2, HF⟩ => ?_)
  clear y1 x0 x1 x2 x3 HG HB
  generalize w.heap.size = gb at HF ⊢
  have x0 : W.cell? ⟨gb, 0, none⟩ = some (.int .i64 a) := (blk_cell HF.out 0).trans rfl
  have x1 : W.cell? ⟨gb, 1, none⟩ = some (.int .i64 b) := (blk_cell HF.out 1).trans rfl
  have x2 : W.cell? ⟨gb, 2, none⟩ = some (.int .i64 c) := (blk_cell HF.out 2).trans rfl
  have x3 : W.cell? ⟨gb, 3, none⟩ = some (.bool d) := (blk_cell HF.out 3).trans rfl
  have y0 := HG2.out.free (2 + i * 6)
  have y1 := HG2.out.free (2 + i * 6 + 1)
  have y2 := HG2.out.free (2 + i * 6 + 2)
  have y3 := HG2.out.free (2 + i * 6 + 3)
  have y4 := HG2.out.free (2 + i * 6 + 4)
  have y5 := HG2.out.free (2 + i * 6 + 5)
  have z0 := HG2.out.cell (2 + i * 6) (by omega)
  have z1 := HG2.out.cell (2 + i * 6 + 1) (by omega)
  have z2 := HG2.out.cell (2 + i * 6 + 2) (by omega)
  have z3 := HG2.out.cell (2 + i * 6 + 3) (by omega)
  have z4 := HG2.out.cell (2 + i * 6 + 4) (by omega)
  have z5 := HG2.out.cell (2 + i * 6 + 5) (by omega)
  go_region
  refine bodyPost_end (results_none rfl _ _ _) rfl ?_
  exact ⟨rfl, below_drewN (((((((HB2.out.setCell hg _).setCell hg _).setCell hg _).setCell hg _).setCell hg _).setCell hg _)) 1, (HG2.out.putFl i (by omega) ⟨_, _, _, _, _, _⟩).drew⟩
end Go.Proofs.YtloijngccppfgaaGreat.F
end

section
namespace Go.Proofs.YtloijngccppfgaaGreat.F
open Go.RowKit Go.Proofs.YtloijngccppfgaaGreatW.PrintWords Go.Proofs.YtloijngccppfgaaGreatW.PrintLast Go.Proofs.YtloijngccppfgaaGreatW.PrintMore
attribute [local go_sem] max2_int min2_int max_two min_two max_three min_three max_four min_four
set_option linter.unusedVariables false
set_option linter.unusedSimpArgs false
def By.agg (y : By) : Value := .agg #[.bool y.fa, .bool y.wh, .bool y.cl]
theorem dirty_walk (y : By) (w : World) : Calls Tryz.prog 126 (#[y.agg] ++ #[]) w fun e w' => e = .returned (.bool (!y.cl)) ∧ Below w.heap.size w w' := by
 obtain ⟨a, b, c⟩ := y
 show Calls Tryz.prog 126 #[By.agg ⟨a, b, c⟩] w _
 unfold By.agg
 go_enter Tryz.func126, Tryz.ntmps126
 go_wp2
 go_ret
 exact ⟨rfl, below_alloc (Below.refl _ _) _⟩
theorem stays_walk (y : By) (w : World) : Calls Tryz.prog 127 (#[y.agg] ++ #[]) w fun e w' => e = .returned (.bool (!y.fa || !y.cl)) ∧ Below w.heap.size w w' := by
 obtain ⟨a, b, c⟩ := y
 show Calls Tryz.prog 127 #[By.agg ⟨a, b, c⟩] w _
 unfold By.agg
 cases a
 all_goals
  go_enter Tryz.func127, Tryz.ntmps127
  go_wp2
  go_ret
  exact ⟨rfl, below_alloc (Below.refl _ _) _⟩
theorem bel_drew_ {w w' : World} (h : Below w.drew.heap.size w.drew w') : Below w.heap.size w w' := (below_drewN (Below.refl w.heap.size w) 1).trans h
def firstF (pr : By → Bool) (f : Nat → By) : Nat → Nat → Int
 | _, 0 => -1
 | k, d + 1 => if pr (f k) then (k : Int) else firstF pr f (k + 1) d
set_option maxHeartbeats 8000000 in
set_option maxRecDepth 100000 in
theorem first_walk (gf : Nat) (eg : ∀ args w, (callFunc gf args).run Tryz.prog w = .ok (.enter gf args) w) (pr : By → Bool) (hp : ∀ y w, Calls Tryz.prog gf (#[By.agg y] ++ #[]) w fun e w' => e = .returned (.bool (pr y)) ∧ Below w.heap.size w w')
  (p : List S39) (Ap : Option Addr) (cp : Nat) (lv : Value) (s : St) (w : World) (g gb gi i n : Nat) (hr : Kd.C k39 w Ap p.length p) (hG : BoardAt w g (.slice Ap p.length cp) lv s) (hb : w.heap[gb]? = some (.cells #[.pointer (some ⟨g, 0, none⟩)] 77 (0, 0))) (hi : w.heap[gi]? = some (.cells #[.int .i64 i] 3 (0, 0)))
  (hip : i < p.length) (h64 : p.length ≤ 64) (hn : (rd_T39 p (i : Int)).f4 = n) (hn4 : n ≤ 4) :
  Calls Tryz.prog 125 #[.func (.func gf) #[] #[], .pointer (some ⟨gb, 0, none⟩), .pointer (some ⟨gi, 0, none⟩)] w fun e w' => e = .returned (.int .i64 (firstF pr (s.bo i) 0 n)) ∧ Below w.heap.size w w' := by
 obtain ⟨ad, A7, c7, e0, x0, x1, x2, x3, x4, x5, x6, x7, _, _⟩ := at_T39 hr (i : Int) (by omega) (by omega)
 subst e0
 rw [Int.toNat_natCast] at x4
 rw [hn] at x4
 clear x0 x1 x2 x3 x5 x6 x7
 have yb : w.cell? ⟨gb, 0, none⟩ = some (.pointer (some ⟨g, 0, none⟩)) := (blk_cell hb 0).trans rfl
 have yi : w.cell? ⟨gi, 0, none⟩ = some (.int .i64 i) := (blk_cell hi 0).trans rfl
 have y0 : w.cell? ⟨g, 0, none⟩ = some (.slice (some ad) p.length cp) := hG.cell 0 (by omega)
 have HG := Aside0.mk hG
 have HGB := Aside0.mk hb
 have HGI := Aside0.mk hi
 have HP := Aside0.mk hp
 have HN4 := Aside0.mk hn4
 have hlt : (i : Int) < (p.length : Int) := by omega
 have h0 : (0 : Int) ≤ i := by omega
 have h6 : (i : Int) < 64 := by omega
 clear hr hG hb hi hp hn
 go_enter Tryz.func125, Tryz.ntmps125
 go_wp2
 go_region
 go_wp2
 clear x4 y0 yb yi
 go_loopg [15] n (fun kq v15 w' => ∃ k : Nat, k + kq = n ∧ v15 = .int .i64 k ∧ Aside0 (firstF pr (s.bo i) 0 n = firstF pr (s.bo i) k kq) ∧ Aside0 (Below w.heap.size w w'))
 case atStart => exact ⟨0, by omega, rfl, ⟨rfl⟩, ⟨below_drewN (Below.refl _ _) 1⟩⟩
 case round =>
  obtain ⟨k, hk, rfl, HF, HB⟩ := hrel
  have hn4 := HN4.out
  cases gk with
  | zero =>
   obtain rfl : k = n := by omega
   have HE : Aside0 (firstF pr (s.bo i) 0 k = -1) := ⟨HF.out⟩
   clear eg
   go_wp2
   go_ret
   exact ⟨by rw [HE.out]; rfl, HB.out⟩
  | succ d =>
   have hlt2 : (k : Int) < (n : Int) := by omega
   have hk4 : (k : Int) < 4 := by omega
   have hk0 : (0 : Int) ≤ k := by omega
   have yb : wr.cell? ⟨gb, 0, none⟩ = some (.pointer (some ⟨g, 0, none⟩)) := (blk_cell (blk_below HGB.out HB.out) 0).trans rfl
   have yi : wr.cell? ⟨gi, 0, none⟩ = some (.int .i64 i) := (blk_cell (blk_below HGI.out HB.out) 0).trans rfl
   have HG2 : Aside0 (BoardAt wr g (.slice (some ad) p.length cp) lv s) := ⟨blk_below HG.out HB.out⟩
   have z0 : wr.cell? ⟨g, 386 + i * 12 + k * 3, none⟩ = some (.bool (s.bo i k).fa) := HG2.out.bo i k 0 (by omega) (by omega) (by omega)
   have z1 : wr.cell? ⟨g, 386 + i * 12 + k * 3 + 1, none⟩ = some (.bool (s.bo i k).wh) := HG2.out.bo i k 1 (by omega) (by omega) (by omega)
   have z2 : wr.cell? ⟨g, 386 + i * 12 + k * 3 + 2, none⟩ = some (.bool (s.bo i k).cl) := HG2.out.bo i k 2 (by omega) (by omega) (by omega)
   have HK := Aside0.mk hk
   obtain ⟨y, hy⟩ : ∃ y, s.bo i k = y := ⟨_, rfl⟩
   rw [hy] at z0 z1 z2
   have HY := Aside0.mk hy
   obtain ⟨v, hv⟩ : ∃ v, pr y = v := ⟨_, rfl⟩
   have HV := Aside0.mk hv
   have HC : Aside0 (∀ w, Calls Tryz.prog gf (#[.agg #[.bool y.fa, .bool y.wh, .bool y.cl]] ++ #[]) w fun e w' => e = .returned (.bool v) ∧ Below w.heap.size w w') := ⟨fun w => by have := HP.out y w; rw [hv] at this; exact this⟩
   clear hk hy hv
   go_wp2_with (fail)
   clear HGB HGI HP HG2 hn4 HN4
   have HS : Aside0 (firstF pr (s.bo i) 0 n = if v then (k : Int) else firstF pr (s.bo i) (k + 1) d) := ⟨by rw [HF.out, firstF, HY.out, HV.out]⟩
   clear HF HY HV
   cases v
   all_goals go_region_with ((go_at_fn gf; refine (HC.out _).mono ?_; rintro e w2 ⟨rfl, hB2⟩; have HB2 := Aside0.mk (HB.out.trans ((bel_drew_ hB2).mono HB.out.size)); clear hB2))
   all_goals go_wp2
   all_goals first
    | (go_ret; exact ⟨by rw [HS.out]; rfl, HB2.out⟩)
    | (go_roundg d; (case measure => omega); (case rel => exact ⟨k + 1, by have := HK.out; omega, by go_num, ⟨by rw [HS.out]; rfl⟩, ⟨HB2.out⟩⟩))
theorem BoardAt.reIt {w : World} {g : Nat} {pv lv : Value} {s : St} {i : Nat} {f : Fl} (h : BoardAt w g pv lv (s.setIt i f)) (k : Nat) (hi : i < 64) (hk : k < 6) (v : Value) (f' : Fl) (hf : ∀ q, q < 6 → f'.v q = if q = k then v else f.v q) : BoardAt (w.setCell ⟨g, 2 + i * 6 + k, none⟩ v) g pv lv (s.setIt i f') := by
 have h2 := h.putIt i k hi hk v f' (fun q hq => by rw [show (s.setIt i f).it i = f from by simp [St.setIt]]; exact hf q hq)
 have e : (s.setIt i f).setIt i f' = s.setIt i f' := by
  unfold St.setIt
  dsimp only
  congr 1
  funext j
  by_cases h : j = i
  ·rw [if_pos h, if_pos h]
  ·rw [if_neg h, if_neg h, if_neg h]
 rwa [e] at h2
theorem fl6_ {p : Nat → Prop} (h0 : p 0) (h1 : p 1) (h2 : p 2) (h3 : p 3) (h4 : p 4) (h5 : p 5) : ∀ q, q < 6 → p q := fun q hq => by
 match q, hq with
 | 0, _ => exact h0
 | 1, _ => exact h1
 | 2, _ => exact h2
 | 3, _ => exact h3
 | 4, _ => exact h4
 | 5, _ => exact h5
 | q + 6, h => omega
def sagaS (n : Nat) (f : Nat → By) (x : Fl) : Fl :=
 if firstF (fun y => !y.fa || !y.cl) f 0 n < 0 then ⟨decide (firstF (fun y => !y.cl) f 0 n < 0), x.tc, x.dn, true, x.ha, (n : Int) - 1⟩
 else ⟨decide (firstF (fun y => !y.cl) f 0 n < 0), x.tc, (f (firstF (fun y => !y.fa || !y.cl) f 0 n).toNat).wh, false, x.ha, firstF (fun y => !y.fa || !y.cl) f 0 n⟩
theorem firstF_lt (pr : By → Bool) (f : Nat → By) : ∀ (d k : Nat), firstF pr f k d < ((k + d : Nat) : Int) ∧ -1 ≤ firstF pr f k d
 | 0, k => by unfold firstF; omega
 | d + 1, k => by
  have := firstF_lt pr f d (k + 1)
  unfold firstF
  split <;> omega
set_option maxHeartbeats 8000000 in
set_option maxRecDepth 100000 in
theorem saga_walk (p : List S39) (Ap : Option Addr) (cp : Nat) (lv : Value) (s : St) (w0 w : World) (g i n : Nat) (hr : Kd.C k39 w0 Ap p.length p) (hb : Below w0.heap.size w0 w) (hg : w0.heap.size ≤ g) (hG : BoardAt w g (.slice Ap p.length cp) lv s)
  (hip : i < p.length) (h64 : p.length ≤ 64) (hn : (rd_T39 p (i : Int)).f4 = n) (hn4 : n ≤ 4) :
  Calls Tryz.prog 95 #[.pointer (some ⟨g, 0, none⟩), .int .i64 i] w fun e w' => e = .returned (.tuple #[]) ∧ BoardP w0.heap.size w0 w' g (.slice Ap p.length cp) lv (s.setIt i (sagaS n (s.bo i) (s.it i))) := by
 have hmf : ∀ (fn : Fn) (first cap : Array Value) (w : World), (Instr.makeFunc fn first cap).run Tryz.prog w = .ok (.func fn first cap) w := fun _ _ _ _ => rfl
 have eg := enters_of Tryz.func125 (P := Tryz.prog) (f := 125) (by kernel_rfl) rfl
 have E2 := Aside0.mk (enters_of Tryz.func126 (P := Tryz.prog) (f := 126) (by kernel_rfl) rfl)
 have E3 := Aside0.mk (enters_of Tryz.func127 (P := Tryz.prog) (f := 127) (by kernel_rfl) rfl)
 have HR := Aside0.mk hr
 have HN := Aside0.mk hn
 have HIP := Aside0.mk hip
 have H64 := Aside0.mk h64
 have HN4 := Aside0.mk hn4
 have h6 : (i : Int) < 64 := by omega
 have h0 : (0 : Int) ≤ i := by omega
 have HB0 := Aside0.mk hb
 have HG0 := Aside0.mk hG
 clear hr hn hip h64 hn4 hb hG
 go_enter Tryz.func95, Tryz.ntmps95
 go_wp2
 refine at_letter_ (fun W => Aside0 (Below w0.heap.size w0 W) ∧ Aside0 (BoardAt W g (.slice Ap p.length cp) lv s) ∧ Aside0 (W.heap[w.heap.size]? = some (.cells #[.pointer (some ⟨g, 0, none⟩)] 77 (0, 0))) ∧ Aside0 (W.heap[w.heap.size + 1]? = some (.cells #[.int .i64 i] 3 (0, 0))))
  ⟨⟨(HB0.out.alloc HB0.out.size _).alloc (HB0.out.alloc HB0.out.size _).size _⟩, ⟨blk_alloc (blk_alloc HG0.out _) _⟩, ⟨blk_alloc (blk_new _ _) _⟩, ⟨by have h := blk_new (w.alloc (.cells #[.pointer (some ⟨g, 0, none⟩)] 77 (0, 0))) (.cells #[.int .i64 i] 3 (0, 0)); rwa [show (w.alloc (.cells #[.pointer (some ⟨g, 0, none⟩)] 77 (0, 0))).heap.size = w.heap.size + 1 from by simp] at h⟩⟩ (fun W ⟨HB, HG, HGB, HGI⟩ => ?_)
 have HNE : Aside0 (g ≠ w.heap.size ∧ g ≠ w.heap.size + 1) := ⟨by have := blk_lt HG0.out; omega⟩
 clear HB0 HG0
 generalize w.heap.size + 1 = gi at HGI HNE ⊢
 generalize w.heap.size = gb at HGB HNE ⊢
 have yb : W.cell? ⟨gb, 0, none⟩ = some (.pointer (some ⟨g, 0, none⟩)) := (blk_cell HGB.out 0).trans rfl
 have yi : W.cell? ⟨gi, 0, none⟩ = some (.int .i64 i) := (blk_cell HGI.out 0).trans rfl
 have z0 := HG.out.cell (2 + i * 6) (by have := HIP.out; have := H64.out; omega)
 have z3 := HG.out.cell (2 + i * 6 + 3) (by have := HIP.out; have := H64.out; omega)
 have y0 := HG.out.free (2 + i * 6)
 have y3 := HG.out.free (2 + i * 6 + 3)
 go_region
 go_wp2_with (fail)
 clear yb yi z0 z3 y0 y3
 have h64 : i < 64 := by omega
 have HB1 : Aside0 (Below w0.heap.size w0 ((W.setCell ⟨g, 2 + i * 6, none⟩ (.bool true)).setCell ⟨g, 2 + i * 6 + 3, none⟩ (.bool true)).drew) := ⟨below_drewN ((HB.out.setCell hg _).setCell hg _) 1⟩
 have HG1 : Aside0 (BoardAt ((W.setCell ⟨g, 2 + i * 6, none⟩ (.bool true)).setCell ⟨g, 2 + i * 6 + 3, none⟩ (.bool true)).drew g (.slice Ap p.length cp) lv (s.setIt i ⟨true, (s.it i).tc, (s.it i).dn, true, (s.it i).ha, (s.it i).at_⟩)) :=
  ⟨((HG.out.putIt i 0 h64 (by omega) (.bool true) ⟨true, (s.it i).tc, (s.it i).dn, (s.it i).sp, (s.it i).ha, (s.it i).at_⟩ (by exact fl6_ rfl rfl rfl rfl rfl rfl)).reIt 3 h64 (by omega) (.bool true) _ (by exact fl6_ rfl rfl rfl rfl rfl rfl)).drew⟩
 have HGB1 : Aside0 (((W.setCell ⟨g, 2 + i * 6, none⟩ (.bool true)).setCell ⟨g, 2 + i * 6 + 3, none⟩ (.bool true)).drew.heap[gb]? = some (.cells #[.pointer (some ⟨g, 0, none⟩)] 77 (0, 0))) := ⟨blk_drew (blk_far (blk_far HGB.out (fun e => HNE.out.1 e.symm) _) (fun e => HNE.out.1 e.symm) _)⟩
 have HGI1 : Aside0 (((W.setCell ⟨g, 2 + i * 6, none⟩ (.bool true)).setCell ⟨g, 2 + i * 6 + 3, none⟩ (.bool true)).drew.heap[gi]? = some (.cells #[.int .i64 i] 3 (0, 0))) := ⟨blk_drew (blk_far (blk_far HGI.out (fun e => HNE.out.2 e.symm) _) (fun e => HNE.out.2 e.symm) _)⟩
 clear HB HG HGB HGI
 generalize ((W.setCell ⟨g, 2 + i * 6, none⟩ (.bool true)).setCell ⟨g, 2 + i * 6 + 3, none⟩ (.bool true)).drew = W1 at HB1 HG1 HGB1 HGI1 ⊢
 refine (first_walk 126 E2.out (fun y => !y.cl) dirty_walk p Ap cp lv _ W1 g gb gi i n (Kd.C_below HR.out HB1.out) HG1.out HGB1.out HGI1.out HIP.out H64.out HN.out HN4.out).mono ?_
 rintro e w2 ⟨rfl, hb2⟩
 have HB2 := Aside0.mk (HB1.out.trans (hb2.mono HB1.out.size))
 have HG2 : Aside0 (BoardAt w2 g (.slice Ap p.length cp) lv (s.setIt i ⟨true, (s.it i).tc, (s.it i).dn, true, (s.it i).ha, (s.it i).at_⟩)) := ⟨blk_below HG1.out hb2⟩
 have HGB2 := Aside0.mk (blk_below HGB1.out hb2)
 have HGI2 := Aside0.mk (blk_below HGI1.out hb2)
 clear HB1 HG1 HGB1 HGI1 hb2
 show (_ : Act → World → Prop) _ _
 have z0 := HG2.out.cell (2 + i * 6) (by omega)
 have y0 := HG2.out.free (2 + i * 6)
 obtain ⟨n1, hn1⟩ : ∃ n1, firstF (fun y => !y.cl) (s.bo i) 0 n = n1 := ⟨_, rfl⟩
 have HN1 := Aside0.mk hn1
 have hx : firstF (fun y => !y.cl) ((s.setIt i ⟨true, (s.it i).tc, (s.it i).dn, true, (s.it i).ha, (s.it i).at_⟩).bo i) 0 n = n1 := hn1
 rw [hx]
 clear hx hn1
 go_wp2_with (fail)
 generalize hb1 : decide (n1 < 0) = b1
 have HBD1 := Aside0.mk hb1
 clear hb1
 have HB3 : Aside0 (Below w0.heap.size w0 (w2.setCell ⟨g, 2 + i * 6, none⟩ (.bool b1))) := ⟨HB2.out.setCell hg _⟩
 have HG3 : Aside0 (BoardAt (w2.setCell ⟨g, 2 + i * 6, none⟩ (.bool b1)) g (.slice Ap p.length cp) lv (s.setIt i ⟨b1, (s.it i).tc, (s.it i).dn, true, (s.it i).ha, (s.it i).at_⟩)) := ⟨HG2.out.reIt 0 h64 (by omega) (.bool b1) ⟨b1, (s.it i).tc, (s.it i).dn, true, (s.it i).ha, (s.it i).at_⟩ (by exact fl6_ rfl rfl rfl rfl rfl rfl)⟩
 have HGB3 := Aside0.mk (blk_far (p := ⟨g, 2 + i * 6, none⟩) HGB2.out (fun e => HNE.out.1 e.symm) (.bool b1))
 have HGI3 := Aside0.mk (blk_far (p := ⟨g, 2 + i * 6, none⟩) HGI2.out (fun e => HNE.out.2 e.symm) (.bool b1))
 clear HB2 HG2 HGB2 HGI2 z0 y0
 generalize w2.setCell ⟨g, 2 + i * 6, none⟩ (.bool b1) = W3 at HB3 HG3 HGB3 HGI3 ⊢
 refine (first_walk 127 E3.out (fun y => !y.fa || !y.cl) stays_walk p Ap cp lv _ W3 g gb gi i n (Kd.C_below HR.out HB3.out) HG3.out HGB3.out HGI3.out HIP.out H64.out HN.out HN4.out).mono ?_
 rintro e w4 ⟨rfl, hb4⟩
 have HB4 := Aside0.mk (HB3.out.trans (hb4.mono HB3.out.size))
 have HG4 : Aside0 (BoardAt w4 g (.slice Ap p.length cp) lv (s.setIt i ⟨b1, (s.it i).tc, (s.it i).dn, true, (s.it i).ha, (s.it i).at_⟩)) := ⟨blk_below HG3.out hb4⟩
 have HGB4 := Aside0.mk (blk_below HGB3.out hb4)
 have HGI4 := Aside0.mk (blk_below HGI3.out hb4)
 clear HB3 HG3 HGB3 HGI3 hb4
 show (_ : Act → World → Prop) _ _
 have z5 := HG4.out.cell (2 + i * 6 + 5) (by omega)
 have y5 := HG4.out.free (2 + i * 6 + 5)
 have z3 := HG4.out.cell (2 + i * 6 + 3) (by omega)
 have y3 := HG4.out.free (2 + i * 6 + 3)
 obtain ⟨n2, hn2⟩ : ∃ n2, firstF (fun y => !y.fa || !y.cl) (s.bo i) 0 n = n2 := ⟨_, rfl⟩
 have HN2 := Aside0.mk hn2
 have hx : firstF (fun y => !y.fa || !y.cl) ((s.setIt i ⟨b1, (s.it i).tc, (s.it i).dn, true, (s.it i).ha, (s.it i).at_⟩).bo i) 0 n = n2 := hn2
 rw [hx]
 have HL2 := Aside0.mk (hn2 ▸ firstF_lt (fun y => !y.fa || !y.cl) (s.bo i) n 0)
 clear hx hn2
 by_cases hneg : n2 < 0
 ·have HNEG := Aside0.mk hneg
  go_wp2
  refine at_letter_ (fun W => Aside0 (Below w0.heap.size w0 W) ∧ Aside0 (BoardAt W g (.slice Ap p.length cp) lv (s.setIt i ⟨b1, (s.it i).tc, (s.it i).dn, true, (s.it i).ha, n2⟩)) ∧ Aside0 (W.heap[gb]? = some (.cells #[.pointer (some ⟨g, 0, none⟩)] 77 (0, 0))) ∧ Aside0 (W.heap[gi]? = some (.cells #[.int .i64 i] 3 (0, 0))))
   ⟨⟨(HB4.out.setCell hg _).setCell hg _⟩, ⟨(HG4.out.reIt 5 h64 (by omega) (.int .i64 n2) ⟨b1, (s.it i).tc, (s.it i).dn, true, (s.it i).ha, n2⟩ (by exact fl6_ rfl rfl rfl rfl rfl rfl)).reIt 3 h64 (by omega) (.bool true) ⟨b1, (s.it i).tc, (s.it i).dn, true, (s.it i).ha, n2⟩ (by exact fl6_ rfl rfl rfl rfl rfl rfl)⟩, ⟨blk_far (blk_far HGB4.out (fun e => HNE.out.1 e.symm) _) (fun e => HNE.out.1 e.symm) _⟩, ⟨blk_far (blk_far HGI4.out (fun e => HNE.out.2 e.symm) _) (fun e => HNE.out.2 e.symm) _⟩⟩ (fun W5 ⟨HB5, HG5, HGB5, HGI5⟩ => ?_)
  clear HB4 HG4 HGB4 HGI4 z5 y5 z3 y3 HNE
  have yb : W5.cell? ⟨gb, 0, none⟩ = some (.pointer (some ⟨g, 0, none⟩)) := (blk_cell HGB5.out 0).trans rfl
  have yi : W5.cell? ⟨gi, 0, none⟩ = some (.int .i64 i) := (blk_cell HGI5.out 0).trans rfl
  have hip := HIP.out
  obtain ⟨ad, A7, c7, e0, x0, x1, x2, x3, x4, x5, x6, x7, _, _⟩ := at_T39 (Kd.C_below HR.out HB5.out) (i : Int) (by omega) (by omega)
  subst e0
  rw [Int.toNat_natCast, HN.out] at x4
  clear x0 x1 x2 x3 x5 x6 x7
  have y0 : W5.cell? ⟨g, 0, none⟩ = some (.slice (some ad) p.length cp) := HG5.out.cell 0 (by omega)
  have z5 := HG5.out.cell (2 + i * 6 + 5) (by omega)
  have y5 := HG5.out.free (2 + i * 6 + 5)
  have hlt : (i : Int) < (p.length : Int) := by omega
  have hn4 : (n : Int) ≤ 4 := by have := HN4.out; omega
  have hn0 : (0 : Int) ≤ n := by omega
  go_region
  go_wp2
  refine bodyPost_ret (results_none rfl _ _ _) rfl ?_
  have hx : sagaS n (s.bo i) (s.it i) = ⟨b1, (s.it i).tc, (s.it i).dn, true, (s.it i).ha, (n : Int) - 1⟩ := by
   unfold sagaS
   rw [HN2.out, if_pos HNEG.out, HN1.out, HBD1.out]
  rw [hx]
  exact ⟨rfl, below_drewN (HB5.out.setCell hg _) 1, (HG5.out.reIt 5 h64 (by omega) (.int .i64 ((n : Int) - 1)) ⟨b1, (s.it i).tc, (s.it i).dn, true, (s.it i).ha, (n : Int) - 1⟩ (by exact fl6_ rfl rfl rfl rfl rfl rfl)).drew⟩
 ·have HNEG := Aside0.mk hneg
  obtain ⟨k, rfl⟩ := Int.eq_ofNat_of_zero_le (Int.not_lt.1 hneg)
  go_wp2
  refine at_letter_ (fun W => Aside0 (Below w0.heap.size w0 W) ∧ Aside0 (BoardAt W g (.slice Ap p.length cp) lv (s.setIt i ⟨b1, (s.it i).tc, (s.it i).dn, false, (s.it i).ha, (k : Int)⟩)) ∧ Aside0 (W.heap[gb]? = some (.cells #[.pointer (some ⟨g, 0, none⟩)] 77 (0, 0))) ∧ Aside0 (W.heap[gi]? = some (.cells #[.int .i64 i] 3 (0, 0))))
   ⟨⟨(HB4.out.setCell hg _).setCell hg _⟩, ⟨(HG4.out.reIt 5 h64 (by omega) (.int .i64 (k : Int)) ⟨b1, (s.it i).tc, (s.it i).dn, true, (s.it i).ha, (k : Int)⟩ (by exact fl6_ rfl rfl rfl rfl rfl rfl)).reIt 3 h64 (by omega) (.bool false) ⟨b1, (s.it i).tc, (s.it i).dn, false, (s.it i).ha, (k : Int)⟩ (by exact fl6_ rfl rfl rfl rfl rfl rfl)⟩, ⟨blk_far (blk_far HGB4.out (fun e => HNE.out.1 e.symm) _) (fun e => HNE.out.1 e.symm) _⟩, ⟨blk_far (blk_far HGI4.out (fun e => HNE.out.2 e.symm) _) (fun e => HNE.out.2 e.symm) _⟩⟩ (fun W5 ⟨HB5, HG5, HGB5, HGI5⟩ => ?_)
  clear HB4 HG4 HGB4 HGI4 z5 y5 z3 y3 HNE
  have yb : W5.cell? ⟨gb, 0, none⟩ = some (.pointer (some ⟨g, 0, none⟩)) := (blk_cell HGB5.out 0).trans rfl
  have yi : W5.cell? ⟨gi, 0, none⟩ = some (.int .i64 i) := (blk_cell HGI5.out 0).trans rfl
  have hk4 : k < 4 := by have := HL2.out; have := HN4.out; omega
  have y0 : W5.cell? ⟨g, 2 + i * 6 + 5, none⟩ = some (.int .i64 k) := HG5.out.it i 5 h64 (by omega) |>.trans (by simp [St.setIt, Fl.v])
  have yw : W5.cell? ⟨g, 386 + i * 12 + k * 3 + 1, none⟩ = some (.bool (s.bo i k).wh) := HG5.out.bo i k 1 h64 hk4 (by omega)
  have z2 := HG5.out.cell (2 + i * 6 + 2) (by omega)
  have y2 := HG5.out.free (2 + i * 6 + 2)
  have hk0 : (0 : Int) ≤ k := by omega
  have hk5 : (k : Int) < 4 := by omega
  go_region
  refine bodyPost_end (results_none rfl _ _ _) rfl ?_
  have hx : sagaS n (s.bo i) (s.it i) = ⟨b1, (s.it i).tc, (s.bo i k).wh, false, (s.it i).ha, k⟩ := by
   unfold sagaS
   rw [HN2.out, if_neg (by have := HNEG.out; omega), HN1.out, HBD1.out, Int.toNat_natCast]
  rw [hx]
  exact ⟨rfl, below_drewN (HB5.out.setCell hg _) 1, (HG5.out.reIt 2 h64 (by omega) (.bool (s.bo i k).wh) ⟨b1, (s.it i).tc, (s.bo i k).wh, false, (s.it i).ha, k⟩ (by exact fl6_ rfl rfl rfl rfl rfl rfl)).drew⟩
end Go.Proofs.YtloijngccppfgaaGreat.F
end

section
namespace Go.Proofs.YtloijngccppfgaaGreat.F
open Go.RowKit Go.Proofs.YtloijngccppfgaaGreatW.PrintWords Go.Proofs.YtloijngccppfgaaGreatW.PrintLast Go.Proofs.YtloijngccppfgaaGreatW.PrintMore
attribute [local go_sem] max2_int min2_int max_two min_two max_three min_three max_four min_four
set_option linter.unusedVariables false
set_option linter.unusedSimpArgs false
def handB (vi : Bool) (run : Int) (f : Fl) (y : By) : By := ⟨y.fa || (run == 3 || (vi && f.sp)), y.wh && (f.dn || (f.sp && !vi)), y.cl && f.cl⟩
def Fl.touch (x : Fl) (t : Bool) : Fl := ⟨x.cl, x.tc || t, x.dn, x.sp, x.ha, x.at_⟩
def handS (vi : Bool) (run : Int) (f : Fl) (s : St) (j k : Nat) : St := (s.setBo j k (handB vi run f (s.bo j k))).setIt j ((s.it j).touch f.tc)
theorem BoardAt.reBo {w : World} {g : Nat} {pv lv : Value} {s : St} {i k : Nat} {b : By} (h : BoardAt w g pv lv (s.setBo i k b)) (q : Nat) (hi : i < 64) (hk : k < 4) (hq : q < 3) (v : Value) (b' : By) (hf : ∀ r, r < 3 → b'.v r = if r = q then v else b.v r) : BoardAt (w.setCell ⟨g, 386 + i * 12 + k * 3 + q, none⟩ v) g pv lv (s.setBo i k b') := by
 have h2 := h.putBo i k q hi hk hq v b' (fun r hr => by rw [show (s.setBo i k b).bo i k = b from by simp [St.setBo]]; exact hf r hr)
 have e : (s.setBo i k b).setBo i k b' = s.setBo i k b' := by
  unfold St.setBo
  dsimp only
  congr 1
  funext j r
  by_cases h : j = i ∧ r = k
  ·rw [if_pos h, if_pos h]
  ·rw [if_neg h, if_neg h, if_neg h]
 rwa [e] at h2
theorem by3_ {p : Nat → Prop} (h0 : p 0) (h1 : p 1) (h2 : p 2) : ∀ q, q < 3 → p q := fun q hq => by
 match q, hq with
 | 0, _ => exact h0
 | 1, _ => exact h1
 | 2, _ => exact h2
 | q + 3, h => omega
theorem blkB_ (w : World) (o1 o2 : Obj) : ((w.alloc o1).alloc o2).heap[w.heap.size + 1]? = some o2 := by
 have h := blk_new (w.alloc o1) o2
 rwa [show (w.alloc o1).heap.size = w.heap.size + 1 from by simp] at h
def HandI (w0 W : World) (g g4 g5 : Nat) (pv lv : Value) (s : St) (ci cf : Array Value) : Prop := Below w0.heap.size w0 W ∧ BoardAt W g pv lv s ∧ W.heap[g4]? = some (.cells ci 39 (0, 0)) ∧ W.heap[g5]? = some (.cells cf 123 (0, 0)) ∧ g ≠ g4 ∧ g ≠ g5
theorem HandI.put {w0 W : World} {g g4 g5 : Nat} {pv lv : Value} {s s' : St} {ci cf : Array Value} (h : HandI w0 W g g4 g5 pv lv s ci cf) (hg : w0.heap.size ≤ g) (j : Nat) (v : Value) (hs : BoardAt (W.setCell ⟨g, j, none⟩ v) g pv lv s') : HandI w0 (W.setCell ⟨g, j, none⟩ v) g g4 g5 pv lv s' ci cf :=
 ⟨h.1.setCell hg _, hs, blk_far h.2.2.1 (fun e => h.2.2.2.2.1 e.symm) _, blk_far h.2.2.2.1 (fun e => h.2.2.2.2.2 e.symm) _, h.2.2.2.2⟩
theorem HandI.drew {w0 W : World} {g g4 g5 : Nat} {pv lv : Value} {s : St} {ci cf : Array Value} (h : HandI w0 W g g4 g5 pv lv s ci cf) : HandI w0 W.drew g g4 g5 pv lv s ci cf :=
 ⟨below_drewN h.1 1, h.2.1.drew, blk_drew h.2.2.1, blk_drew h.2.2.2.1, h.2.2.2.2⟩
set_option maxHeartbeats 8000000 in
set_option maxRecDepth 100000 in
theorem hand_walk (p : List S39) (Ap : Option Addr) (cp : Nat) (l : List S50) (Al : Option Addr) (cl : Nat) (s : St) (w0 w : World) (g i j k : Nat) (hr : Kd.C k39 w0 Ap p.length p) (hl : Kd.C k50 w0 Al l.length l) (hpl : l.length = p.length) (hb : Below w0.heap.size w0 w) (hg : w0.heap.size ≤ g) (hG : BoardAt w g (.slice Ap p.length cp) (.slice Al l.length cl) s)
  (hip : i < p.length) (h64 : p.length ≤ 64) (hj : (rd_T39 p (i : Int)).f5 = j) (hk : (rd_T39 p (i : Int)).f6 = k) (hj64 : j < 64) (hk4 : k < 4) :
  Calls Tryz.prog 97 #[.pointer (some ⟨g, 0, none⟩), .int .i64 i] w fun e w' => e = .returned (.tuple #[]) ∧ BoardP w0.heap.size w0 w' g (.slice Ap p.length cp) (.slice Al l.length cl) (handS (rd_T39 p (i : Int)).f3 (rd_T50 l (i : Int)).f0 (s.it i) s j k) := by
 obtain ⟨ad, A7, c7, e0, x0, x1, x2, x3, x4, x5, x6, x7, _, _⟩ := at_T39 (Kd.C_below hr hb) (i : Int) (by omega) (by omega)
 obtain ⟨al, e1, _⟩ := at_T50 hl (i : Int) (by omega) (by omega)
 subst e0
 subst e1
 rw [Int.toNat_natCast] at x0 x1 x2 x3 x4 x5 x6 x7
 rw [hj] at x5
 rw [hk] at x6
 obtain ⟨⟨p0, p1, p2, vi, p4, p5, p6, p7⟩, hx⟩ : ∃ x, rd_T39 p (i : Int) = x := ⟨_, rfl⟩
 rw [hx] at x0 x1 x2 x3 x4 x7 ⊢
 dsimp only at x0 x1 x2 x3 x4 x7 ⊢
 clear hj hk hx
 obtain ⟨⟨fcl, ftc, fdn, fsp, fha, fat⟩, hf⟩ : ∃ f, s.it i = f := ⟨_, rfl⟩
 have hi64 : i < 64 := by omega
 have z0 : w.cell? ⟨g, 2 + i * 6, none⟩ = some (.bool fcl) := (hG.it i 0 hi64 (by omega)).trans (by rw [hf]; rfl)
 have z1 : w.cell? ⟨g, 2 + i * 6 + 1, none⟩ = some (.bool ftc) := (hG.it i 1 hi64 (by omega)).trans (by rw [hf]; rfl)
 have z2 : w.cell? ⟨g, 2 + i * 6 + 2, none⟩ = some (.bool fdn) := (hG.it i 2 hi64 (by omega)).trans (by rw [hf]; rfl)
 have z3 : w.cell? ⟨g, 2 + i * 6 + 3, none⟩ = some (.bool fsp) := (hG.it i 3 hi64 (by omega)).trans (by rw [hf]; rfl)
 have z4 : w.cell? ⟨g, 2 + i * 6 + 4, none⟩ = some (.bool fha) := (hG.it i 4 hi64 (by omega)).trans (by rw [hf]; rfl)
 have z5 : w.cell? ⟨g, 2 + i * 6 + 5, none⟩ = some (.int .i64 fat) := (hG.it i 5 hi64 (by omega)).trans (by rw [hf]; rfl)
 have y0 : w.cell? ⟨g, 0, none⟩ = some (.slice (some ad) p.length cp) := hG.cell 0 (by omega)
 rw [hf]
 have HB := Aside0.mk hb
 have HG := Aside0.mk hG
 have HL := Aside0.mk hl
 have HPL := Aside0.mk hpl
 have hlt : (i : Int) < (p.length : Int) := by omega
 have h0 : (0 : Int) ≤ i := by omega
 have h6 : (i : Int) < 64 := by omega
 clear hr hl hb hG hf hpl
 go_enter Tryz.func97, Tryz.ntmps97
 go_wp2_with (fail)
 go_cut [4, 5] (fun v4 v5 wc => ∃ g4 g5, v4 = .pointer (some ⟨g4, 0, none⟩) ∧ v5 = .pointer (some ⟨g5, 0, none⟩) ∧ Aside0 (HandI w0 wc g g4 g5 (.slice (some ad) p.length cp) (.slice (some al) l.length cl) s #[.string p0, .string p1, .bool p2, .bool vi, .int .i64 p4, .int .i64 j, .int .i64 k, .slice A7 p7.length c7] #[.bool fcl, .bool ftc, .bool fdn, .bool fsp, .bool fha, .int .i64 fat]))
 case first =>
  go_region_held2 (fun w' => w'.cell? (ad.add (i * 8)) = some (.string p0) ∧ w'.cell? ⟨(ad.add (i * 8)).block, (ad.add (i * 8)).off + 1, none⟩ = some (.string p1) ∧ w'.cell? ⟨(ad.add (i * 8)).block, (ad.add (i * 8)).off + 2, none⟩ = some (.bool p2) ∧ w'.cell? ⟨(ad.add (i * 8)).block, (ad.add (i * 8)).off + 3, none⟩ = some (.bool vi) ∧ w'.cell? ⟨(ad.add (i * 8)).block, (ad.add (i * 8)).off + 4, none⟩ = some (.int .i64 p4) ∧ w'.cell? ⟨(ad.add (i * 8)).block, (ad.add (i * 8)).off + 5, none⟩ = some (.int .i64 j) ∧ w'.cell? ⟨(ad.add (i * 8)).block, (ad.add (i * 8)).off + 6, none⟩ = some (.int .i64 k) ∧ w'.cell? ⟨(ad.add (i * 8)).block, (ad.add (i * 8)).off + 7, none⟩ = some (.slice A7 p7.length c7) ∧ w'.cell? ⟨g, 2 + i * 6, none⟩ = some (.bool fcl) ∧ w'.cell? ⟨g, 2 + i * 6 + 1, none⟩ = some (.bool ftc) ∧ w'.cell? ⟨g, 2 + i * 6 + 2, none⟩ = some (.bool fdn) ∧ w'.cell? ⟨g, 2 + i * 6 + 3, none⟩ = some (.bool fsp) ∧ w'.cell? ⟨g, 2 + i * 6 + 4, none⟩ = some (.bool fha) ∧ w'.cell? ⟨g, 2 + i * 6 + 5, none⟩ = some (.int .i64 fat) ∧ w'.cell? ⟨g, 0, none⟩ = some (.slice (some ad) p.length cp)) (go_keep) (fail)
  all_goals
   go_wp2
   go_meet
   case rel =>
    have hlt := blk_lt HG.out
    first
    | exact ⟨_, _, rfl, rfl, ⟨⟨below_drewN (below_step HB.out (below_alloc (below_alloc (Below.refl _ _) _) _)) 1, (show BoardAt _ _ _ _ _ from blk_alloc (blk_alloc HG.out _) _).drew, blk_drew (blk_alloc (blk_new _ _) _), blk_drew (blkB_ _ _ _), by omega, by omega⟩⟩⟩
    | exact ⟨_, _, rfl, rfl, ⟨⟨below_drewN (below_step HB.out (below_alloc (below_alloc (Below.refl _ _) _) _)) 1, (show BoardAt _ _ _ _ _ from blk_alloc (blk_alloc HG.out _) _).drew, blk_drew (blkB_ _ _ _), blk_drew (blk_alloc (blk_new _ _) _), by omega, by omega⟩⟩⟩
 case rest =>
  obtain ⟨g4, g5, rfl, rfl, HI⟩ := hcut
  clear x0 x1 x2 x3 x4 x5 x6 x7 z0 z1 z2 z3 z4 z5 y0
  obtain ⟨⟨yfa, ywh, ycl⟩, hy⟩ : ∃ y, s.bo j k = y := ⟨_, rfl⟩
  have HY := Aside0.mk hy
  have HYY := Aside0.mk hy
  have hj6 : (j : Int) < 64 := by omega
  have hj0 : (0 : Int) ≤ j := by omega
  have hk6 : (k : Int) < 4 := by omega
  have hk0 : (0 : Int) ≤ k := by omega
  have x5 : wc.cell? ⟨g4, 5, none⟩ = some (.int .i64 j) := (blk_cell HI.out.2.2.1 5).trans rfl
  have x6 : wc.cell? ⟨g4, 6, none⟩ = some (.int .i64 k) := (blk_cell HI.out.2.2.1 6).trans rfl
  clear hy
  go_wp2_with (fail)
  go_region
  go_upto_region 2 with (fail)
  clear x5 x6
  have y2 : wc.cell? ⟨g, 386 + j * 12 + k * 3 + 2, none⟩ = some (.bool ycl) := (HI.out.2.1.bo j k 2 hj64 hk4 (by omega)).trans (by rw [HY.out]; rfl)
  have ww2 := HI.out.2.1.free (386 + j * 12 + k * 3 + 2)
  have f0 : wc.cell? ⟨g5, 0, none⟩ = some (.bool fcl) := (blk_cell HI.out.2.2.2.1 0).trans rfl
  go_cut [] (fun wc => Aside0 (HandI w0 wc g g4 g5 (.slice (some ad) p.length cp) (.slice (some al) l.length cl) (s.setBo j k ⟨yfa, ywh, ycl && fcl⟩) #[.string p0, .string p1, .bool p2, .bool vi, .int .i64 p4, .int .i64 j, .int .i64 k, .slice A7 p7.length c7] #[.bool fcl, .bool ftc, .bool fdn, .bool fsp, .bool fha, .int .i64 fat]))
  case first =>
   cases ycl
   all_goals
    go_wp2
    go_meet
    case rel => exact ⟨(HI.out.put hg _ _ (HI.out.2.1.putBo j k 2 hj64 hk4 (by omega) (.bool _) ⟨yfa, ywh, _⟩ (by rw [HY.out]; exact by3_ rfl rfl rfl))).drew⟩
  case rest =>
   clear HI y2 ww2 f0 HY
   have HI := hcut
   clear hcut
   have y0 : wc.cell? ⟨g, 386 + j * 12 + k * 3, none⟩ = some (.bool yfa) := (HI.out.2.1.bo j k 0 hj64 hk4 (by omega)).trans (by simp [St.setBo, By.v])
   have ww0 := HI.out.2.1.free (386 + j * 12 + k * 3)
   have f3 : wc.cell? ⟨g5, 3, none⟩ = some (.bool fsp) := (blk_cell HI.out.2.2.2.1 3).trans rfl
   have x3 : wc.cell? ⟨g4, 3, none⟩ = some (.bool vi) := (blk_cell HI.out.2.2.1 3).trans rfl
   have z1 : wc.cell? ⟨g, 1, none⟩ = some (.slice (some al) l.length cl) := HI.out.2.1.cell 1 (by omega)
   have hli : (i : Int) < (l.length : Int) := by have := HPL.out; omega
   obtain ⟨al2, e1, q0, q1, q2, q3⟩ := at_T50 (Kd.C_below HL.out HI.out.1) (i : Int) h0 hli
   obtain rfl := Option.some.inj e1
   rw [Int.toNat_natCast] at q0
   clear q1 q2 q3 e1
   obtain ⟨run, hrun⟩ : ∃ r, (rd_T50 l (i : Int)).f0 = r := ⟨_, rfl⟩
   rw [hrun] at q0
   have HRUN := Aside0.mk hrun
   clear hrun
   go_upto_region 3 with (fail)
   go_cut [] (fun wc => Aside0 (HandI w0 wc g g4 g5 (.slice (some ad) p.length cp) (.slice (some al) l.length cl) (s.setBo j k ⟨yfa || (run == 3 || (vi && fsp)), ywh, ycl && fcl⟩) #[.string p0, .string p1, .bool p2, .bool vi, .int .i64 p4, .int .i64 j, .int .i64 k, .slice A7 p7.length c7] #[.bool fcl, .bool ftc, .bool fdn, .bool fsp, .bool fha, .int .i64 fat]))
   case first =>
    cases yfa
    case' false =>
     cases c3 : run == 3
     case' false => cases vi
    all_goals
     go_wp2
     go_meet
     case rel =>
      (try rw [c3])
      exact ⟨HI.out.put hg _ _ (HI.out.2.1.reBo 0 hj64 hk4 (by omega) (.bool _) ⟨_, ywh, _⟩ (by exact by3_ rfl rfl rfl))⟩
   case rest =>
    clear HI y0 ww0 f3 x3 z1 q0
    have HI := hcut
    clear hcut
    have y1 : wc.cell? ⟨g, 386 + j * 12 + k * 3 + 1, none⟩ = some (.bool ywh) := (HI.out.2.1.bo j k 1 hj64 hk4 (by omega)).trans (by simp [St.setBo, By.v])
    have ww1 := HI.out.2.1.free (386 + j * 12 + k * 3 + 1)
    have f2 : wc.cell? ⟨g5, 2, none⟩ = some (.bool fdn) := (blk_cell HI.out.2.2.2.1 2).trans rfl
    have f3 : wc.cell? ⟨g5, 3, none⟩ = some (.bool fsp) := (blk_cell HI.out.2.2.2.1 3).trans rfl
    have x3 : wc.cell? ⟨g4, 3, none⟩ = some (.bool vi) := (blk_cell HI.out.2.2.1 3).trans rfl
    go_upto_region 4 with (fail)
    go_cut [] (fun wc => Aside0 (HandI w0 wc g g4 g5 (.slice (some ad) p.length cp) (.slice (some al) l.length cl) (s.setBo j k ⟨yfa || (run == 3 || (vi && fsp)), ywh && (fdn || (fsp && !vi)), ycl && fcl⟩) #[.string p0, .string p1, .bool p2, .bool vi, .int .i64 p4, .int .i64 j, .int .i64 k, .slice A7 p7.length c7] #[.bool fcl, .bool ftc, .bool fdn, .bool fsp, .bool fha, .int .i64 fat]))
    case first =>
     cases ywh
     case' true =>
      cases fdn
      case' false => cases fsp
     all_goals
      go_wp2
      go_meet
      case rel => exact ⟨HI.out.put hg _ _ (HI.out.2.1.reBo 1 hj64 hk4 (by omega) (.bool _) ⟨_, _, _⟩ (by exact by3_ rfl rfl rfl))⟩
    case rest =>
     clear HI y1 ww1 f2 f3 x3
     have HI := hcut
     clear hcut
     have x5 : wc.cell? ⟨g4, 5, none⟩ = some (.int .i64 j) := (blk_cell HI.out.2.2.1 5).trans rfl
     have f1 : wc.cell? ⟨g5, 1, none⟩ = some (.bool ftc) := (blk_cell HI.out.2.2.2.1 1).trans rfl
     go_wp2_with (fail)
     go_region
     have v1 : wc.cell? ⟨g, 2 + j * 6 + 1, none⟩ = some (.bool (s.it j).tc) := (HI.out.2.1.it j 1 hj64 (by omega)).trans (by simp [St.setBo, Fl.v])
     have ww1 := HI.out.2.1.free (2 + j * 6 + 1)
     obtain ⟨⟨tcl, ttc, tdn, tsp, tha, tat⟩, ht⟩ : ∃ x, s.it j = x := ⟨_, rfl⟩
     have HT := Aside0.mk ht
     rw [ht] at v1
     clear ht
     have HX : Aside0 (handS vi (rd_T50 l (i : Int)).f0 ⟨fcl, ftc, fdn, fsp, fha, fat⟩ s j k = (s.setBo j k ⟨yfa || (run == 3 || (vi && fsp)), ywh && (fdn || (fsp && !vi)), ycl && fcl⟩).setIt j ⟨tcl, ttc || ftc, tdn, tsp, tha, tat⟩) := ⟨by
      unfold handS handB
      rw [HRUN.out, HYY.out, HT.out]
      rfl⟩
     cases ttc
     all_goals
      go_wp2
      refine bodyPost_end (results_none rfl _ _ _) rfl ?_
      rw [HX.out]
      exact ⟨rfl, below_drewN (HI.out.1.setCell hg _) 1, (HI.out.2.1.putIt j 1 hj64 (by omega) (.bool _) ⟨tcl, _, tdn, tsp, tha, tat⟩ (by rw [show (s.setBo j k _).it j = s.it j from rfl, HT.out]; exact fl6_ rfl rfl rfl rfl rfl rfl)).drew⟩
end Go.Proofs.YtloijngccppfgaaGreat.F
end

section
namespace Go.Proofs.YtloijngccppfgaaGreat.F
open Go.RowKit Go.Proofs.YtloijngccppfgaaGreatW.PrintWords Go.Proofs.YtloijngccppfgaaGreatW.PrintLast Go.Proofs.YtloijngccppfgaaGreatW.PrintMore
attribute [local go_sem] max2_int min2_int max_two min_two max_three min_three max_four min_four
set_option linter.unusedVariables false
set_option linter.unusedSimpArgs false
def fl0 : Fl := ⟨false, false, false, false, false, 0⟩
def stZ : St := ⟨fun _ => fl0, fun _ _ => ⟨false, false, false⟩⟩
theorem zero_board (pv lv : Value) : (Tryz.zeroCells130.setIfInBounds 0 pv).setIfInBounds 1 lv = bCells (memOf pv lv stZ) := by kernel_rfl
def stA : St := ⟨fun _ => fl0, fun _ _ => ⟨false, true, true⟩⟩
def stB (i k : Nat) : St := ⟨fun _ => fl0, fun a b => if a < i ∨ (a = i ∧ b < k) then ⟨false, true, true⟩ else ⟨false, false, false⟩⟩
theorem BoardAt.congr {w : World} {g : Nat} {pv lv : Value} {s s' : St} (h : BoardAt w g pv lv s) (h1 : ∀ i, i < 64 → s.it i = s'.it i) (h2 : ∀ i k, i < 64 → k < 4 → s.bo i k = s'.bo i k) : BoardAt w g pv lv s' := by
 refine BoardAt.of h (fun j hj => ?_)
 unfold memOf
 by_cases h0 : j = 0
 ·rw [if_pos h0, if_pos h0]
 by_cases h3 : j = 1
 ·rw [if_neg h0, if_pos h3, if_neg h0, if_pos h3]
 by_cases h4 : j < 386
 ·rw [if_neg h0, if_neg h3, if_pos h4, if_neg h0, if_neg h3, if_pos h4, h1 _ (by omega)]
 ·rw [if_neg h0, if_neg h3, if_neg h4, if_neg h0, if_neg h3, if_neg h4, h2 _ _ (by omega) (by omega)]
theorem BoardAt.putBy {w : World} {g : Nat} {pv lv : Value} {s : St} (h : BoardAt w g pv lv s) (i k : Nat) (hi : i < 64) (hk : k < 4) (b : By) : BoardAt (((w.setCell ⟨g, 386 + i * 12 + k * 3, none⟩ (.bool b.fa)).setCell ⟨g, 386 + i * 12 + k * 3 + 1, none⟩ (.bool b.wh)).setCell ⟨g, 386 + i * 12 + k * 3 + 2, none⟩ (.bool b.cl)) g pv lv (s.setBo i k b) :=
 ((h.putBo i k 0 hi hk (by omega) (.bool b.fa) ⟨b.fa, (s.bo i k).wh, (s.bo i k).cl⟩ (by exact by3_ rfl rfl rfl)).reBo 1 hi hk (by omega) (.bool b.wh) ⟨b.fa, b.wh, (s.bo i k).cl⟩ (by exact by3_ rfl rfl rfl)).reBo 2 hi hk (by omega) (.bool b.cl) b (by exact by3_ rfl rfl rfl)
theorem stB_zero {w : World} {g : Nat} {pv lv : Value} (h : BoardAt w g pv lv stZ) : BoardAt w g pv lv (stB 0 0) := h.congr (fun _ _ => rfl) (fun i k _ _ => by simp [stB, stZ])
theorem stB_next {w : World} {g : Nat} {pv lv : Value} {i k : Nat} (h : BoardAt w g pv lv ((stB i k).setBo i k ⟨false, true, true⟩)) : BoardAt w g pv lv (stB i (k + 1)) := h.congr (fun _ _ => rfl) (fun a b _ _ => by
 unfold stB St.setBo
 dsimp only
 by_cases h1 : a = i ∧ b = k
 ·rw [if_pos h1, if_pos (by omega)]
 ·rw [if_neg h1]
  by_cases h2 : a < i ∨ (a = i ∧ b < k)
  ·rw [if_pos h2, if_pos (by omega)]
  ·rw [if_neg h2, if_neg (by omega)])
theorem stB_row {w : World} {g : Nat} {pv lv : Value} {i : Nat} (h : BoardAt w g pv lv (stB i 4)) : BoardAt w g pv lv (stB (i + 1) 0) := h.congr (fun _ _ => rfl) (fun a b _ hb => by
 unfold stB
 dsimp only
 by_cases h2 : a < i ∨ (a = i ∧ b < 4)
 ·rw [if_pos h2, if_pos (by omega)]
 ·rw [if_neg h2, if_neg (by omega)])
theorem stB_all {w : World} {g : Nat} {pv lv : Value} (h : BoardAt w g pv lv (stB 64 0)) : BoardAt w g pv lv stA := h.congr (fun _ _ => rfl) (fun a b ha _ => by
 unfold stB stA
 dsimp only
 rw [if_pos (by omega)])
def turnS (p : List S39) (l : List S50) (s : St) (i : Nat) : St :=
 let s1 := if (rd_T39 p (i : Int)).f2 then s.setIt i (sagaS (rd_T39 p (i : Int)).f4.toNat (s.bo i) (s.it i)) else s.setIt i (stepS (rd_T50 l (i : Int)))
 if i = 0 then s1 else handS (rd_T39 p (i : Int)).f3 (rd_T50 l (i : Int)).f0 (s1.it i) s1 (rd_T39 p (i : Int)).f5.toNat (rd_T39 p (i : Int)).f6.toNat
def downS (p : List S39) (l : List S50) : Nat → St → St
 | 0, s => s
 | m + 1, s => downS p l m (turnS p l s m)
def haltF (p : List S39) (s : St) (i : Nat) : Fl := ⟨(s.it i).cl, (s.it i).tc, (s.it i).dn, (s.it i).sp, (s.bo (rd_T39 p (i : Int)).f5.toNat (rd_T39 p (i : Int)).f6.toNat).fa || (s.it (rd_T39 p (i : Int)).f5.toNat).ha, (s.it i).at_⟩
def haltS (p : List S39) (s : St) (i : Nat) : St := if i = 0 then s else s.setIt i (haltF p s i)
def upS (p : List S39) : Nat → Nat → St → St
 | _, 0, s => s
 | i, d + 1, s => upS p (i + 1) d (haltS p s i)
def madeS (p : List S39) (l : List S50) : St := upS p 0 p.length (downS p l p.length stA)
def ShapeP (p : List S39) : Prop := p.length ≤ 64 ∧ ∀ i : Nat, i < p.length → (0 ≤ (rd_T39 p (i : Int)).f4 ∧ (rd_T39 p (i : Int)).f4 ≤ 4) ∧ (i ≠ 0 → 0 ≤ (rd_T39 p (i : Int)).f5 ∧ (rd_T39 p (i : Int)).f5 < i ∧ 0 ≤ (rd_T39 p (i : Int)).f6 ∧ (rd_T39 p (i : Int)).f6 < 4)
def MadeB (w0 : World) (p : List S39) (Ap : Option Addr) (cp : Nat) (l : List S50) (s : St) (w' : World) (g : Nat) : Prop :=
 Below w0.heap.size w0 w' ∧ w0.heap.size ≤ g ∧ ∃ Al cl, BoardAt w' g (.slice Ap p.length cp) (.slice Al l.length cl) s ∧ Kd.F k50 w' (fun k_ => w0.heap.size ≤ k_) Al l.length l
set_option maxHeartbeats 8000000 in
set_option maxRecDepth 100000 in
theorem made_board_walk (p : List S39) (Ap : Option Addr) (cp : Nat) (l : List S50) (A1 : Option Addr) (c1 : Nat) (w : World) (hr : Kd.C k39 w Ap p.length p) (hl : Kd.C k50 w A1 l.length l) (hpl : l.length = p.length) (hs : ShapeP p) :
  Calls Tryz.prog 63 #[.agg #[.slice Ap p.length cp], .slice A1 l.length c1] w fun e w' => ∃ g, e = .returned (.pointer (some ⟨g, 0, none⟩)) ∧ MadeB w p Ap cp l (madeS p l) w' g := by
 have HR := Aside0.mk hr
 have HL := Aside0.mk hl
 have HPL := Aside0.mk hpl
 have HS := Aside0.mk hs
 clear hr hl hpl hs
 go_enter Tryz.func63, Tryz.ntmps63
 go_wp2_with (fail)
 have HCL := Aside0.mk (fun (W : World) (hb : Below w.heap.size w W) => clone_walk A1 c1 l W (Kd.C_below HL.out hb) (by have := HPL.out; have := HS.out.1; omega))
 go_region_held2 (fun w' => w'.cell? ⟨w.heap.size, 0, none⟩ = some (.slice Ap p.length cp)) (first | (go_keep; done) | exact (blk_cell (blk_below (blk_drew (blk_new _ _)) hb2) 0).trans rfl) ((go_at_call 94; refine (HCL.out _ (below_drewN (below_alloc (Below.refl _ _) _) 1)).mono ?_; rintro e w2 ⟨v, rfl, hR2, hb2⟩; obtain ⟨A2, c2, rfl⟩ := Kd.R_slice hR2; have HR2 := Aside0.mk hR2))
 rw [zero_board]
 have HB2 := Aside0.mk ((below_drewN (below_alloc (Below.refl w.heap.size w) (.cells #[.slice Ap p.length cp] 24 (0, 0))) 1).trans (hb2.mono (by simp)))
 have HP2 : Aside0 (w2.heap[w.heap.size]? = some (.cells #[.slice Ap p.length cp] 24 (0, 0))) := ⟨blk_below (blk_drew (blk_new _ _)) hb2⟩
 have HL2 : Aside0 (Kd.C k50 w2 A2 l.length l) := ⟨(Kd.R_reads' HR2.out).2.2⟩
 have HLF2 : Aside0 (Kd.F k50 w2 (fun k_ => w.heap.size ≤ k_) A2 l.length l) := ⟨Kd.F_mono (Kd.R_F (Kd.R_tight rfl HR2.out)) (fun k hk => Nat.le_trans (by simp) (Kd.R_base HR2.out k hk.symm))⟩
 have HR1 : Aside0 (Kd.C k39 w2 Ap p.length p) := ⟨Kd.C_below HR.out HB2.out⟩
 clear hR2 hb2 HCL HL HR
 obtain ⟨W, hW⟩ : ∃ W, W = w2.alloc (.cells (bCells (memOf (.slice Ap p.length cp) (.slice A2 l.length c2) stZ)) 130 (0, 0)) := ⟨_, rfl⟩
 have HBW : Aside0 (Below w2.heap.size w2 W) := ⟨by rw [hW]; exact below_alloc (Below.refl _ _) _⟩
 have HGW : Aside0 (BoardAt W w2.heap.size (.slice Ap p.length cp) (.slice A2 l.length c2) (stB 0 0)) := ⟨stB_zero (by rw [hW]; exact blk_new _ _)⟩
 rw [← hW]
 clear hW
 generalize hg : w2.heap.size = g at HGW ⊢
 go_wp2
 go_loopg [16] 64 (fun kq v16 w' => ∃ i : Nat, i + kq = 64 ∧ v16 = .int .i64 i ∧ Aside0 (Below w2.heap.size w2 w') ∧ Aside0 (BoardAt w' g (.slice Ap p.length cp) (.slice A2 l.length c2) (stB i 0)))
 case atStart => exact ⟨0, by omega, rfl, HBW, HGW⟩
 case round =>
  obtain ⟨i, hi, rfl, HB, HG⟩ := hrel
  cases gk with
  | zero =>
   obtain rfl : i = 64 := by omega
   have HG0 := Aside0.mk (stB_all HG.out)
   have HGE : Aside0 (w2.heap.size ≤ g) := ⟨by omega⟩
   clear HG HBW HGW hg hi
   have hlm : (l.length : Int) ≤ 64 := by have := HPL.out; have := HS.out.1; omega
   go_wp2
   go_loopg [8] l.length (fun kq v8 w' => ∃ s : St, v8 = .int .i64 ((kq : Int) - 1) ∧ Aside0 (kq ≤ l.length) ∧ Aside0 (Below w2.heap.size w2 w') ∧ Aside0 (BoardAt w' g (.slice Ap p.length cp) (.slice A2 l.length c2) s) ∧ Aside0 (downS p l kq s = downS p l l.length stA))
   case atStart => exact ⟨stA, rfl, ⟨Nat.le_refl _⟩, HB, HG0, ⟨rfl⟩⟩
   case round =>
    obtain ⟨s, rfl, HK, HBd, HGd, HD⟩ := hrel
    cases gk with
    | zero =>
     have HD0 : Aside0 (s = downS p l p.length stA) := ⟨by have := HD.out; rw [HPL.out] at this; exact this⟩
     clear HD HG0 HB
     have hn0 : (((0 : Nat) : Int) - 1) = -1 := by omega
     rw [hn0]
     clear hn0
     have yp : wr.cell? ⟨w.heap.size, 0, none⟩ = some (.slice Ap p.length cp) := (blk_cell (blk_below HP2.out HBd.out) 0).trans rfl
     go_wp2
     clear yp
     have hpm : (p.length : Int) ≤ 64 := by have := HS.out.1; omega
     go_loopg [59] p.length (fun kq v59 w' => ∃ (i : Nat) (s : St), i + kq = p.length ∧ v59 = .int .i64 i ∧ Aside0 (Below w2.heap.size w2 w') ∧ Aside0 (BoardAt w' g (.slice Ap p.length cp) (.slice A2 l.length c2) s) ∧ Aside0 (upS p i kq s = madeS p l))
     case atStart => exact ⟨0, s, by omega, rfl, HBd, HGd, ⟨by unfold madeS; rw [HD0.out]⟩⟩
     case round =>
      clear HGd HD0
      obtain ⟨i, s, hi, rfl, HB, HG, HU⟩ := hrel
      cases gk with
      | zero =>
       obtain rfl : i = p.length := by omega
       have HU2 : Aside0 (s = madeS p l) := ⟨HU.out⟩
       go_wp2
       go_ret
       exact ⟨g, rfl, HB2.out.trans (HB.out.mono HB2.out.size), Nat.le_trans HB2.out.size HGE.out, A2, c2, by rw [← HU2.out]; exact HG.out, Kd.F_below HLF2.out HB.out⟩
      | succ d =>
       have hip : i < p.length := by omega
       have hi0 : (0 : Int) ≤ i := by omega
       have hi1 : (i : Int) < (p.length : Int) := by omega
       have hi6 : (i : Int) < 64 := by omega
       have HI := Aside0.mk hi
       have HIP := Aside0.mk hip
       have HU2 : Aside0 (upS p (i + 1) d (haltS p s i) = madeS p l) := ⟨HU.out⟩
       obtain ⟨ad, A7, c7, e0, x0, x1, x2, x3, x4, x5, x6, x7, _, _⟩ := at_T39 (Kd.C_below HR1.out HB.out) (i : Int) hi0 hi1
       subst e0
       rw [Int.toNat_natCast] at x0 x1 x2 x3 x4 x5 x6 x7
       clear hi HU
       by_cases hz : i = 0
       ·have HZ := Aside0.mk hz
        have hmz : ¬ (i : Int) > 0 := by omega
        clear hz
        go_wp2
        go_roundg d
        case measure => omega
        case rel => exact ⟨i + 1, s, by have := HI.out; omega, by go_num, ⟨below_step HB.out (below_alloc (Below.refl _ _) _)⟩, ⟨blk_alloc HG.out _⟩, ⟨by have := HU2.out; unfold haltS at this; rwa [if_pos HZ.out] at this⟩⟩
       ·obtain ⟨q1, q2, q3, q4⟩ := (HS.out.2 i hip).2 hz
        obtain ⟨j, hj⟩ := Int.eq_ofNat_of_zero_le q1
        obtain ⟨k, hk⟩ := Int.eq_ofNat_of_zero_le q3
        rw [hj] at x5
        rw [hk] at x6
        have HH : Aside0 (haltS p s i = s.setIt i ⟨(s.it i).cl, (s.it i).tc, (s.it i).dn, (s.it i).sp, (s.bo j k).fa || (s.it j).ha, (s.it i).at_⟩) := ⟨by unfold haltS haltF; rw [if_neg hz, hj, hk, Int.toNat_natCast, Int.toNat_natCast]⟩
        have hmz : (i : Int) > 0 := by omega
        have hj64 : j < 64 := by omega
        have hk4 : k < 4 := by omega
        clear hj hk q1 q2 q3 q4 hz
        go_wp2_with (fail)
        refine at_letter_ (fun W => Aside0 (Below w2.heap.size w2 W) ∧ Aside0 (BoardAt W g (.slice (some ad) p.length cp) (.slice A2 l.length c2) s) ∧ W.cell? ⟨wr.heap.size, 5, none⟩ = some (.int .i64 j) ∧ W.cell? ⟨wr.heap.size, 6, none⟩ = some (.int .i64 k))
         ⟨⟨below_step HB.out (below_alloc (Below.refl _ _) _)⟩, ⟨blk_alloc HG.out _⟩, (blk_cell (blk_new _ _) 5).trans rfl, (blk_cell (blk_new _ _) 6).trans rfl⟩ (fun W ⟨HB3, HG3, x5, x6⟩ => ?_)
        clear x0 x1 x2 x3 x4 x7 HB HG
        generalize wr.heap.size = gx at x5 x6 ⊢
        have hi64 : i < 64 := by omega
        have hj6 : (j : Int) < 64 := by omega
        have hj0 : (0 : Int) ≤ j := by omega
        have hk6 : (k : Int) < 4 := by omega
        have hk0 : (0 : Int) ≤ k := by omega
        have z0 : W.cell? ⟨g, 386 + j * 12 + k * 3, none⟩ = some (.bool (s.bo j k).fa) := HG3.out.bo j k 0 hj64 hk4 (by omega)
        have z1 : W.cell? ⟨g, 2 + j * 6 + 4, none⟩ = some (.bool (s.it j).ha) := HG3.out.it j 4 hj64 (by omega)
        have z2 := HG3.out.cell (2 + i * 6 + 4) (by omega)
        have y2 := HG3.out.free (2 + i * 6 + 4)
        obtain ⟨fa, hfa⟩ : ∃ b, (s.bo j k).fa = b := ⟨_, rfl⟩
        rw [hfa] at z0
        have HH2 : Aside0 (haltS p s i = s.setIt i ⟨(s.it i).cl, (s.it i).tc, (s.it i).dn, (s.it i).sp, fa || (s.it j).ha, (s.it i).at_⟩) := ⟨by rw [HH.out, hfa]⟩
        clear hfa HH
        cases fa
        all_goals
         go_region
         go_wp2
         go_roundg d
         case measure => omega
         case rel => first | exact ⟨i + 1, s.setIt i ⟨(s.it i).cl, (s.it i).tc, (s.it i).dn, (s.it i).sp, false || (s.it j).ha, (s.it i).at_⟩, by have := HI.out; omega, by go_num, ⟨below_drewN (HB3.out.setCell HGE.out _) 1⟩, ⟨(HG3.out.putIt i 4 hi64 (by omega) (.bool _) ⟨(s.it i).cl, (s.it i).tc, (s.it i).dn, (s.it i).sp, false || (s.it j).ha, (s.it i).at_⟩ (by exact fl6_ rfl rfl rfl rfl rfl rfl)).drew⟩, ⟨by have := HU2.out; rw [HH2.out] at this; exact this⟩⟩ | exact ⟨i + 1, s.setIt i ⟨(s.it i).cl, (s.it i).tc, (s.it i).dn, (s.it i).sp, true || (s.it j).ha, (s.it i).at_⟩, by have := HI.out; omega, by go_num, ⟨below_drewN (HB3.out.setCell HGE.out _) 1⟩, ⟨(HG3.out.putIt i 4 hi64 (by omega) (.bool _) ⟨(s.it i).cl, (s.it i).tc, (s.it i).dn, (s.it i).sp, true || (s.it j).ha, (s.it i).at_⟩ (by exact fl6_ rfl rfl rfl rfl rfl rfl)).drew⟩, ⟨by have := HU2.out; rw [HH2.out] at this; exact this⟩⟩
    | succ m =>
     have hms : m < l.length := by have := HK.out; omega
     have hmp : m < p.length := by have := HPL.out; omega
     rw [show (((m + 1 : Nat) : Int) - 1) = (m : Int) from by omega]
     have hm0 : (0 : Int) ≤ m := by omega
     have hm1 : (m : Int) < (p.length : Int) := by omega
     have hm6 : (m : Int) < 64 := by omega
     have HT : Aside0 (downS p l m (turnS p l s m) = downS p l l.length stA) := ⟨HD.out⟩
     have hsh := HS.out.2 m hmp
     obtain ⟨n, hn⟩ := Int.eq_ofNat_of_zero_le hsh.1.1
     have HN : Aside0 ((rd_T39 p (m : Int)).f4 = n ∧ n ≤ 4) := ⟨hn, by have := hsh.1.2; omega⟩
     obtain ⟨ad, A7, c7, e0, x0, x1, x2, x3, x4, x5, x6, x7, _, _⟩ := at_T39 (Kd.C_below HR1.out HBd.out) (m : Int) hm0 hm1
     subst e0
     rw [Int.toNat_natCast] at x2
     clear x0 x1 x3 x4 x5 x6 x7 hn hsh HD
     have yp : wr.cell? ⟨w.heap.size, 0, none⟩ = some (.slice (some ad) p.length cp) := (blk_cell (blk_below HP2.out HBd.out) 0).trans rfl
     obtain ⟨sub, hsub⟩ : ∃ b, (rd_T39 p (m : Int)).f2 = b := ⟨_, rfl⟩
     rw [hsub] at x2
     have HSUB := Aside0.mk hsub
     have HHM := Aside0.mk (And.intro hms hmp)
     clear hsub
     obtain ⟨s1, hs1⟩ : ∃ s1, (if sub then s.setIt m (sagaS n (s.bo m) (s.it m)) else s.setIt m (stepS (rd_T50 l (m : Int)))) = s1 := ⟨_, rfl⟩
     have HS1 := Aside0.mk hs1
     clear hs1
     by_cases hz : m = 0
     ·have hmz : ¬ (m : Int) > 0 := by omega
      have HZ := Aside0.mk hz
      clear hz
      have HT2 : Aside0 (turnS p l s m = s1) := ⟨by unfold turnS; rw [HSUB.out, HN.out.1, Int.toNat_natCast]; rw [if_pos HZ.out]; exact HS1.out⟩
      cases sub
      all_goals
       go_wp2_with (first
        | (go_at_call 95; refine (saga_walk p (some ad) cp _ s w2 _ g m n HR1.out HBd.out HGE.out HGd.out HHM.out.2 HS.out.1 HN.out.1 HN.out.2).mono ?_; rintro e w3 ⟨rfl, hb3, hG3⟩; have HB3 := Aside0.mk hb3; have HG3 := Aside0.mk hG3; clear hb3 hG3)
        | (go_at_call 96; refine (step_walk l A2 c2 _ s w2 _ g m HL2.out HBd.out HGE.out HGd.out HHM.out.1 (by have := HPL.out; have := HS.out.1; omega)).mono ?_; rintro e w3 ⟨rfl, hb3, hG3⟩; have HB3 := Aside0.mk hb3; have HG3 := Aside0.mk hG3; clear hb3 hG3))
       go_roundg m
       case measure => omega
       case rel => exact ⟨s1, by go_num, ⟨Nat.le_of_lt HHM.out.1⟩, HB3, ⟨by rw [← HS1.out]; exact HG3.out⟩, ⟨by rw [← HT2.out]; exact HT.out⟩⟩
     ·have hmpos : (0 : Int) < m := by omega
      have hsh := HS.out.2 m hmp
      obtain ⟨q1, q2, q3, q4⟩ := hsh.2 hz
      obtain ⟨j, hj⟩ := Int.eq_ofNat_of_zero_le q1
      obtain ⟨k, hk⟩ := Int.eq_ofNat_of_zero_le q3
      have HJ : Aside0 ((rd_T39 p (m : Int)).f5 = j ∧ (rd_T39 p (m : Int)).f6 = k ∧ j < 64 ∧ k < 4) := ⟨hj, hk, by omega, by omega⟩
      have HT2 : Aside0 (turnS p l s m = handS (rd_T39 p (m : Int)).f3 (rd_T50 l (m : Int)).f0 (s1.it m) s1 j k) := ⟨by unfold turnS; rw [HSUB.out, HN.out.1, Int.toNat_natCast, HJ.out.1, HJ.out.2.1, Int.toNat_natCast, Int.toNat_natCast]; rw [if_neg hz]; rw [← HS1.out]⟩
      clear hsh q1 q2 q3 q4 hj hk
      cases sub
      all_goals
       go_wp2_with (first
        | (go_at_call 95; refine (saga_walk p (some ad) cp _ s w2 _ g m n HR1.out HBd.out HGE.out HGd.out HHM.out.2 HS.out.1 HN.out.1 HN.out.2).mono ?_; rintro e w3 ⟨rfl, hb3, hG3⟩; have HB3 := Aside0.mk hb3; have HG3 : Aside0 (BoardAt w3 g (.slice (some ad) p.length cp) (.slice A2 l.length c2) s1) := ⟨by rw [← HS1.out]; exact hG3⟩; clear hb3 hG3)
        | (go_at_call 96; refine (step_walk l A2 c2 _ s w2 _ g m HL2.out HBd.out HGE.out HGd.out HHM.out.1 (by have := HPL.out; have := HS.out.1; omega)).mono ?_; rintro e w3 ⟨rfl, hb3, hG3⟩; have HB3 := Aside0.mk hb3; have HG3 : Aside0 (BoardAt w3 g (.slice (some ad) p.length cp) (.slice A2 l.length c2) s1) := ⟨by rw [← HS1.out]; exact hG3⟩; clear hb3 hG3)
        | (go_at_call 97; refine (hand_walk p (some ad) cp l A2 c2 s1 w2 _ g m j k HR1.out HL2.out HPL.out HB3.out HGE.out HG3.out HHM.out.2 HS.out.1 HJ.out.1 HJ.out.2.1 HJ.out.2.2.1 HJ.out.2.2.2).mono ?_; rintro e w4 ⟨rfl, hb4, hG4⟩; have HB4 := Aside0.mk hb4; have HG4 := Aside0.mk hG4; clear hb4 hG4))
       go_roundg m
       case measure => omega
       case rel => exact ⟨_, by go_num, ⟨Nat.le_of_lt HHM.out.1⟩, HB4, HG4, ⟨by rw [← HT2.out]; exact HT.out⟩⟩
  | succ d =>
   have h64 : (i : Int) < 64 := by omega
   have h0 : (0 : Int) ≤ i := by omega
   have HI := Aside0.mk hi
   have HGE : Aside0 (w2.heap.size ≤ g) := ⟨by omega⟩
   clear hi hg
   go_wp2
   go_loopg [19] 4 (fun kq v19 w' => ∃ k : Nat, k + kq = 4 ∧ v19 = .int .i64 k ∧ Aside0 (Below w2.heap.size w2 w') ∧ Aside0 (BoardAt w' g (.slice Ap p.length cp) (.slice A2 l.length c2) (stB i k)))
   case atStart => exact ⟨0, by omega, rfl, HB, HG⟩
   case round =>
    obtain ⟨k, hk, rfl, HBi, HGi⟩ := hrel
    cases gk with
    | zero =>
     obtain rfl : k = 4 := by omega
     go_wp2
     go_roundg d
     case measure => omega
     case rel => exact ⟨i + 1, by have := HI.out; omega, by go_num, HBi, ⟨stB_row HGi.out⟩⟩
    | succ e =>
     have hk4 : (k : Int) < 4 := by omega
     have hk0 : (0 : Int) ≤ k := by omega
     have hi6 : i < 64 := by omega
     have HK := Aside0.mk hk
     have z0 := HGi.out.cell (386 + i * 12 + k * 3) (by omega)
     have z1 := HGi.out.cell (386 + i * 12 + k * 3 + 1) (by omega)
     have z2 := HGi.out.cell (386 + i * 12 + k * 3 + 2) (by omega)
     have y0 := HGi.out.free (386 + i * 12 + k * 3)
     have y1 := HGi.out.free (386 + i * 12 + k * 3 + 1)
     have y2 := HGi.out.free (386 + i * 12 + k * 3 + 2)
     clear hk
     go_wp2
     go_roundg e
     case measure => omega
     case rel => exact ⟨k + 1, by have := HK.out; omega, by go_num, ⟨((HBi.out.setCell HGE.out _).setCell HGE.out _).setCell HGE.out _⟩, ⟨stB_next (HGi.out.putBy i k hi6 (by omega) ⟨false, true, true⟩)⟩⟩
end Go.Proofs.YtloijngccppfgaaGreat.F
end

section
namespace Go.Proofs.YtloijngccppfgaaGreat.Pure
set_option linter.unusedVariables false
open Go.RowKit Go.Proofs.YtloijngccppfgaaGreat.F Go.Proofs.YtloijngccppfgaaGreatW.PrintWords Go.Proofs.YtloijngccppfgaaGreatW.PrintLast
abbrev I_ (p : List S39) (i : Nat) : S39 := rd_T39 p (i : Int)
abbrev L_ (l : List S50) (i : Nat) : S50 := rd_T50 l (i : Int)
theorem sagaS_tc (n : Nat) (f : Nat → By) (x : Fl) : (sagaS n f x).tc = x.tc := by unfold sagaS; split <;> rfl
theorem sagaS_ha (n : Nat) (f : Nat → By) (x : Fl) : (sagaS n f x).ha = x.ha := by unfold sagaS; split <;> rfl
def kid (p : List S39) (i a k : Nat) : Prop := i ≠ 0 ∧ (I_ p i).f5.toNat = a ∧ (I_ p i).f6.toNat = k
def flLow (t : Bool) : Fl := ⟨false, t, false, false, false, 0⟩
structure DownAt (p : List S39) (l : List S50) (m : Nat) (s : St) : Prop where
 fa : ∀ a k, (s.bo a k).fa = true ↔ ∃ i, m ≤ i ∧ i < p.length ∧ kid p i a k ∧ ((L_ l i).f0 = 3 ∨ ((I_ p i).f3 = true ∧ (s.it i).sp = true))
 cl : ∀ a k, (s.bo a k).cl = true ↔ ∀ i, m ≤ i → i < p.length → kid p i a k → (s.it i).cl = true
 wh : ∀ a k, (s.bo a k).wh = true ↔ ∀ i, m ≤ i → i < p.length → kid p i a k → ((s.it i).dn = true ∨ ((s.it i).sp = true ∧ (I_ p i).f3 = false))
 tc : ∀ a, (a < m ∨ (I_ p a).f2 = true) → ((s.it a).tc = true ↔ ∃ i, m ≤ i ∧ i < p.length ∧ i ≠ 0 ∧ (I_ p i).f5.toNat = a ∧ (s.it i).tc = true)
 step : ∀ i, m ≤ i → i < p.length → (I_ p i).f2 = false → s.it i = stepS (L_ l i)
 saga : ∀ i, m ≤ i → i < p.length → (I_ p i).f2 = true → s.it i = sagaS (I_ p i).f4.toNat (s.bo i) (flLow (s.it i).tc)
 low : ∀ a, a < m → s.it a = flLow (s.it a).tc
def InP (p : List S39) : Prop := ∀ i, i < p.length → i ≠ 0 → (I_ p i).f5.toNat < i ∧ (I_ p (I_ p i).f5.toNat).f2 = true
theorem down_start (p : List S39) (l : List S50) : DownAt p l p.length stA where
 fa := fun a k => ⟨fun h => (by cases h), fun ⟨i, h1, h2, _⟩ => by omega⟩
 cl := fun a k => ⟨fun _ i h1 h2 => by omega, fun _ => rfl⟩
 wh := fun a k => ⟨fun _ i h1 h2 => by omega, fun _ => rfl⟩
 tc := fun a _ => ⟨fun h => (by cases h), fun ⟨i, h1, h2, _⟩ => by omega⟩
 step := fun i h1 h2 => by omega
 saga := fun i h1 h2 => by omega
 low := fun a _ => rfl
def ownF (p : List S39) (l : List S50) (s : St) (m : Nat) : Fl := if (I_ p m).f2 then sagaS (I_ p m).f4.toNat (s.bo m) (s.it m) else stepS (L_ l m)
theorem turn_own (p : List S39) (l : List S50) (s : St) (m : Nat) : turnS p l s m = if m = 0 then s.setIt m (ownF p l s m) else handS (I_ p m).f3 (L_ l m).f0 (ownF p l s m) (s.setIt m (ownF p l s m)) (I_ p m).f5.toNat (I_ p m).f6.toNat := by
 have e : ∀ f : Fl, (s.setIt m f).it m = f := fun f => by unfold St.setIt; exact if_pos rfl
 unfold turnS ownF
 by_cases h : (rd_T39 p (m : Int)).f2 = true
 ·rw [if_pos h, if_pos h]; simp only [e]
 ·rw [if_neg h, if_neg h]; simp only [e]
theorem own_tc {p : List S39} {l : List S50} {s : St} {m : Nat} (h : (I_ p m).f2 = true) : (ownF p l s m).tc = (s.it m).tc := by
 unfold ownF
 rw [if_pos h, sagaS_tc]
theorem own_saga {p : List S39} {l : List S50} {s : St} {m : Nat} (h : (I_ p m).f2 = true) (hl : s.it m = flLow (s.it m).tc) : ownF p l s m = sagaS (I_ p m).f4.toNat (s.bo m) (flLow (s.it m).tc) := by
 unfold ownF
 rw [if_pos h, ← hl]
theorem own_step {p : List S39} {l : List S50} {s : St} {m : Nat} (h : (I_ p m).f2 = false) : ownF p l s m = stepS (L_ l m) := by
 unfold ownF
 rw [if_neg (by simp [h])]
theorem down_last {p : List S39} {l : List S50} {s : St} (h : DownAt p l 1 s) (hn : 0 < p.length) : DownAt p l 0 (turnS p l s 0) := by
 rw [turn_own, if_pos rfl]
 have e0 : ∀ f : Fl, (s.setIt 0 f).it 0 = f := fun f => by unfold St.setIt; simp
 have e1 : ∀ (f : Fl) (i : Nat), i ≠ 0 → (s.setIt 0 f).it i = s.it i := fun f i hi => by unfold St.setIt; exact if_neg hi
 have eb : ∀ (f : Fl), (s.setIt 0 f).bo = s.bo := fun f => rfl
 have hl := h.low 0 (by omega)
 constructor
 ·intro a k
  rw [eb, h.fa a k]
  constructor
  ·rintro ⟨i, h1, h2, h3, h4⟩
   exact ⟨i, by omega, h2, h3, by rw [e1 _ _ h3.1]; exact h4⟩
  ·rintro ⟨i, h1, h2, h3, h4⟩
   have := h3.1
   exact ⟨i, by omega, h2, h3, by rw [e1 _ _ h3.1] at h4; exact h4⟩
 ·intro a k
  rw [eb, h.cl a k]
  constructor
  ·intro g i h1 h2 h3
   have := h3.1
   rw [e1 _ _ h3.1]
   exact g i (by omega) h2 h3
  ·intro g i h1 h2 h3
   have := g i (by omega) h2 h3
   rwa [e1 _ _ h3.1] at this
 ·intro a k
  rw [eb, h.wh a k]
  constructor
  ·intro g i h1 h2 h3
   have := h3.1
   rw [e1 _ _ h3.1]
   exact g i (by omega) h2 h3
  ·intro g i h1 h2 h3
   have := g i (by omega) h2 h3
   rwa [e1 _ _ h3.1] at this
 ·intro a ha
  have ha2 : (I_ p a).f2 = true := by
   rcases ha with ha | ha
   ·omega
   ·exact ha
  have e : ((s.setIt 0 (ownF p l s 0)).it a).tc = (s.it a).tc := by
   by_cases hz : a = 0
   ·subst hz; rw [e0, own_tc ha2]
   ·rw [e1 _ _ hz]
  rw [e, h.tc a (.inr ha2)]
  constructor
  ·rintro ⟨i, h1, h2, h3, h4, h5⟩
   exact ⟨i, by omega, h2, h3, h4, by rw [e1 _ _ h3]; exact h5⟩
  ·rintro ⟨i, h1, h2, h3, h4, h5⟩
   exact ⟨i, by omega, h2, h3, h4, by rw [e1 _ _ h3] at h5; exact h5⟩
 ·intro i h1 h2 h3
  by_cases hz : i = 0
  ·subst hz; rw [e0, own_step h3]
  ·rw [e1 _ _ hz]; exact h.step i (by omega) h2 h3
 ·intro i h1 h2 h3
  rw [eb]
  by_cases hz : i = 0
  ·subst hz; rw [e0, own_tc h3]; exact own_saga h3 hl
  ·rw [e1 _ _ hz]; exact h.saga i (by omega) h2 h3
 ·intro a ha; omega
theorem down_turn {p : List S39} {l : List S50} {s : St} {m : Nat} (hI : InP p) (h : DownAt p l (m + 1) s) (hm : m < p.length) : DownAt p l m (turnS p l s m) := by
 by_cases hz : m = 0
 ·subst hz; exact down_last h hm
 rw [turn_own, if_neg hz]
 obtain ⟨hin1, hin2⟩ := hI m hm hz
 have hl := h.low m (by omega)
 generalize hF : ownF p l s m = F
 generalize ha0 : (I_ p m).f5.toNat = a0 at hin1 hin2 ⊢
 generalize hk0 : (I_ p m).f6.toNat = k0
 have em : (handS (I_ p m).f3 (L_ l m).f0 F (s.setIt m F) a0 k0).it m = F := by
  unfold handS St.setIt St.setBo
  dsimp only
  rw [if_neg (by omega), if_pos rfl]
 have ei : ∀ i, i ≠ m → i ≠ a0 → (handS (I_ p m).f3 (L_ l m).f0 F (s.setIt m F) a0 k0).it i = s.it i := fun i h1 h2 => by
  unfold handS St.setIt St.setBo
  dsimp only
  rw [if_neg h2, if_neg h1]
 have ea : (handS (I_ p m).f3 (L_ l m).f0 F (s.setIt m F) a0 k0).it a0 = (s.it a0).touch F.tc := by
  unfold handS St.setIt St.setBo
  dsimp only
  rw [if_pos rfl, if_neg (by omega)]
 have eb0 : (handS (I_ p m).f3 (L_ l m).f0 F (s.setIt m F) a0 k0).bo a0 k0 = handB (I_ p m).f3 (L_ l m).f0 F (s.bo a0 k0) := by
  unfold handS St.setIt St.setBo
  dsimp only
  rw [if_pos ⟨rfl, rfl⟩]
 have eb : ∀ a k, ¬ (a = a0 ∧ k = k0) → (handS (I_ p m).f3 (L_ l m).f0 F (s.setIt m F) a0 k0).bo a k = s.bo a k := fun a k hn => by
  unfold handS St.setIt St.setBo
  dsimp only
  rw [if_neg hn]
 generalize hS : handS (I_ p m).f3 (L_ l m).f0 F (s.setIt m F) a0 k0 = s' at em ei ea eb0 eb ⊢
 have hkm : kid p m a0 k0 := ⟨hz, ha0, hk0⟩
 have hkm' : ∀ {a k}, kid p m a k → a = a0 ∧ k = k0 := fun hk => ⟨by rw [← hk.2.1, ha0], by rw [← hk.2.2, hk0]⟩
 have eg : ∀ i, m < i → s'.it i = s.it i := fun i hi => ei i (by omega) (by omega)
 constructor
 ·intro a k
  by_cases hak : a = a0 ∧ k = k0
  ·obtain ⟨rfl, rfl⟩ := hak
   rw [eb0]
   unfold handB
   simp only [Bool.or_eq_true, Bool.and_eq_true, beq_iff_eq]
   rw [h.fa a k]
   constructor
   ·rintro (⟨i, h1, h2, h3, h4⟩ | h4)
    ·exact ⟨i, by omega, h2, h3, by rw [eg i (by omega)]; exact h4⟩
    ·exact ⟨m, Nat.le_refl _, hm, hkm, by rw [em]; exact h4⟩
   ·rintro ⟨i, h1, h2, h3, h4⟩
    by_cases him : i = m
    ·subst him
     rw [em] at h4
     exact .inr h4
    ·exact .inl ⟨i, by omega, h2, h3, by rw [eg i (by omega)] at h4; exact h4⟩
  ·rw [eb a k hak, h.fa a k]
   constructor
   ·rintro ⟨i, h1, h2, h3, h4⟩
    exact ⟨i, by omega, h2, h3, by rw [eg i (by omega)]; exact h4⟩
   ·rintro ⟨i, h1, h2, h3, h4⟩
    by_cases him : i = m
    ·subst him; exact absurd (hkm' h3) hak
    ·exact ⟨i, by omega, h2, h3, by rw [eg i (by omega)] at h4; exact h4⟩
 ·intro a k
  by_cases hak : a = a0 ∧ k = k0
  ·obtain ⟨rfl, rfl⟩ := hak
   rw [eb0]
   unfold handB
   simp only [Bool.and_eq_true]
   rw [h.cl a k]
   constructor
   ·rintro ⟨g1, g2⟩ i h1 h2 h3
    by_cases him : i = m
    ·subst him; rw [em]; exact g2
    ·rw [eg i (by omega)]; exact g1 i (by omega) h2 h3
   ·intro g
    refine ⟨fun i h1 h2 h3 => ?_, ?_⟩
    ·have := g i (by omega) h2 h3
     rwa [eg i (by omega)] at this
    ·have := g m (Nat.le_refl _) hm hkm
     rwa [em] at this
  ·rw [eb a k hak, h.cl a k]
   constructor
   ·intro g i h1 h2 h3
    by_cases him : i = m
    ·subst him; exact absurd (hkm' h3) hak
    ·rw [eg i (by omega)]; exact g i (by omega) h2 h3
   ·intro g i h1 h2 h3
    have := g i (by omega) h2 h3
    rwa [eg i (by omega)] at this
 ·intro a k
  by_cases hak : a = a0 ∧ k = k0
  ·obtain ⟨rfl, rfl⟩ := hak
   rw [eb0]
   unfold handB
   simp only [Bool.and_eq_true, Bool.or_eq_true, Bool.not_eq_true']
   rw [h.wh a k]
   constructor
   ·rintro ⟨g1, g2⟩ i h1 h2 h3
    by_cases him : i = m
    ·subst him; rw [em]; exact g2
    ·rw [eg i (by omega)]; exact g1 i (by omega) h2 h3
   ·intro g
    refine ⟨fun i h1 h2 h3 => ?_, ?_⟩
    ·have := g i (by omega) h2 h3
     rwa [eg i (by omega)] at this
    ·have := g m (Nat.le_refl _) hm hkm
     rwa [em] at this
  ·rw [eb a k hak, h.wh a k]
   constructor
   ·intro g i h1 h2 h3
    by_cases him : i = m
    ·subst him; exact absurd (hkm' h3) hak
    ·rw [eg i (by omega)]; exact g i (by omega) h2 h3
   ·intro g i h1 h2 h3
    have := g i (by omega) h2 h3
    rwa [eg i (by omega)] at this
 ·intro a ha
  have ht := h.tc a (by rcases ha with ha | ha; exact .inl (by omega); exact .inr ha)
  by_cases haa : a = a0
  ·subst haa
   rw [ea]
   unfold Fl.touch
   simp only [Bool.or_eq_true]
   rw [ht]
   constructor
   ·rintro (⟨i, h1, h2, h3, h4, h5⟩ | h5)
    ·exact ⟨i, by omega, h2, h3, h4, by rw [eg i (by omega)]; exact h5⟩
    ·exact ⟨m, Nat.le_refl _, hm, hz, ha0, by rw [em]; exact h5⟩
   ·rintro ⟨i, h1, h2, h3, h4, h5⟩
    by_cases him : i = m
    ·subst him; rw [em] at h5; exact .inr h5
    ·exact .inl ⟨i, by omega, h2, h3, h4, by rw [eg i (by omega)] at h5; exact h5⟩
  ·have e : (s'.it a).tc = (s.it a).tc := by
    by_cases ham : a = m
    ·subst ham
     have ha2 : (I_ p a).f2 = true := by
      rcases ha with ha | ha
      ·omega
      ·exact ha
     rw [em, ← hF, own_tc ha2]
    ·rw [ei a ham haa]
   rw [e, ht]
   constructor
   ·rintro ⟨i, h1, h2, h3, h4, h5⟩
    exact ⟨i, by omega, h2, h3, h4, by rw [eg i (by omega)]; exact h5⟩
   ·rintro ⟨i, h1, h2, h3, h4, h5⟩
    by_cases him : i = m
    ·subst him; exact absurd (h4.symm.trans ha0) haa
    ·exact ⟨i, by omega, h2, h3, h4, by rw [eg i (by omega)] at h5; exact h5⟩
 ·intro i h1 h2 h3
  by_cases him : i = m
  ·subst him; rw [em, ← hF, own_step h3]
  ·rw [eg i (by omega)]; exact h.step i (by omega) h2 h3
 ·intro i h1 h2 h3
  have ebi : s'.bo i = s.bo i := by
   funext k
   exact eb i k (by omega)
  rw [ebi]
  by_cases him : i = m
  ·subst him
   have e : F.tc = (s.it i).tc := by rw [← hF, own_tc h3]
   rw [em, e, ← hF]; exact own_saga h3 hl
  ·rw [eg i (by omega)]; exact h.saga i (by omega) h2 h3
 ·intro a ha
  by_cases haa : a = a0
  ·subst haa
   rw [ea]
   have := h.low a (by omega)
   rw [this]
   rfl
  ·rw [ei a (by omega) haa]; exact h.low a (by omega)
theorem down_all {p : List S39} {l : List S50} (hI : InP p) : ∀ (m : Nat) (s : St), m ≤ p.length → DownAt p l m s → DownAt p l 0 (downS p l m s)
 | 0, s, _, h => h
 | m + 1, s, hm, h => by
  unfold downS
  exact down_all hI m _ (by omega) (down_turn hI h (by omega))
def Fl.noHa (f : Fl) : Fl := ⟨f.cl, f.tc, f.dn, f.sp, false, f.at_⟩
theorem up_all (p : List S39) (s0 : St) (hI : InP p) : ∀ (d i : Nat) (s : St), i + d = p.length → s.bo = s0.bo → (∀ j, Fl.noHa (s.it j) = Fl.noHa (s0.it j)) → (∀ j, 0 < j → j < i → (s.it j).ha = ((s.bo (I_ p j).f5.toNat (I_ p j).f6.toNat).fa || (s.it (I_ p j).f5.toNat).ha)) → (s.it 0).ha = (s0.it 0).ha →
  (upS p i d s).bo = s0.bo ∧ (∀ j, Fl.noHa ((upS p i d s).it j) = Fl.noHa (s0.it j)) ∧ (∀ j, 0 < j → j < p.length → ((upS p i d s).it j).ha = (((upS p i d s).bo (I_ p j).f5.toNat (I_ p j).f6.toNat).fa || ((upS p i d s).it (I_ p j).f5.toNat).ha)) ∧ ((upS p i d s).it 0).ha = (s0.it 0).ha
 | 0, i, s, hi, h1, h2, h3, h4 => by
  unfold upS
  exact ⟨h1, h2, fun j a b => h3 j a (by omega), h4⟩
 | d + 1, i, s, hi, h1, h2, h3, h4 => by
  unfold upS
  by_cases hz : i = 0
  ·subst hz
   have e : haltS p s 0 = s := by unfold haltS; exact if_pos rfl
   rw [e]
   exact up_all p s0 hI d 1 s (by omega) h1 h2 (fun j a b => by omega) h4
  ·have e : haltS p s i = s.setIt i (haltF p s i) := by unfold haltS; exact if_neg hz
   rw [e]
   have eii : (s.setIt i (haltF p s i)).it i = haltF p s i := by unfold St.setIt; exact if_pos rfl
   have eij : ∀ j, j ≠ i → (s.setIt i (haltF p s i)).it j = s.it j := fun j hj => by unfold St.setIt; exact if_neg hj
   have eb : (s.setIt i (haltF p s i)).bo = s.bo := rfl
   obtain ⟨hin, -⟩ := hI i (by omega) hz
   refine up_all p s0 hI d (i + 1) _ (by omega) (by rw [eb]; exact h1) (fun j => ?_) (fun j a b => ?_) ?_
   ·by_cases hj : j = i
    ·subst hj
     rw [eii, ← h2 j]
     rfl
    ·rw [eij j hj]; exact h2 j
   ·by_cases hj : j = i
    ·subst hj
     rw [eii, eb, eij _ (by omega)]
     rfl
    ·obtain ⟨hin2, -⟩ := hI j (by omega) (by omega)
     rw [eij j hj, eb, eij _ (by omega)]
     exact h3 j a (by omega)
   ·rw [eij 0 (fun h => hz h.symm)]; exact h4
structure MadeAt (p : List S39) (l : List S50) (s : St) : Prop where
 fa : ∀ a k, (s.bo a k).fa = true ↔ ∃ i, i < p.length ∧ kid p i a k ∧ ((L_ l i).f0 = 3 ∨ ((I_ p i).f3 = true ∧ (s.it i).sp = true))
 cl : ∀ a k, (s.bo a k).cl = true ↔ ∀ i, i < p.length → kid p i a k → (s.it i).cl = true
 wh : ∀ a k, (s.bo a k).wh = true ↔ ∀ i, i < p.length → kid p i a k → ((s.it i).dn = true ∨ ((s.it i).sp = true ∧ (I_ p i).f3 = false))
 tc : ∀ a, (I_ p a).f2 = true → ((s.it a).tc = true ↔ ∃ i, i < p.length ∧ i ≠ 0 ∧ (I_ p i).f5.toNat = a ∧ (s.it i).tc = true)
 step : ∀ i, i < p.length → (I_ p i).f2 = false → Fl.noHa (s.it i) = stepS (L_ l i)
 saga : ∀ i, i < p.length → (I_ p i).f2 = true → Fl.noHa (s.it i) = sagaS (I_ p i).f4.toNat (s.bo i) (flLow (s.it i).tc)
 ha0 : (s.it 0).ha = false
 ha : ∀ j, 0 < j → j < p.length → (s.it j).ha = ((s.bo (I_ p j).f5.toNat (I_ p j).f6.toNat).fa || (s.it (I_ p j).f5.toNat).ha)
theorem own_ha {p : List S39} {l : List S50} {s : St} (h : DownAt p l 0 s) {i : Nat} (hi : i < p.length) : (s.it i).ha = false := by
 cases hs : (I_ p i).f2
 ·rw [h.step i (by omega) hi hs]; rfl
 ·rw [h.saga i (by omega) hi hs, sagaS_ha]; rfl
theorem made_all {p : List S39} {l : List S50} (hn : 0 < p.length) (hI : InP p) : MadeAt p l (madeS p l) := by
 have h0 := down_all hI p.length stA (Nat.le_refl _) (down_start p l)
 unfold madeS
 generalize downS p l p.length stA = s0 at h0
 obtain ⟨h1, h2, h3, h4⟩ := up_all p s0 hI p.length 0 s0 (by omega) rfl (fun _ => rfl) (fun j a b => by omega) rfl
 generalize upS p 0 p.length s0 = s at h1 h2 h3 h4 ⊢
 have ecl : ∀ j, (s.it j).cl = (s0.it j).cl := fun j => (show (Fl.noHa (s.it j)).cl = (Fl.noHa (s0.it j)).cl by rw [h2 j])
 have etc : ∀ j, (s.it j).tc = (s0.it j).tc := fun j => (show (Fl.noHa (s.it j)).tc = (Fl.noHa (s0.it j)).tc by rw [h2 j])
 have edn : ∀ j, (s.it j).dn = (s0.it j).dn := fun j => (show (Fl.noHa (s.it j)).dn = (Fl.noHa (s0.it j)).dn by rw [h2 j])
 have esp : ∀ j, (s.it j).sp = (s0.it j).sp := fun j => (show (Fl.noHa (s.it j)).sp = (Fl.noHa (s0.it j)).sp by rw [h2 j])
 have hno : ∀ i, i < p.length → Fl.noHa (s0.it i) = s0.it i := fun i hi => by
  have := own_ha h0 hi
  unfold Fl.noHa
  rw [← this]
 constructor
 ·intro a k
  rw [h1, h0.fa a k]
  simp only [esp, Nat.zero_le, true_and]
 ·intro a k
  rw [h1, h0.cl a k]
  simp only [ecl, Nat.zero_le, true_implies]
 ·intro a k
  rw [h1, h0.wh a k]
  simp only [edn, esp, Nat.zero_le, true_implies]
 ·intro a ha
  rw [etc, h0.tc a (.inr ha)]
  simp only [etc, Nat.zero_le, true_and]
 ·intro i hi hs
  rw [h2, hno i hi]; exact h0.step i (by omega) hi hs
 ·intro i hi hs
  rw [h2, hno i hi, h1, etc]; exact h0.saga i (by omega) hi hs
 ·rw [h4]; exact own_ha h0 hn
 ·exact h3
end Go.Proofs.YtloijngccppfgaaGreat.Pure
end

section
namespace Go.Proofs.YtloijngccppfgaaGreat.F
open Go.RowKit Go.Proofs.YtloijngccppfgaaGreatW.PrintWords Go.Proofs.YtloijngccppfgaaGreatW.PrintLast Go.Proofs.YtloijngccppfgaaGreatW.PrintMore
attribute [local go_sem] max2_int min2_int max_two min_two max_three min_three max_four min_four
set_option linter.unusedVariables false
set_option linter.unusedSimpArgs false
structure BdAt (w : World) (g : Nat) (p : List S39) (Ap : Option Addr) (cp : Nat) (l : List S50) (Al : Option Addr) (cl : Nat) (s : St) : Prop where
 bd : BoardAt w g (.slice Ap p.length cp) (.slice Al l.length cl) s
 pl : Kd.C k39 w Ap p.length p
 fl : Kd.C k50 w Al l.length l
 len : l.length = p.length
 few : p.length ≤ 64
theorem BdAt.below {w w' : World} {g : Nat} {p : List S39} {Ap : Option Addr} {cp : Nat} {l : List S50} {Al : Option Addr} {cl : Nat} {s : St} (h : BdAt w g p Ap cp l Al cl s) (hb : Below w.heap.size w w') : BdAt w' g p Ap cp l Al cl s :=
 ⟨blk_below h.bd hb, Kd.C_below h.pl hb, Kd.C_below h.fl hb, h.len, h.few⟩
theorem size_none (w : World) : Calls Tryz.prog 64 #[.pointer none] w fun e w' => e = .returned (.int .i64 0) ∧ w' = w := by
 go_enter Tryz.func64, Tryz.ntmps64
 go_wp2
 go_ret
 exact ⟨rfl, rfl⟩
section
variable {w : World} {g : Nat} {p : List S39} {Ap : Option Addr} {cp : Nat} {l : List S50} {Al : Option Addr} {cl : Nat} {s : St}
theorem size_walk (h : BdAt w g p Ap cp l Al cl s) : Calls Tryz.prog 64 #[.pointer (some ⟨g, 0, none⟩)] w fun e w' => e = .returned (.int .i64 l.length) ∧ w' = w := by
 have y1 : w.cell? ⟨g, 1, none⟩ = some (.slice Al l.length cl) := h.bd.cell 1 (by omega)
 clear h
 go_enter Tryz.func64, Tryz.ntmps64
 go_wp2
 go_ret
 exact ⟨rfl, rfl⟩
def standF (f : S50) : Int := if f.f0 = 0 then 0 else if f.f0 = 1 then 1 else if f.f0 = 3 then 3 else if f.f1 = 0 then 2 else if f.f3 then 5 else 4
theorem stand_walk (f : S50) (w : World) : Calls Tryz.prog 98 #[.agg #[.int .i64 f.f0, .int .i64 f.f1, .int .i64 f.f2, .bool f.f3]] w fun e w' => e = .returned (.int .i64 (standF f)) ∧ Below w.heap.size w w' := by
 obtain ⟨a, b, c, d⟩ := f
 have HB := Aside0.mk (below_alloc (Below.refl w.heap.size w) (.cells #[.int .i64 a, .int .i64 b, .int .i64 c, .bool d] 50 (0, 0)))
 dsimp only
 go_enter Tryz.func98, Tryz.ntmps98
 go_wp2
 all_goals
  go_ret
  refine ⟨?_, HB.out⟩
  unfold standF
  first | rfl | (simp_all; done)
def flagsF (f : Fl) : Int := if f.tc then (if f.dn then 2 else if f.sp then 3 else if f.ha then (if f.cl then 5 else 4) else 1) else 0
def statusB (p : List S39) (l : List S50) (s : St) (i : Nat) : Int := if (rd_T39 p (i : Int)).f2 then flagsF (s.it i) else standF (rd_T50 l (i : Int))
set_option maxHeartbeats 8000000 in
set_option maxRecDepth 100000 in
theorem status_walk (h : BdAt w g p Ap cp l Al cl s) (i : Nat) (hi : i < p.length) : Calls Tryz.prog 65 #[.pointer (some ⟨g, 0, none⟩), .int .i64 i] w fun e w' => e = .returned (.int .i64 (statusB p l s i)) ∧ Below w.heap.size w w' := by
 have hlen := h.len
 have hfew := h.few
 have hi64 : i < 64 := by omega
 obtain ⟨ad, A7, c7, e0, x0, x1, x2, x3, x4, x5, x6, x7, _, _⟩ := at_T39 h.pl (i : Int) (by omega) (by omega)
 obtain ⟨al, e1, q0, q1, q2, q3⟩ := at_T50 h.fl (i : Int) (by omega) (by omega)
 subst e0
 subst e1
 rw [Int.toNat_natCast] at x2 q0 q1 q2 q3
 have y0 : w.cell? ⟨g, 0, none⟩ = some (.slice (some ad) p.length cp) := h.bd.cell 0 (by omega)
 have y1 : w.cell? ⟨g, 1, none⟩ = some (.slice (some al) l.length cl) := h.bd.cell 1 (by omega)
 have z0 : w.cell? ⟨g, 2 + i * 6, none⟩ = some (.bool (s.it i).cl) := h.bd.it i 0 hi64 (by omega)
 have z1 : w.cell? ⟨g, 2 + i * 6 + 1, none⟩ = some (.bool (s.it i).tc) := h.bd.it i 1 hi64 (by omega)
 have z2 : w.cell? ⟨g, 2 + i * 6 + 2, none⟩ = some (.bool (s.it i).dn) := h.bd.it i 2 hi64 (by omega)
 have z3 : w.cell? ⟨g, 2 + i * 6 + 3, none⟩ = some (.bool (s.it i).sp) := h.bd.it i 3 hi64 (by omega)
 have z4 : w.cell? ⟨g, 2 + i * 6 + 4, none⟩ = some (.bool (s.it i).ha) := h.bd.it i 4 hi64 (by omega)
 have z5 : w.cell? ⟨g, 2 + i * 6 + 5, none⟩ = some (.int .i64 (s.it i).at_) := h.bd.it i 5 hi64 (by omega)
 have h0 : (0 : Int) ≤ i := by omega
 have h1 : (i : Int) < (p.length : Int) := by omega
 have h2 : (i : Int) < (l.length : Int) := by omega
 have h6 : (i : Int) < 64 := by omega
 have HSW := Aside0.mk (fun w => stand_walk (rd_T50 l (i : Int)) w)
 unfold statusB
 obtain ⟨⟨fcl, ftc, fdn, fsp, fha, fat⟩, hf⟩ : ∃ f, s.it i = f := ⟨_, rfl⟩
 rw [hf] at z0 z1 z2 z3 z4 z5 ⊢
 obtain ⟨r, hr⟩ : ∃ r, standF (rd_T50 l (i : Int)) = r := ⟨_, rfl⟩
 rw [hr] at HSW ⊢
 obtain ⟨⟨fa, fb, fc, fd⟩, hff⟩ : ∃ f, rd_T50 l (i : Int) = f := ⟨_, rfl⟩
 rw [hff] at q0 q1 q2 q3 HSW
 obtain ⟨sub, hsub⟩ : ∃ b, (rd_T39 p (i : Int)).f2 = b := ⟨_, rfl⟩
 rw [hsub] at x2 ⊢
 clear h x0 x1 x3 x4 x5 x6 x7 hf hff hr hsub hlen hfew hi64 hi
 cases sub
 case false =>
  go_enter Tryz.func65, Tryz.ntmps65
  go_wp2_with (go_at_call 98; refine (HSW.out _).mono ?_; rintro e w2 ⟨rfl, hb⟩; have HB := Aside0.mk hb; clear hb)
  go_ret
  exact ⟨rfl, HB.out⟩
 case true =>
  have HB := Aside0.mk (below_alloc (Below.refl w.heap.size w) (.cells #[.bool fcl, .bool ftc, .bool fdn, .bool fsp, .bool fha, .int .i64 fat] 123 (0, 0)))
  cases ftc
  case' true =>
   cases fdn
   case' false =>
    cases fsp
    case' false =>
     cases fha
     case' true => cases fcl
  all_goals
   go_enter Tryz.func65, Tryz.ntmps65
   go_wp2
   go_ret
   exact ⟨rfl, HB.out⟩
end
end Go.Proofs.YtloijngccppfgaaGreat.F
end

section
namespace Go.Proofs.YtloijngccppfgaaGreat.F
open Go.RowKit Go.Proofs.YtloijngccppfgaaGreatW.PrintWords Go.Proofs.YtloijngccppfgaaGreatW.PrintLast Go.Proofs.YtloijngccppfgaaGreatW.PrintMore
attribute [local go_sem] max2_int min2_int max_two min_two max_three min_three max_four min_four
set_option linter.unusedVariables false
set_option linter.unusedSimpArgs false
theorem all_none (w : World) : Calls Tryz.prog 38 #[.pointer none] w fun e w' => ∃ v, e = .returned v ∧ Kd.R (Kd.int .i64) 35 w' w.heap.size (fun _ => True) v [] ∧ Below w.heap.size w w' := by
 go_enter Tryz.func38, Tryz.ntmps38
 go_wp2_with (go_at_call 64; refine (size_none _).mono ?_; rintro e w2 ⟨rfl, rfl⟩)
 go_loopg [3, 7] 0 (fun kq v3 v7 w' => v3 = .slice none 0 0 ∧ v7 = .int .i64 0 ∧ Aside0 (w' = w2))
 case atStart => exact ⟨rfl, rfl, ⟨rfl⟩⟩
 case round =>
  obtain ⟨rfl, rfl, HW⟩ := hrel
  go_wp2
  go_ret
  exact ⟨_, rfl, Kd.R_nil _ _ _ _ _, by rw [HW.out]; exact Below.refl _ _⟩
section
variable {w : World} {g : Nat} {p : List S39} {Ap : Option Addr} {cp : Nat} {l : List S50} {Al : Option Addr} {cl : Nat} {s : St}
def allB (p : List S39) (l : List S50) (s : St) : List Int := (List.range' 0 p.length).map (statusB p l s)
set_option maxHeartbeats 8000000 in
set_option maxRecDepth 100000 in
theorem all_walk (h : BdAt w g p Ap cp l Al cl s) : Calls Tryz.prog 38 #[.pointer (some ⟨g, 0, none⟩)] w fun e w' => ∃ v, e = .returned v ∧ Kd.R (Kd.int .i64) 35 w' w.heap.size (fun _ => True) v (allB p l s) ∧ Below w.heap.size w w' := by
 have HZ := Aside0.mk (size_walk h)
 have HH := Aside0.mk h
 have hlen := h.len
 have hfew := h.few
 have hl64 : (l.length : Int) ≤ 64 := by omega
 have HLN := Aside0.mk hlen
 clear h hfew hlen
 go_enter Tryz.func38, Tryz.ntmps38
 go_wp2_with (go_at_call 64; refine HZ.out.mono ?_; rintro e w2 ⟨rfl, rfl⟩)
 go_loopg [3, 7] l.length (fun kq v3 v7 w' => ∃ (i : Nat) (out : List Int), i + kq = l.length ∧ v7 = .int .i64 i ∧ (∃ A c, v3 = .slice A out.length c) ∧ Aside0 (out.length = i) ∧ Aside0 (out ++ (List.range' i kq).map (statusB p l s) = allB p l s) ∧ Aside0 (Kd.R (Kd.int .i64) 35 w' w2.heap.size (fun _ => True) v3 out) ∧ Aside0 (Below w2.heap.size w2 w'))
 case atStart => exact ⟨0, [], by omega, rfl, ⟨none, 0, rfl⟩, ⟨rfl⟩, ⟨by unfold allB; rw [HLN.out]; rfl⟩, ⟨Kd.R_nil _ _ _ _ _⟩, ⟨Below.refl _ _⟩⟩
 case round =>
  obtain ⟨i, out, hi, rfl, ⟨A, c, rfl⟩, HO1, HA, HO, HB⟩ := hrel
  cases gk with
  | zero =>
   obtain rfl : i = l.length := by omega
   have HA2 : Aside0 (out = allB p l s) := ⟨by have := HA.out; simpa using this⟩
   clear hi HA
   go_wp2
   go_ret
   exact ⟨_, rfl, by rw [← HA2.out]; exact HO.out, HB.out⟩
  | succ d =>
   have hlt : (i : Int) < (l.length : Int) := by omega
   have HI := Aside0.mk hi
   have HST := Aside0.mk (fun (W : World) (hb : Below w2.heap.size w2 W) => status_walk (HH.out.below hb) i (by have := HLN.out; omega))
   have HA2 : Aside0 ((out ++ [statusB p l s i]) ++ (List.range' (i + 1) d).map (statusB p l s) = allB p l s) := ⟨by have := HA.out; rw [List.range'_succ] at this; simpa using this⟩
   have HOL : Aside0 (out.length < 64) := ⟨by have := HO1.out; omega⟩
   generalize statusB p l s i = x at HST HA2
   clear hi HA
   go_wp2_with (first
    | (go_at_call 65; refine (HST.out _ HB.out).mono ?_; rintro e w3 ⟨rfl, hb⟩; have HB3 := Aside0.mk (HB.out.trans (hb.mono HB.out.size)); have HO3 := Aside0.mk (Kd.R_below HO.out hb); clear hb)
    | (((with_reducible refine gate_builtin (b := .append) (xs := #[.tmp 10, .tmp 14]) rfl ?_); (try (refine gate_guard (by rfl) ?_; dsimp only)); at_builtin; refine Kd.R_append (Kd.int .i64) (w0 := w2) w2.heap.size rfl (.tmp 10) (.tmp 14) 30 35 (.int .i64 0) 8 rfl Tryz.underlying30 info35 rfl (by decide) (by omega) (.slice A out.length c) out x [.int .i64 x] (fun _ => True) (fun _ => False) rfl (by simp [Act.eval]) ?aP (fun _ hk => hk.elim) ?aF ?aO ?aB ?aS ?aL ?_; (case aP => exact rfl); (case aF => exact (fun _ _ => trivial)); (case aO => exact (by (with_reducible repeat (first | apply Kd.R_alloc | apply Kd.R_drewN | apply Kd.R_drew)); exact HO3.out)); (case aB => exact HB3.out); (case aS => exact HB3.out.size); (case aL => have := HOL.out; omega); intro v4 w4 ho hb hg hat; have HO4 := Aside0.mk ho; have HB4 := Aside0.mk hb; obtain ⟨A4, c4, hv4⟩ := Kd.R_slice ho; clear ho hb hg hat)))
   subst hv4
   go_roundg d
   case measure => omega
   case rel => exact ⟨i + 1, out ++ [x], by have := HI.out; omega, by go_num, ⟨A4, c4, by simp⟩, ⟨by have := HO1.out; simp; omega⟩, HA2, ⟨by have h := HO4.out; simpa using h⟩, HB4⟩
end
end Go.Proofs.YtloijngccppfgaaGreat.F
end

section
namespace Go.Proofs.YtloijngccppfgaaGreat.F
open Go.RowKit Go.Proofs.YtloijngccppfgaaGreatW.PrintWords Go.Proofs.YtloijngccppfgaaGreatW.PrintLast Go.Proofs.YtloijngccppfgaaGreatW.PrintMore
attribute [local go_sem] max2_int min2_int max_two min_two max_three min_three max_four min_four
set_option linter.unusedVariables false
set_option linter.unusedSimpArgs false
theorem itemB_shape {p : List S39} {i : Nat} {x : S39} (h : itemB p i x = true) : (0 ≤ x.f4 ∧ x.f4 ≤ 4) ∧ (i ≠ 0 → 0 ≤ x.f5 ∧ x.f5 < i ∧ 0 ≤ x.f6 ∧ x.f6 < (rd_T39 p x.f5).f4) ∧ (i = 0 → x.f5 = -1) := by
 unfold itemB at h
 by_cases c1 : x.f4 < 0
 ·rw [if_pos c1] at h; cases h
 rw [if_neg c1] at h
 by_cases c2 : 4 < x.f4
 ·rw [if_pos c2] at h; cases h
 rw [if_neg c2] at h
 by_cases c3 : x.f7.any (strayB p.length) = true
 ·rw [if_pos c3] at h; cases h
 rw [if_neg c3] at h
 refine ⟨by omega, ?_, ?_⟩
 ·intro hz
  rw [if_neg hz] at h
  by_cases c4 : x.f5 < 0
  ·rw [if_pos c4] at h; cases h
  rw [if_neg c4] at h
  by_cases c5 : (i : Int) ≤ x.f5
  ·rw [if_pos c5] at h; cases h
  rw [if_neg c5] at h
  by_cases c6 : x.f6 < 0
  ·rw [if_pos c6] at h; cases h
  rw [if_neg c6] at h
  have := of_decide_eq_true h
  omega
 ·intro hz
  rw [if_pos hz] at h
  exact of_decide_eq_true h
theorem shapedL_of_ {p : List S39} : ∀ (q : List S39) (i : Nat), shapedL p i q = true → ∀ k (hk : k < q.length), itemB p (i + k) q[k] = true
 | [], _, _, k, hk => by simp at hk
 | x :: q, i, h, k, hk => by
  unfold shapedL at h
  rw [Bool.and_eq_true] at h
  cases k with
  | zero => exact h.1
  | succ k =>
   have := shapedL_of_ q (i + 1) h.2 k (by simpa using hk)
   rw [show i + 1 + k = i + (k + 1) from by omega] at this
   simpa using this
theorem rd_at {p : List S39} {i : Nat} (h : i < p.length) : rd_T39 p (i : Int) = p[i] := by
 unfold rd_T39
 rw [Int.toNat_natCast, List.getD_eq_getElem?_getD, List.getElem?_eq_getElem h]
 rfl
theorem shape_item {p : List S39} (h : shapedB p = true) {i : Nat} (hi : i < p.length) : itemB p i (rd_T39 p (i : Int)) = true := by
 unfold shapedB at h
 simp only [Bool.and_eq_true] at h
 have := shapedL_of_ p 0 h.1 i hi
 rw [Nat.zero_add] at this
 rw [rd_at hi]
 exact this
theorem shape_few {p : List S39} (h : shapedB p = true) : 0 < p.length ∧ p.length ≤ 64 := by
 unfold shapedB at h
 simp only [Bool.and_eq_true, decide_eq_true_eq] at h
 exact h.2
theorem shape_of {p : List S39} (h : shapedB p = true) : ShapeP p := by
 refine ⟨(shape_few h).2, fun i hi => ?_⟩
 obtain ⟨h1, h2, -⟩ := itemB_shape (shape_item h hi)
 refine ⟨h1, fun hz => ?_⟩
 obtain ⟨q1, q2, q3, q4⟩ := h2 hz
 refine ⟨q1, q2, q3, ?_⟩
 obtain ⟨j, hj⟩ := Int.eq_ofNat_of_zero_le q1
 have hjl : j < p.length := by omega
 have := (itemB_shape (shape_item h hjl)).1
 rw [hj] at q4
 omega
theorem facts_shape {p : List S39} {l : List S50} (h : factsB p l = true) : l.length = p.length ∧ shapedB p = true := by
 unfold factsB at h
 simp only [Bool.and_eq_true, decide_eq_true_eq] at h
 have h2 := h.2.1
 unfold rightB at h2
 rw [Bool.and_eq_true] at h2
 exact ⟨h.1, h2.1⟩
def SeeP (p : List S39) (Ap : Option Addr) (cp : Nat) (l : List S50) (w : World) (r : Option Nat) (w' : World) : Prop :=
 Below w.heap.size w w' ∧ match r with | some g => factsB p l = true ∧ ∃ Al cl, BdAt w' g p Ap cp l Al cl (madeS p l) ∧ w.heap.size ≤ g ∧ Kd.F k50 w' (fun k_ => w.heap.size ≤ k_) Al l.length l | none => factsB p l = false
def ptrV : Option Nat → Value
 | none => .pointer none
 | some g => .pointer (some ⟨g, 0, none⟩)
set_option maxHeartbeats 8000000 in
set_option maxRecDepth 100000 in
theorem see_walk (p : List S39) (Ap : Option Addr) (cp : Nat) (l : List S50) (Al : Option Addr) (cl : Nat) (w : World) (hp : Kd.C k39 w Ap p.length p) (hcp : p.length ≤ cp) (hl : Kd.C k50 w Al l.length l) (hcl : l.length ≤ cl) (hsm : smallP p = true) (hl6 : l.length ≤ 1000000) :
  Calls Tryz.prog 37 #[.agg #[.slice Ap p.length cp], .slice Al l.length cl] w fun e w' => ∃ r, e = .returned (.tuple #[ptrV r, .int .i64 (if factsB p l then 0 else 2)]) ∧ SeeP p Ap cp l w r w' := by
 have HP := Aside0.mk hp
 have HL := Aside0.mk hl
 have HGA := Aside0.mk (blk_new w (.cells #[.slice Ap p.length cp] 24 (0, 0)))
 have HB0 := Aside0.mk (below_alloc (Below.refl w.heap.size w) (.cells #[.slice Ap p.length cp] 24 (0, 0)))
 have HCK := Aside0.mk (fun (W : World) (hb : Below w.heap.size w W) => fact_Check.calls _ Ap cp p Al cl l _ W (Kd.C_below hp hb) hcp (Kd.C_below hl hb) hcl (fact_check_at p l hsm hl6))
 obtain ⟨v, hv⟩ : ∃ v, factsB p l = v := ⟨_, rfl⟩
 have HV := Aside0.mk hv
 rw [hv] at HCK ⊢
 clear hp hcp hl hcl hsm hl6 hv
 cases v with
 | false =>
  go_enter Tryz.func37, Tryz.ntmps37
  go_wp2_with (go_at_call 54; refine (HCK.out _ HB0.out).mono ?_; rintro e w2 ⟨rfl, hb⟩; have HB2 := Aside0.mk (HB0.out.trans (hb.mono HB0.out.size)); clear hb)
  go_ret2
  exact ⟨none, rfl, HB2.out, HV.out⟩
 | true =>
  have HSH := Aside0.mk (facts_shape HV.out)
  have HMD := Aside0.mk (fun (W : World) (hb : Below w.heap.size w W) => made_board_walk p Ap cp l Al cl W (Kd.C_below HP.out hb) (Kd.C_below HL.out hb) HSH.out.1 (shape_of HSH.out.2))
  go_enter Tryz.func37, Tryz.ntmps37
  go_wp2_with (first
   | (go_at_call 54; refine (HCK.out _ HB0.out).mono ?_; rintro e w2 ⟨rfl, hb⟩; have HB2 := Aside0.mk (HB0.out.trans (hb.mono HB0.out.size)); have HG2 := Aside0.mk (blk_below HGA.out hb); clear hb; have x0 : w2.cell? ⟨w.heap.size, 0, none⟩ = some (.slice Ap p.length cp) := (blk_cell HG2.out 0).trans rfl)
   | (go_at_call 63; refine (HMD.out _ HB2.out).mono ?_; rintro e w3 ⟨g, rfl, hm⟩; have HM := Aside0.mk hm; clear hm))
  go_ret2
  obtain ⟨q1, q2, A3, c3, q3, q4⟩ := HM.out
  have hb3 := HB2.out.trans (q1.mono HB2.out.size)
  exact ⟨some g, rfl, hb3, HV.out, A3, c3, ⟨q3, Kd.C_below HP.out hb3, Kd.F_now q4, HSH.out.1, (shape_few HSH.out.2).2⟩, Nat.le_trans HB2.out.size q2, Kd.F_mono q4 (fun k hk => Nat.le_trans HB2.out.size hk)⟩
def okArgs (p : List S39) (l : List S50) : Bool := smallP p && decide (l.length ≤ 1000000)
def state_All.f (l0_0 : List S39) (l1 : List S50) : Option (List Int × Int) := if okArgs l0_0 l1 then some (if factsB l0_0 l1 then (allB l0_0 l1 (madeS l0_0 l1), 0) else ([], 2)) else none
theorem SeeP.has {p : List S39} {Ap : Option Addr} {cp : Nat} {l : List S50} {w w' : World} {g : Nat} (h : SeeP p Ap cp l w (some g) w') : factsB p l = true ∧ 0 < p.length ∧ shapedB p = true ∧ ∃ Al cl, BdAt w' g p Ap cp l Al cl (madeS p l) := by
 obtain ⟨h1, h2, Al, cl, h3, -⟩ := h
 exact ⟨h2, (shape_few (facts_shape h2).2).1, (facts_shape h2).2, Al, cl, h3⟩
theorem SeeP.hasnt {p : List S39} {Ap : Option Addr} {cp : Nat} {l : List S50} {w w' : World} (h : SeeP p Ap cp l w none w') : factsB p l = false := h.2
section
variable {p : List S39} {Ap : Option Addr} {cp : Nat} {l : List S50} {w w' : World} {r : Option Nat}
theorem all_ptr (h : SeeP p Ap cp l w r w') : Calls Tryz.prog 38 #[ptrV r] w' fun e w2 => ∃ v, e = .returned v ∧ Kd.R (Kd.int .i64) 35 w2 w'.heap.size (fun _ => True) v (if factsB p l then allB p l (madeS p l) else []) ∧ Below w'.heap.size w' w2 := by
 cases r with
 | none => rw [h.hasnt]; exact all_none w'
 | some g => obtain ⟨h1, h2, h3, Al, cl, h4⟩ := h.has; rw [h1]; exact all_walk h4
end
section
variable (A0_0 : Option Addr) (c0_0 : Nat) (l0_0 : List S39) (A1 : Option Addr) (c1 : Nat) (l1 : List S50)
theorem state_All.calls (r1 : List Int) (r2 : Int) (w : World) (hr0_0 : Kd.C k39 w A0_0 l0_0.length l0_0) (hc0_0 : l0_0.length ≤ c0_0) (hr1 : Kd.C k50 w A1 l1.length l1) (hc1 : l1.length ≤ c1) (h : state_All.f l0_0 l1 = some (r1, r2)) :
  Calls Tryz.prog 12 #[.agg #[.slice A0_0 l0_0.length c0_0], .slice A1 l1.length c1] w fun e w' => ∃ v0_ : Value, e = .returned (.tuple #[v0_, .int .i64 r2]) ∧ Kd.R (Kd.int .i64) 35 w' w.heap.size (fun _ => True) v0_ r1 ∧ Below w.heap.size w w' := by
 unfold state_All.f at h
 by_cases hok : okArgs l0_0 l1 = true
 ·rw [if_pos hok] at h
  unfold okArgs at hok
  rw [Bool.and_eq_true, decide_eq_true_eq] at hok
  have HB0 := Aside0.mk (below_alloc (Below.refl w.heap.size w) (.cells #[.slice A0_0 l0_0.length c0_0] 24 (0, 0)))
  have HAS := Aside0.mk (fun (W : World) (hb : Below w.heap.size w W) => see_walk l0_0 A0_0 c0_0 l1 A1 c1 W (Kd.C_below hr0_0 hb) hc0_0 (Kd.C_below hr1 hb) hc1 hok.1 hok.2)
  have h3 := Option.some.inj h
  have H1 : Aside0 ((if factsB l0_0 l1 = true then allB l0_0 l1 (madeS l0_0 l1) else []) = r1) := ⟨(by split <;> rfl : (if factsB l0_0 l1 = true then allB l0_0 l1 (madeS l0_0 l1) else []) = (if factsB l0_0 l1 = true then (allB l0_0 l1 (madeS l0_0 l1), (0 : Int)) else ([], 2)).1).trans (congrArg Prod.fst h3)⟩
  have H2 : Aside0 ((if factsB l0_0 l1 = true then (0 : Int) else 2) = r2) := ⟨(by split <;> rfl : (if factsB l0_0 l1 = true then (0 : Int) else 2) = (if factsB l0_0 l1 = true then (allB l0_0 l1 (madeS l0_0 l1), (0 : Int)) else ([], 2)).2).trans (congrArg Prod.snd h3)⟩
  clear h3
  clear hr0_0 hc0_0 hr1 hc1 hok h
  go_enter Tryz.func12, Tryz.ntmps12
  go_wp2_with (first
   | (go_at_call 37; refine (HAS.out _ HB0.out).mono ?_; rw [H2.out]; rintro e w2 ⟨q, rfl, hm⟩; have HM := Aside0.mk hm; clear hm)
   | (go_at_call 38; refine (all_ptr HM.out).mono ?_; rw [H1.out]; rintro e w3 ⟨v, rfl, hR, hb⟩; have HR := Aside0.mk hR; have HB3 := Aside0.mk (HB0.out.trans ((HM.out.1.trans (hb.mono HM.out.1.size)).mono HB0.out.size)); clear hb))
  go_ret2
  exact ⟨v, rfl, Kd.R_lower HR.out (Nat.le_trans HB0.out.size HM.out.1.size), HB3.out⟩
 ·rw [if_neg hok] at h
  cases h
end
end Go.Proofs.YtloijngccppfgaaGreat.F
end

section
namespace Go.Proofs.YtloijngccppfgaaGreat.Pure
set_option linter.unusedVariables false
open Go.RowKit Go.Proofs.YtloijngccppfgaaGreat.F Go.Proofs.YtloijngccppfgaaGreatW.PrintWords Go.Proofs.YtloijngccppfgaaGreatW.PrintLast
theorem small_plan {p : List S39} (hl : p.length ≤ 70 ∧ ∀ j (h : j < p.length), 0 ≤ j → p[j].f7.length ≤ 100) : smallP p = true := by
 unfold smallP
 rw [List.all_eq_true]
 intro y hy
 obtain ⟨j, hj, rfl⟩ := List.getElem_of_mem hy
 have := hl.2 j hj (by omega)
 simp only [decide_eq_true_eq]
 omega
theorem small_ok {p : List S39} (hp : smallP p = true) {l : List S50} (hl : l.length ≤ 100) : okArgs p l = true := by
 unfold okArgs
 rw [hp, decide_eq_true (by omega : l.length ≤ 1000000)]
 rfl
section
variable {p : List S39} {l : List S50}
theorem right_in (h : rightB p = true) : InP p := fun i hi h0 => by
 obtain ⟨a, k, h1, h2, h3, h4, h5⟩ := item_in h i hi h0
 have e : (I_ p i).f5 = a := h1
 rw [e, Int.toNat_natCast]
 exact ⟨h3, h5⟩
theorem facts_made (h : factsB p l = true) : MadeAt p l (madeS p l) ∧ rightB p = true ∧ l.length = p.length ∧ 0 < p.length ∧ p.length ≤ 64 := by
 obtain ⟨h1, h2, h3⟩ := (facts_iff p l).1 h
 obtain ⟨h4, -⟩ := right_saga h2
 exact ⟨made_all (shape_few h4).1 (right_in h2), h2, h1, shape_few h4⟩
structure Stands (p : List S39) (i a k : Nat) : Prop where
 in_ : (I_ p i).f5 = a
 alt : (I_ p i).f6 = k
 lt : a < i
 few : (k : Int) < (I_ p a).f4
 sub : (I_ p a).f2 = true
theorem stands (h : rightB p = true) (i : Nat) (hi : i < p.length) (h0 : i ≠ 0) : ∃ a k, Stands p i a k ∧ kid p i a k := by
 obtain ⟨a, k, h1, h2, h3, h4, h5⟩ := item_in h i hi h0
 have e1 : (I_ p i).f5 = a := h1
 have e2 : (I_ p i).f6 = k := h2
 exact ⟨a, k, ⟨h1, h2, h3, h4, h5⟩, h0, by rw [e1, Int.toNat_natCast], by rw [e2, Int.toNat_natCast]⟩
theorem alts_nat (h : rightB p = true) (i : Nat) (hi : i < p.length) : ((I_ p i).f4.toNat : Int) = (I_ p i).f4 ∧ (I_ p i).f4.toNat ≤ 4 := by
 obtain ⟨n, h1, h2⟩ := item_alts h i hi
 have e : (I_ p i).f4 = n := h1
 rw [e, Int.toNat_natCast]
 exact ⟨rfl, h2⟩
variable {s : St} (M : MadeAt p l s)
include M
end
theorem allB_len (p : List S39) (l : List S50) (s : St) : (allB p l s).length = p.length := by unfold allB; simp
theorem allB_rd (p : List S39) (l : List S50) (s : St) {i : Nat} (hi : i < p.length) : rd (allB p l s) (i : Int) = statusB p l s i := by
 unfold rd allB
 rw [Int.toNat_natCast, List.getD_eq_getElem?_getD, List.getElem?_map, List.getElem?_range' (by omega)]
 simp
theorem w64_next {i : Nat} (h : i ≤ 1000000) : wrap64 ((i : Int) + 1) = ((i + 1 : Nat) : Int) := by unfold wrap64; omega
section
variable {p : List S39} (hp : smallP p = true) {l : List S50} (hl : l.length ≤ 100)
include hp hl
theorem all_ev : state_All.f p l = some (if factsB p l then (allB p l (madeS p l), 0) else ([], 2)) := by unfold state_All.f; rw [if_pos (small_ok hp hl)]
theorem all_yes (h : factsB p l = true) : state_All.f p l = some (allB p l (madeS p l), 0) := by rw [all_ev hp hl, h]; rfl
theorem all_no (h : factsB p l = false) : state_All.f p l = some ([], 2) := by rw [all_ev hp hl, h]; rfl
end
end Go.Proofs.YtloijngccppfgaaGreat.Pure
end

section
namespace Go.Proofs.YtloijngccppfgaaGreat.Pure
set_option linter.unusedVariables false
open Go.RowKit Go.Proofs.YtloijngccppfgaaGreat.F Go.Proofs.YtloijngccppfgaaGreatW.PrintWords Go.Proofs.YtloijngccppfgaaGreatW.PrintLast
theorem shape_up {p : List S39} (h : shapedB p = true) : UpP p := by
 refine ⟨(shape_few h).2, fun i hi => ?_⟩
 obtain ⟨-, h2, h3⟩ := itemB_shape (shape_item h hi)
 by_cases h0 : i = 0
 ·have := h3 h0; omega
 ·have := h2 h0; omega
def kidQ (p : List S39) (a k : Int) (i : Nat) : Bool := decide (0 < i) && ((rd_T39 p (i : Int)).f5 == a && (rd_T39 p (i : Int)).f6 == k)
def kidsL (p : List S39) (a k : Int) : List Int := if hasB p a then List.map Int.ofNat ((List.range' 0 p.length).filter (kidQ p a k)) else []
def fellsB (p : List S39) (S : List Int) (i : Int) : Bool := rd S i == 3 && (!(rd_T39 p i).f2 || (rd_T39 p i).f3)
def causeI (p : List S39) (S : List Int) (a k : Int) : Int := if idxF (fellsB p S) (kidsL p a k) 0 < 0 then -1 else rd (kidsL p a k) (idxF (fellsB p S) (kidsL p a k) 0)
def causesOne (p : List S39) (S : List Int) (g : Int → List Int) (s : Int) (k : Nat) : List Int := if causeI p S s k < 0 then [] else causeI p S s k :: g (causeI p S s k)
def causesF (p : List S39) (S : List Int) : Nat → Int → List Int
 | 0, _ => []
 | d + 1, s => (List.range' 0 (rd_T39 p s).f4.toNat).flatMap (causesOne p S (causesF p S d) s)
def causesL (p : List S39) (S : List Int) (s : Int) : List Int := causesF p S p.length s
def blameF (p : List S39) (S : List Int) : Nat → Int → Int
 | 0, _ => -1
 | d + 1, k => if 0 < k then (if 0 ≤ causeI p S (rd_T39 p k).f5 (rd_T39 p k).f6 then causeI p S (rd_T39 p k).f5 (rd_T39 p k).f6 else blameF p S d (rd_T39 p k).f5) else -1
def blameI (p : List S39) (S : List Int) (i : Int) : Int := blameF p S (p.length + 1) i
def ofL (p : List S39) (l : List S50) (s : Int) : List Int := if factsB p l && (decide (0 ≤ s) && decide (s < (l.length : Int))) then causesL p (allB p l (madeS p l)) s else []
def stepsL (p : List S39) (l : List S50) (s : Int) : List Int := (ofL p l s).filter fun i => !(rd_T39 p i).f2
def blameL (p : List S39) (l : List S50) (i : Int) : Int := if factsB p l && (decide (0 ≤ i) && decide (i < (l.length : Int))) then blameI p (allB p l (madeS p l)) i else -1
def indent : Nat → List UInt8
 | 0 => []
 | n + 1 => 32 :: 32 :: indent n
def textOne (p : List S39) (i : Int) : List ByteArray := [⟨(indent ((aboveL p i).length - 1)).toArray⟩, (rd_T39 p i).f0, ⟨#[10]⟩]
def textParts (p : List S39) (l : List S50) : List ByteArray := (ofL p l 0).flatMap (textOne p)
def textFits (p : List S39) (l : List S50) : Bool := decide ((textParts p l).length ≤ 1000000) && decide (((textParts p l).map ByteArray.size).sum ≤ 1000000)
def textL (p : List S39) (l : List S50) : ByteArray × Int := if factsB p l then (⟨((textParts p l).flatMap fun b => b.data.toList).toArray⟩, 0) else (⟨#[]⟩, 2)
theorem idxF_cases (q : Int → Bool) : ∀ (l : List Int) (i : Int), (idxF q l i = -1 ∧ ∀ x ∈ l, q x = false) ∨ ∃ (n : Nat) (h : n < l.length), idxF q l i = i + n ∧ q l[n] = true
 | [], i => .inl ⟨rfl, fun x h => by cases h⟩
 | x :: l, i => by
  unfold idxF
  cases hq : q x
  ·rw [if_neg (by simp)]
   rcases idxF_cases q l (i + 1) with ⟨h1, h2⟩ | ⟨n, h1, h2, h3⟩
   ·refine .inl ⟨h1, fun y hy => ?_⟩
    rcases List.mem_cons.1 hy with rfl | hy
    ·exact hq
    ·exact h2 y hy
   ·exact .inr ⟨n + 1, by simpa using h1, by rw [h2]; omega, by simpa using h3⟩
  ·rw [if_pos rfl]
   exact .inr ⟨0, by simp, by omega, hq⟩
theorem kidsL_mem {p : List S39} {a k x : Int} (h : x ∈ kidsL p a k) : ∃ n : Nat, x = n ∧ 0 < n ∧ n < p.length ∧ (rd_T39 p (n : Int)).f5 = a ∧ (rd_T39 p (n : Int)).f6 = k ∧ hasB p a = true := by
 unfold kidsL at h
 cases hb : hasB p a
 ·rw [hb] at h; cases h
 ·rw [hb, if_pos rfl] at h
  obtain ⟨n, hn, rfl⟩ := List.mem_map.1 h
  obtain ⟨h1, h2⟩ := List.mem_filter.1 hn
  unfold kidQ at h2
  rw [Bool.and_eq_true, Bool.and_eq_true, decide_eq_true_eq, beq_iff_eq, beq_iff_eq] at h2
  have h3 := List.mem_range'_1.1 h1
  exact ⟨n, rfl, h2.1, by omega, h2.2.1, h2.2.2, rfl⟩
theorem cause_cases (p : List S39) (S : List Int) (a k : Int) : (causeI p S a k = -1 ∧ ∀ x ∈ kidsL p a k, fellsB p S x = false) ∨ ∃ n : Nat, causeI p S a k = n ∧ 0 < n ∧ n < p.length ∧ (rd_T39 p (n : Int)).f5 = a ∧ (rd_T39 p (n : Int)).f6 = k ∧ fellsB p S n = true := by
 unfold causeI
 rcases idxF_cases (fellsB p S) (kidsL p a k) 0 with ⟨h1, h2⟩ | ⟨n, h1, h2, h3⟩
 ·rw [h1, if_pos (by omega)]
  exact .inl ⟨rfl, h2⟩
 ·rw [h2, if_neg (by omega)]
  have e : rd (kidsL p a k) (0 + (n : Int)) = (kidsL p a k)[n] := by
   unfold rd
   rw [show (0 + (n : Int)).toNat = n from by omega, List.getD_eq_getElem?_getD, List.getElem?_eq_getElem h1]
   rfl
  rw [e]
  obtain ⟨m, hm, q1, q2, q3, q4, q5⟩ := kidsL_mem (List.getElem_mem h1)
  refine .inr ⟨m, hm, q1, q2, q3, q4, ?_⟩
  rw [← hm]; exact h3
theorem cause_up {p : List S39} (hu : UpP p) {S : List Int} {a : Nat} {k : Int} (h : ¬ causeI p S (a : Int) k < 0) : ∃ n : Nat, causeI p S (a : Int) k = n ∧ a < n ∧ n < p.length := by
 rcases cause_cases p S a k with ⟨h1, -⟩ | ⟨n, h1, h2, h3, h4, -⟩
 ·omega
 ·have := hu.2 n h3
  exact ⟨n, h1, by omega, h3⟩
theorem flat_same {α β : Type} (f g : α → List β) : ∀ l : List α, (∀ x ∈ l, f x = g x) → l.flatMap f = l.flatMap g
 | [], _ => rfl
 | x :: l, h => by
  rw [List.flatMap_cons, List.flatMap_cons, h x List.mem_cons_self, flat_same f g l (fun y hy => h y (List.mem_cons_of_mem _ hy))]
theorem causesF_fuel {p : List S39} (hu : UpP p) (S : List Int) : ∀ (d e s : Nat), s < p.length → p.length ≤ s + d → p.length ≤ s + e → causesF p S d (s : Int) = causesF p S e (s : Int)
 | 0, e, s, h, hd, he => by omega
 | d + 1, 0, s, h, hd, he => by omega
 | d + 1, e + 1, s, h, hd, he => by
  unfold causesF
  refine flat_same _ _ _ (fun k hk => ?_)
  unfold causesOne
  by_cases hc : causeI p S (s : Int) k < 0
  ·rw [if_pos hc, if_pos hc]
  ·rw [if_neg hc, if_neg hc]
   obtain ⟨n, h1, h2, h3⟩ := cause_up hu hc
   rw [h1, causesF_fuel hu S d e n h3 (by omega) (by omega)]
theorem causesL_eq {p : List S39} (hu : UpP p) (S : List Int) {s : Nat} (hs : s < p.length) : causesL p S (s : Int) = (List.range' 0 (rd_T39 p (s : Int)).f4.toNat).flatMap (causesOne p S (causesL p S) s) := by
 obtain ⟨d, hd⟩ : ∃ d, p.length = d + 1 := ⟨p.length - 1, by omega⟩
 have e : causesL p S (s : Int) = causesF p S (d + 1) (s : Int) := by unfold causesL; rw [hd]
 rw [e]
 unfold causesF
 refine flat_same _ _ _ (fun k hk => ?_)
 unfold causesOne
 by_cases hc : causeI p S (s : Int) k < 0
 ·rw [if_pos hc, if_pos hc]
 ·rw [if_neg hc, if_neg hc]
  obtain ⟨n, h1, h2, h3⟩ := cause_up hu hc
  rw [h1]
  unfold causesL
  rw [causesF_fuel hu S d p.length n h3 (by omega) (by omega)]
theorem above_self {p : List S39} (d : Nat) (a : Nat) : (a : Int) ∈ aboveF p (d + 1) (a : Int) := by
 unfold aboveF
 rw [if_pos (by omega)]
 exact List.mem_cons_self
theorem above_step {p : List S39} (hu : UpP p) {i s : Nat} (hs : (rd_T39 p (i : Int)).f5 = s) : ∀ (d a : Nat), a < d → a < p.length → (i : Int) ∈ aboveF p d (a : Int) → (s : Int) ∈ aboveF p d (a : Int)
 | 0, a, h, ha, hi => by omega
 | d + 1, a, h, ha, hi => by
  unfold aboveF at hi ⊢
  rw [if_pos (by omega)] at hi ⊢
  have hup := hu.2 a ha
  rcases List.mem_cons.1 hi with e | hi
  ·obtain rfl : i = a := by omega
   rw [hs] at hup ⊢
   obtain ⟨e, rfl⟩ : ∃ e, d = e + 1 := ⟨d - 1, by omega⟩
   exact List.mem_cons_of_mem _ (above_self e s)
  ·by_cases h0 : 0 ≤ (rd_T39 p (a : Int)).f5
   ·obtain ⟨b, hb⟩ := Int.eq_ofNat_of_zero_le h0
    rw [hb] at hi hup ⊢
    exact List.mem_cons_of_mem _ (above_step hu hs d b (by omega) (by omega) hi)
   ·obtain ⟨e, rfl⟩ : ∃ e, d = e + 1 := ⟨d - 1, by
     cases d with
     | zero => cases hi
     | succ d => omega⟩
    unfold aboveF at hi
    rw [if_neg h0] at hi
    cases hi
structure ToldAt (p : List S39) (S : List Int) (s : Nat) (x : Int) : Prop where
 nat : ∃ n : Nat, x = n ∧ s < n ∧ n < p.length ∧ fellsB p S n = true
 up : (s : Int) ∈ aboveL p x
theorem told_all {p : List S39} (hu : UpP p) (S : List Int) : ∀ (d s : Nat), p.length ≤ s + d → s < p.length → ∀ x ∈ causesL p S (s : Int), ToldAt p S s x
 | 0, s, hd, hs, x, hx => by omega
 | d + 1, s, hd, hs, x, hx => by
  rw [causesL_eq hu S hs] at hx
  obtain ⟨k, hk, hx⟩ := List.mem_flatMap.1 hx
  unfold causesOne at hx
  rcases cause_cases p S s k with ⟨h1, -⟩ | ⟨n, h1, h2, h3, h4, h5, h6⟩
  ·rw [h1, if_pos (by omega)] at hx; cases hx
  ·rw [h1, if_neg (by omega)] at hx
   have hup := hu.2 n h3
   have hsn : s < n := by omega
   have hab : ∀ m : Nat, m < p.length → aboveL p (m : Int) = aboveF p (p.length + 1) (rd_T39 p (m : Int)).f5 := fun m hm => by
    unfold aboveL hasB
    rw [decide_eq_true (by omega : (0 : Int) ≤ m), decide_eq_true (by omega : (m : Int) < p.length)]
    rfl
   rcases List.mem_cons.1 hx with rfl | hx
   ·exact ⟨⟨n, rfl, hsn, h3, h6⟩, by rw [hab n h3, h4]; exact above_self _ s⟩
   ·obtain ⟨⟨m, rfl, q1, q2, q3⟩, q4⟩ := told_all hu S d n (by omega) h3 x hx
    refine ⟨⟨m, rfl, by omega, q2, q3⟩, ?_⟩
    rw [hab m q2] at q4 ⊢
    have hm := hu.2 m q2
    by_cases h0 : 0 ≤ (rd_T39 p (m : Int)).f5
    ·obtain ⟨b, hb⟩ := Int.eq_ofNat_of_zero_le h0
     rw [hb] at q4 hm ⊢
     exact above_step hu h4 _ b (by omega) (by omega) q4
    ·unfold aboveF at q4
     rw [if_neg h0] at q4
     cases q4
def hadQ (p : List S39) (s : Int) (a : Int) (x : Int) : Bool := (rd_T39 p x).f5 == s && (rd_T39 p x).f6 == a
theorem had_flat (q : Int → Bool) (F : Nat → List Int) (a : Nat) (hF : ∀ k, (F k).countP q ≤ if k = a then 1 else 0) : ∀ d k : Nat, ((List.range' k d).flatMap F).countP q ≤ if k ≤ a ∧ a < k + d then 1 else 0
 | 0, k => by simp
 | d + 1, k => by
  rw [List.range'_succ, List.flatMap_cons, List.countP_append]
  have h1 := hF k
  have h2 := had_flat q F a hF d (k + 1)
  split at h1 <;> split at h2 <;> split <;> omega
theorem had_one {p : List S39} (hu : UpP p) (S : List Int) {s : Nat} (hs : s < p.length) (a : Nat) : (causesL p S (s : Int)).countP (hadQ p s a) ≤ 1 := by
 rw [causesL_eq hu S hs]
 refine Nat.le_trans (had_flat _ _ a (fun k => ?_) _ _) (by split <;> omega)
 unfold causesOne
 rcases cause_cases p S s k with ⟨h1, -⟩ | ⟨n, h1, h2, h3, h4, h5, h6⟩
 ·rw [h1, if_pos (by omega)]; simp
 ·rw [h1, if_neg (by omega), List.countP_cons]
  have hup := hu.2 n h3
  have h0 : (causesL p S (n : Int)).countP (hadQ p s a) = 0 := by
   rw [List.countP_eq_zero]
   intro x hx hq
   unfold hadQ at hq
   rw [Bool.and_eq_true, beq_iff_eq] at hq
   have ht := told_all hu S p.length n (by omega) h3 x hx
   obtain ⟨m, rfl, q1, q2, q3⟩ := ht.nat
   have hup2 := ht.up
   have hab : aboveL p (m : Int) = aboveF p (p.length + 1) (rd_T39 p (m : Int)).f5 := by
    unfold aboveL hasB
    rw [decide_eq_true (by omega : (0 : Int) ≤ m), decide_eq_true (by omega : (m : Int) < p.length)]
    rfl
   rw [hab, hq.1] at hup2
   have hle : ∀ (d b : Nat), b < p.length → ∀ y ∈ aboveF p d (b : Int), y ≤ b := fun d => by
    induction d with
    | zero => intro b hb y hy; cases hy
    | succ d ih =>
     intro b hb y hy
     unfold aboveF at hy
     rw [if_pos (by omega)] at hy
     rcases List.mem_cons.1 hy with rfl | hy
     ·exact Int.le_refl _
     ·have hub := hu.2 b hb
      by_cases h0 : 0 ≤ (rd_T39 p (b : Int)).f5
      ·obtain ⟨c, hc⟩ := Int.eq_ofNat_of_zero_le h0
       rw [hc] at hy hub
       have := ih c (by omega) y hy
       omega
      ·cases d with
       | zero => cases hy
       | succ d => unfold aboveF at hy; rw [if_neg h0] at hy; cases hy
   have := hle _ s hs _ hup2
   omega
  rw [h0]
  unfold hadQ
  rw [h5]
  by_cases hka : k = a
  ·rw [if_pos hka]; split <;> omega
  ·rw [if_neg hka]
   have : ((k : Int) == (a : Int)) = false := beq_eq_false_iff_ne.2 (by omega)
   rw [this]
   simp
section
variable {p : List S39} {l : List S50} {s : St}
theorem fells_status (M : MadeAt p l s) {i : Nat} (hi : i < p.length) (h : fellsB p (allB p l s) (i : Int) = true) : statusB p l s i = 3 := by
 unfold fellsB at h
 rw [allB_rd p l s hi, Bool.and_eq_true, beq_iff_eq] at h
 exact h.1
end
end Go.Proofs.YtloijngccppfgaaGreat.Pure
end

section
namespace Go.Proofs.YtloijngccppfgaaGreat.F
open Go.RowKit Go.Proofs.YtloijngccppfgaaGreatW.PrintWords Go.Proofs.YtloijngccppfgaaGreatW.PrintLast Go.Proofs.YtloijngccppfgaaGreatW.PrintMore
attribute [local go_sem] max2_int min2_int max_two min_two max_three min_three max_four min_four
set_option linter.unusedVariables false
set_option linter.unusedSimpArgs false
open Go.Proofs.YtloijngccppfgaaGreat.Pure
set_option maxHeartbeats 8000000 in
set_option maxRecDepth 100000 in
theorem kids_walk {w : World} {g : Nat} {p : List S39} {A : Option Addr} {c : Nat} (h : ViewAt w g p A c) (hn64 : p.length ≤ 64) (a k : Int) : Calls Tryz.prog 67 #[.pointer (some ⟨g, 0, none⟩), .int .i64 a, .int .i64 k] w fun e w' => ∃ v, e = .returned v ∧ Kd.R (Kd.int .i64) 3 w' w.heap.size (fun _ => True) v (kidsL p a k) ∧ Below w.heap.size w w' := by
 have HH := Aside0.mk h
 have HHS := Aside0.mk (has_walk h a)
 have y0 := h.cell
 unfold kidsL
 cases hb : hasB p a with
 | false =>
  rw [hb] at HHS
  clear h y0
  go_enter Tryz.func67, Tryz.ntmps67
  go_wp2_with (go_at_call 66; refine HHS.out.mono ?_; rintro e w2 ⟨rfl, rfl⟩)
  go_ret
  exact ⟨_, rfl, Kd.R_nil _ _ _ _ _, Below.refl _ _⟩
 | true =>
  rw [hb] at HHS
  have HGQ : Aside0 (∀ i : Nat, kidQ p a k i = (decide (0 < i) && ((rd_T39 p (i : Int)).f5 == a && (rd_T39 p (i : Int)).f6 == k))) := ⟨fun i => rfl⟩
  generalize kidQ p a k = G at HGQ ⊢
  obtain ⟨L, hL⟩ : ∃ L, (if true = true then List.map Int.ofNat ((List.range' 0 p.length).filter G) else []) = L := ⟨_, rfl⟩
  have HL : Aside0 (List.map Int.ofNat ((List.range' 0 p.length).filter G) = L) := ⟨hL⟩
  rw [hL]
  clear h hb hL
  go_enter Tryz.func67, Tryz.ntmps67
  go_wp2_with (go_at_call 66; refine HHS.out.mono ?_; rintro e w2 ⟨rfl, rfl⟩)
  clear y0
  go_loopg [7, 20] p.length (fun kq v7 v20 w' => ∃ (i : Nat) (out : List Int), i + kq = p.length ∧ v20 = .int .i64 i ∧ (∃ A c, v7 = .slice A out.length c) ∧ Aside0 (out.length ≤ i) ∧ Aside0 (out ++ List.map Int.ofNat ((List.range' i kq).filter G) = L) ∧ Aside0 (Kd.R (Kd.int .i64) 3 w' w2.heap.size (fun _ => True) v7 out) ∧ Aside0 (Below w2.heap.size w2 w'))
  case atStart => exact ⟨0, [], by omega, rfl, ⟨none, 0, rfl⟩, ⟨Nat.le_refl _⟩, ⟨by rw [← HL.out]; rfl⟩, ⟨Kd.R_nil _ _ _ _ _⟩, ⟨Below.refl _ _⟩⟩
  case round =>
   obtain ⟨i, out, hi, rfl, ⟨A5, c5, rfl⟩, HO1, HA, HO, HB⟩ := hrel
   cases gk with
   | zero =>
    have HE : Aside0 (out = L) := ⟨by have := HA.out; simpa using this⟩
    obtain rfl : i = p.length := by omega
    clear hi HA
    go_wp2
    go_ret
    exact ⟨_, rfl, by rw [← HE.out]; exact HO.out, HB.out⟩
   | succ d =>
    have h0 : (0 : Int) ≤ i := by omega
    have h1 : (i : Int) < (p.length : Int) := by omega
    have HI := Aside0.mk hi
    have HOL : Aside0 (out.length < 64) := ⟨by have := HO1.out; omega⟩
    have HA1 : Aside0 (out ++ (List.map Int.ofNat ((if G i then [i] else []) ++ (List.range' (i + 1) d).filter G)) = L) := ⟨by
     have := HA.out
     rw [List.range'_succ, List.filter_cons] at this
     rw [← this]
     split <;> simp⟩
    have hv := HH.out.below HB.out
    have HGI := Aside0.mk (HGQ.out i)
    obtain ⟨ai2, A72, c72, e1, q0, q1, q2, q3, q4, q5, q6, q7, l7, g7⟩ := at_T39 hv.pl (i : Int) h0 h1
    subst e1
    rw [Int.toNat_natCast] at q0 q1 q2 q3 q4 q5 q6 q7
    generalize rd_T39 p (i : Int) = x at q0 q1 q2 q3 q4 q5 q6 q7 l7 g7 HGI
    obtain ⟨p0, p1, p2, p3, p4, p5, p6, p7⟩ := x
    dsimp only at q0 q1 q2 q3 q4 q5 q6 q7 l7 g7 HGI
    obtain ⟨gi, hgi⟩ : ∃ b, G i = b := ⟨_, rfl⟩
    rw [hgi] at HA1 HGI
    have HBA := Aside0.mk (below_alloc HB.out (.cells #[.string p0, .string p1, .bool p2, .bool p3, .int .i64 p4, .int .i64 p5, .int .i64 p6, .slice A72 p7.length c72] 39 (0, 0)))
    have HOA := Aside0.mk (Kd.R_alloc HO.out (.cells #[.string p0, .string p1, .bool p2, .bool p3, .int .i64 p4, .int .i64 p5, .int .i64 p6, .slice A72 p7.length c72] 39 (0, 0)))
    clear hi hgi hv l7 g7 HA
    by_cases c0 : ¬ (i : Int) > 0
    ·have HX : Aside0 (gi = false) := ⟨by rw [HGI.out]; have : decide (0 < i) = false := decide_eq_false (by omega); rw [this]; rfl⟩
     go_wp2
     go_roundg d
     case measure => omega
     case rel => exact ⟨i + 1, out, by have := HI.out; omega, by go_num, ⟨A5, c5, rfl⟩, ⟨by have := HO1.out; omega⟩, ⟨by have := HA1.out; rw [HX.out] at this; simpa using this⟩, HOA, HBA⟩
    ·have HP : Aside0 (decide (0 < i) = true) := ⟨decide_eq_true (by omega)⟩
     replace c0 : (i : Int) > 0 := Decidable.not_not.1 c0
     cases c5 : p5 == a
     ·have HX : Aside0 (gi = false) := ⟨by rw [HGI.out, HP.out, c5]; rfl⟩
      go_wp2
      go_roundg d
      case measure => omega
      case rel => exact ⟨i + 1, out, by have := HI.out; omega, by go_num, ⟨A5, _, rfl⟩, ⟨by have := HO1.out; omega⟩, ⟨by have := HA1.out; rw [HX.out] at this; simpa using this⟩, HOA, HBA⟩
     ·cases c6 : p6 == k
      ·have HX : Aside0 (gi = false) := ⟨by rw [HGI.out, HP.out, c5, c6]; rfl⟩
       go_wp2
       go_roundg d
       case measure => omega
       case rel => exact ⟨i + 1, out, by have := HI.out; omega, by go_num, ⟨A5, _, rfl⟩, ⟨by have := HO1.out; omega⟩, ⟨by have := HA1.out; rw [HX.out] at this; simpa using this⟩, HOA, HBA⟩
      ·have HX : Aside0 (gi = true) := ⟨by rw [HGI.out, HP.out, c5, c6]; rfl⟩
       go_wp2_with (((with_reducible refine gate_builtin (b := .append) (xs := #[.tmp 39, .tmp 41]) rfl ?_); (try (refine gate_guard (by rfl) ?_; dsimp only)); at_builtin; refine Kd.R_append (Kd.int .i64) (w0 := w2) w2.heap.size rfl (.tmp 39) (.tmp 41) 28 3 (.int .i64 0) 8 rfl Tryz.underlying28 info3_ rfl (by decide) (by omega) (.slice A5 out.length _) out (i : Int) [.int .i64 (i : Int)] (fun _ => True) (fun _ => False) rfl (by simp [Act.eval]) ?aP (fun _ hk => hk.elim) ?aF ?aO ?aB ?aS ?aL ?_; (case aP => exact rfl); (case aF => exact (fun _ _ => trivial)); (case aO => exact (by (with_reducible repeat (first | apply Kd.R_alloc | apply Kd.R_drewN | apply Kd.R_drew)); exact HO.out)); (case aB => exact HBA.out); (case aS => exact HBA.out.size); (case aL => have := HOL.out; omega); intro v4 w4 ho hb hg hat; have HO4 := Aside0.mk ho; have HB4 := Aside0.mk hb; obtain ⟨A4, c4, hv4⟩ := Kd.R_slice ho; clear ho hb hg hat))
       subst hv4
       go_roundg d
       case measure => omega
       case rel => exact ⟨i + 1, out ++ [(i : Int)], by have := HI.out; omega, by go_num, ⟨A4, c4, by simp⟩, ⟨by have := HO1.out; simp; omega⟩, ⟨by have := HA1.out; rw [HX.out] at this; simpa using this⟩, ⟨by have h := HO4.out; simpa using h⟩, HB4⟩
theorem above_any {w : World} {g : Nat} {p : List S39} {A : Option Addr} {c : Nat} (h : ViewAt w g p A c) (hu : UpP p) (i : Int) : Calls Tryz.prog 40 #[.pointer (some ⟨g, 0, none⟩), .int .i64 i] w fun e w' => ∃ v, e = .returned v ∧ Kd.R (Kd.int .i64) 3 w' w.heap.size (fun _ => True) v (aboveL p i) ∧ Below w.heap.size w w' := by
 cases hb : hasB p i with
 | true =>
  unfold hasB at hb
  simp only [Bool.and_eq_true, decide_eq_true_eq] at hb
  obtain ⟨n, rfl⟩ := Int.eq_ofNat_of_zero_le hb.1
  exact above_walk_ h hu n (by omega)
 | false =>
  have HHS := Aside0.mk (has_walk h i)
  have HE : Aside0 (aboveL p i = []) := ⟨by unfold aboveL; rw [hb]; rfl⟩
  rw [hb] at HHS
  clear h hu hb
  go_enter Tryz.func40, Tryz.ntmps40
  go_wp2_with (go_at_call 66; refine HHS.out.mono ?_; rintro e w2 ⟨rfl, rfl⟩)
  go_ret
  exact ⟨_, rfl, by rw [HE.out]; exact Kd.R_nil _ _ _ _ _, Below.refl _ _⟩
theorem above_none (i : Int) (w : World) : Calls Tryz.prog 40 #[.pointer none, .int .i64 i] w fun e w' => e = .returned (.slice none 0 0) ∧ w' = w := by
 go_enter Tryz.func40, Tryz.ntmps40
 go_wp2_with (go_at_call 66; refine (has_none i w).mono ?_; rintro e w2 ⟨rfl, rfl⟩)
 go_ret
 exact ⟨rfl, rfl⟩
end Go.Proofs.YtloijngccppfgaaGreat.F
end

section
namespace Go.Proofs.YtloijngccppfgaaGreat.F
open Go.RowKit Go.Proofs.YtloijngccppfgaaGreatW.PrintWords Go.Proofs.YtloijngccppfgaaGreatW.PrintLast Go.Proofs.YtloijngccppfgaaGreatW.PrintMore
attribute [local go_sem] max2_int min2_int max_two min_two max_three min_three max_four min_four
set_option linter.unusedVariables false
set_option linter.unusedSimpArgs false
open Go.Proofs.YtloijngccppfgaaGreat.Pure
structure WhyAt (w : World) (g : Nat) (p : List S39) (A : Option Addr) (c : Nat) (l : List S50) (Al : Option Addr) (cl : Nat) (S : List Int) (As : Option Addr) (cs gv : Nat) : Prop where
 blk : w.heap[g]? = some (.cells #[.slice A p.length c, .slice Al l.length cl, .slice As S.length cs, .pointer (some ⟨gv, 0, none⟩)] 106 (0, 0))
 st : Kd.C (Kd.int .i64) w As S.length S
 vw : ViewAt w gv p A c
 up : UpP p
 len : l.length = p.length ∧ S.length = p.length ∧ 0 < p.length
theorem WhyAt.below {w w' : World} {g : Nat} {p : List S39} {A : Option Addr} {c : Nat} {l : List S50} {Al : Option Addr} {cl : Nat} {S : List Int} {As : Option Addr} {cs gv : Nat} (h : WhyAt w g p A c l Al cl S As cs gv) (hb : Below w.heap.size w w') : WhyAt w' g p A c l Al cl S As cs gv := ⟨blk_below h.blk hb, Kd.C_below h.st hb, h.vw.below hb, h.up, h.len⟩
def WSeenP (p : List S39) (A : Option Addr) (c : Nat) (l : List S50) (Al : Option Addr) (cl : Nat) (w : World) (r : Option Nat) (w' : World) : Prop :=
 Below w.heap.size w w' ∧ match r with | some g => factsB p l = true ∧ ∃ As cs gv, WhyAt w' g p A c l Al cl (allB p l (madeS p l)) As cs gv | none => factsB p l = false
theorem WSeenP.some_ {p : List S39} {A : Option Addr} {c : Nat} {l : List S50} {Al : Option Addr} {cl : Nat} {w w' : World} {r : Option Nat} (h : WSeenP p A c l Al cl w r w') (hf : factsB p l = true) : ∃ g As cs gv, r = some g ∧ WhyAt w' g p A c l Al cl (allB p l (madeS p l)) As cs gv := by
 cases r with
 | none => have := h.2; rw [hf] at this; cases this
 | some g => obtain ⟨As, cs, gv, h3⟩ := h.2.2; exact ⟨g, As, cs, gv, rfl, h3⟩
theorem WSeenP.none_ {p : List S39} {A : Option Addr} {c : Nat} {l : List S50} {Al : Option Addr} {cl : Nat} {w w' : World} {r : Option Nat} (h : WSeenP p A c l Al cl w r w') (hf : factsB p l = false) : r = none := by
 cases r with
 | none => rfl
 | some g => have := h.2.1; rw [hf] at this; cases this
theorem SeeP.some_ {p : List S39} {Ap : Option Addr} {cp : Nat} {l : List S50} {w w' : World} {r : Option Nat} (h : SeeP p Ap cp l w r w') (hf : factsB p l = true) : ∃ g, r = some g := by
 cases r with
 | none => rw [h.hasnt] at hf; cases hf
 | some g => exact ⟨g, rfl⟩
theorem SeeP.none_ {p : List S39} {Ap : Option Addr} {cp : Nat} {l : List S50} {w w' : World} {r : Option Nat} (h : SeeP p Ap cp l w r w') (hf : factsB p l = false) : r = none := by
 cases r with
 | none => rfl
 | some g => have := h.has.1; rw [hf] at this; cases this
theorem ViewP.some_ {p : List S39} {A : Option Addr} {c : Nat} {w w' : World} {r : Option Nat} (h : ViewP p A c w r w') (hf : rightB p = true) : ∃ g, r = some g ∧ ViewAt w' g p A c := by
 cases r with
 | none => have := h.2; rw [hf] at this; cases this
 | some g => exact ⟨g, rfl, h.2.2.1⟩
set_option maxHeartbeats 8000000 in
set_option maxRecDepth 100000 in
theorem why_seen_walk (p : List S39) (A : Option Addr) (c : Nat) (l : List S50) (Al : Option Addr) (cl : Nat) (w : World) (hp : Kd.C k39 w A p.length p) (hcp : p.length ≤ c) (hl : Kd.C k50 w Al l.length l) (hcl : l.length ≤ cl) (hok : okArgs p l = true) :
  Calls Tryz.prog 32 #[.agg #[.slice A p.length c], .slice Al l.length cl] w fun e w' => ∃ r, e = .returned (ptrV r) ∧ WSeenP p A c l Al cl w r w' := by
 unfold okArgs at hok
 rw [Bool.and_eq_true, decide_eq_true_eq] at hok
 have HP := Aside0.mk hp
 have HB0 := Aside0.mk (below_alloc (Below.refl w.heap.size w) (.cells #[.slice A p.length c] 24 (0, 0)))
 have HG0 := Aside0.mk (blk_new w (.cells #[.slice A p.length c] 24 (0, 0)))
 have HSW := Aside0.mk (fun (W : World) (hb : Below w.heap.size w W) => see_walk p A c l Al cl W (Kd.C_below hp hb) hcp (Kd.C_below hl hb) hcl hok.1 hok.2)
 have HPW := Aside0.mk (fun (W : World) (hb : Below w.heap.size w W) => plan_see_walk p A c W (Kd.C_below hp hb) hcp hok.1)
 clear hp hcp hl hcl hok
 obtain ⟨v, hv⟩ : ∃ v, factsB p l = v := ⟨_, rfl⟩
 have HV := Aside0.mk hv
 rw [hv] at HSW
 clear hv
 cases v with
 | false =>
  simp only [Bool.false_eq_true, if_false] at HSW
  go_enter Tryz.func32, Tryz.ntmps32
  go_wp2_with (go_at_call 37; refine (HSW.out _ HB0.out).mono ?_; rintro e w2 ⟨r, rfl, hm⟩; obtain rfl := hm.none_ HV.out; dsimp only [ptrV]; have HM := Aside0.mk (HB0.out.trans (hm.1.mono HB0.out.size)); clear hm)
  go_ret
  exact ⟨none, rfl, HM.out, HV.out⟩
 | true =>
  have hf := HV.out
  obtain ⟨hln, hsh⟩ := facts_shape hf
  have HUP := Aside0.mk (shape_up hsh)
  have HN0 := Aside0.mk (shape_few hsh).1
  have HLN := Aside0.mk hln
  have HRT : Aside0 (rightB p = true) := ⟨(facts_made hf).2.1⟩
  have HAL := Aside0.mk (allB_len p l (madeS p l))
  rw [HRT.out] at HPW
  simp only [if_true] at HSW HPW
  clear hf hln hsh
  go_enter Tryz.func32, Tryz.ntmps32
  go_upto_region 7 with (first
   | (go_at_call 37; refine (HSW.out _ HB0.out).mono ?_; rintro e w2 ⟨r, rfl, hm⟩; obtain ⟨gb, rfl⟩ := hm.some_ HV.out; dsimp only [ptrV]; have HM := Aside0.mk hm; have HB2 := Aside0.mk (HB0.out.trans (hm.1.mono HB0.out.size)); have HG2 := Aside0.mk (blk_below HG0.out hm.1); clear hm; have x0 : w2.cell? ⟨w.heap.size, 0, none⟩ = some (.slice A p.length c) := (blk_cell HG2.out 0).trans rfl)
   | (go_at_call 60; refine (HPW.out _ HB2.out).mono ?_; rintro e w3 ⟨r, rfl, hm⟩; obtain ⟨gv, rfl, hvw⟩ := hm.some_ HRT.out; dsimp only [ptrO]; have HVW := Aside0.mk hvw; have HB3 := Aside0.mk (HB2.out.trans (hm.1.mono HB2.out.size)); have HB23 := Aside0.mk hm.1; have HG3 := Aside0.mk (blk_below HG2.out hm.1); clear hm hvw x0; have x0 : w3.cell? ⟨w.heap.size, 0, none⟩ = some (.slice A p.length c) := (blk_cell HG3.out 0).trans rfl))
  obtain ⟨-, -, -, Al2, cl2, hbd⟩ := HM.out.has
  have HAW := Aside0.mk (all_walk (hbd.below (below_drewN HB23.out 1)))
  clear hbd
  go_region_with (go_at_call 38; have hA_ := HAW.out; refine hA_.mono ?_; clear hA_; rintro e w4 ⟨v4, rfl, hR, hb⟩; obtain ⟨A4, c4, rfl⟩ := Kd.R_slice hR; have HB34 := Aside0.mk hb; have HR4 := Aside0.mk hR; have x4 : w4.cell? ⟨w.heap.size, 0, none⟩ = some (.slice A p.length c) := (blk_cell (blk_below (blk_drew HG3.out) hb) 0).trans rfl; clear hR hb)
  all_goals
   go_wp2
   go_ret
   have hb3 := (below_drewN (Below.refl w3.heap.size w3) 1).trans (HB34.out.mono (Nat.le_of_eq rfl))
   exact ⟨some w4.heap.size, rfl, below_alloc (HB3.out.trans (hb3.mono HB3.out.size)) _, HV.out, A4, c4, gv, ⟨blk_new _ _, Kd.C_alloc (Kd.R_reads' HR4.out).2.2 _, HVW.out.below (below_alloc hb3 _), HUP.out, HLN.out, HAL.out, HN0.out⟩⟩
section
variable {w : World} {g : Nat} {p : List S39} {A : Option Addr} {c : Nat} {l : List S50} {Al : Option Addr} {cl : Nat} {S : List Int} {As : Option Addr} {cs gv : Nat}
theorem why_has_none (i : Int) (w : World) : Calls Tryz.prog 33 #[.pointer none, .int .i64 i] w fun e w' => e = .returned (.bool false) ∧ w' = w := by
 go_enter Tryz.func33, Tryz.ntmps33
 go_wp2
 go_ret
 exact ⟨rfl, rfl⟩
theorem why_has_walk (h : WhyAt w g p A c l Al cl S As cs gv) (i : Int) : Calls Tryz.prog 33 #[.pointer (some ⟨g, 0, none⟩), .int .i64 i] w fun e w' => e = .returned (.bool (decide (0 ≤ i) && decide (i < (l.length : Int)))) ∧ w' = w := by
 have y1 : w.cell? ⟨g, 1, none⟩ = some (.slice Al l.length cl) := (blk_cell h.blk 1).trans rfl
 clear h
 by_cases h0 : 0 ≤ i
 ·rw [decide_eq_true h0]
  go_enter Tryz.func33, Tryz.ntmps33
  go_wp2
  go_ret
  exact ⟨by simp, rfl⟩
 ·rw [decide_eq_false h0]
  go_enter Tryz.func33, Tryz.ntmps33
  go_wp2
  go_ret
  exact ⟨rfl, rfl⟩
set_option maxHeartbeats 4000000 in
theorem fells_walk (h : WhyAt w g p A c l Al cl S As cs gv) (i : Nat) (hi : i < p.length) : Calls Tryz.prog 69 #[.pointer (some ⟨g, 0, none⟩), .int .i64 i] w fun e w' => e = .returned (.bool (fellsB p S i)) ∧ w' = w := by
 have y0 : w.cell? ⟨g, 0, none⟩ = some (.slice A p.length c) := (blk_cell h.blk 0).trans rfl
 have y2 : w.cell? ⟨g, 2, none⟩ = some (.slice As S.length cs) := (blk_cell h.blk 2).trans rfl
 have hl := h.len
 have h0 : (0 : Int) ≤ i := by omega
 have h1 : (i : Int) < (p.length : Int) := by omega
 have h2 : (i : Int) < (S.length : Int) := by omega
 obtain ⟨ad, e0, hs0⟩ := Kd.at_int h.st (i : Int) h0 h2
 obtain ⟨ai, A7, c7, e1, q0, q1, q2, q3, q4, q5, q6, q7, -, -⟩ := at_T39 h.vw.pl (i : Int) h0 h1
 clear h
 subst e0
 subst e1
 rw [Int.toNat_natCast] at hs0 q2 q3
 unfold fellsB
 generalize rd S (i : Int) = y at hs0 ⊢
 generalize (rd_T39 p (i : Int)).f2 = b2 at q2 ⊢
 generalize (rd_T39 p (i : Int)).f3 = b3 at q3 ⊢
 clear q0 q1 q4 q5 q6 q7 hl hi
 cases c1 : y == 3
 ·go_enter Tryz.func69, Tryz.ntmps69
  go_wp2
  go_ret
  exact ⟨rfl, rfl⟩
 ·cases b2
  all_goals
   go_enter Tryz.func69, Tryz.ntmps69
   go_wp2
   go_ret
   exact ⟨rfl, rfl⟩
theorem fells_lit (h : WhyAt w g p A c l Al cl S As cs gv) (gb : Nat) (hg : w.heap[gb]? = some (.cells #[.pointer (some ⟨g, 0, none⟩)] 71 (0, 0))) (i : Nat) (hi : i < p.length) : Calls Tryz.prog 68 (#[.int .i64 i] ++ #[.pointer (some ⟨gb, 0, none⟩)]) w fun e w' => e = .returned (.bool (fellsB p S i)) ∧ Below w.heap.size w w' := by
 have x0 : w.cell? ⟨gb, 0, none⟩ = some (.pointer (some ⟨g, 0, none⟩)) := (blk_cell hg 0).trans rfl
 have HF := Aside0.mk (fells_walk h i hi)
 clear h hg hi
 show Calls Tryz.prog 68 #[.int .i64 i, .pointer (some ⟨gb, 0, none⟩)] w _
 go_enter Tryz.func68, Tryz.ntmps68
 go_wp2_with (go_at_call 69; refine HF.out.mono ?_; rintro e w2 ⟨rfl, rfl⟩)
 go_ret
 exact ⟨rfl, Below.refl _ _⟩
set_option maxHeartbeats 8000000 in
set_option maxRecDepth 100000 in
theorem cause_walk (h : WhyAt w g p A c l Al cl S As cs gv) (a k : Int) : Calls Tryz.prog 41 #[.pointer (some ⟨g, 0, none⟩), .int .i64 a, .int .i64 k] w fun e w' => e = .returned (.int .i64 (causeI p S a k)) ∧ Below w.heap.size w w' := by
 have hmf : ∀ (fn : Fn) (first cap : Array Value) (w : World), (Instr.makeFunc fn first cap).run Tryz.prog w = .ok (.func fn first cap) w := fun _ _ _ _ => rfl
 have HE := Aside0.mk (enters_of Tryz.func68 (P := Tryz.prog) (f := 68) (by kernel_rfl) rfl)
 have HH := Aside0.mk h
 have HB0 := Aside0.mk (below_alloc (Below.refl w.heap.size w) (.cells #[.pointer (some ⟨g, 0, none⟩)] 71 (0, 0)))
 have HG0 := Aside0.mk (blk_new w (.cells #[.pointer (some ⟨g, 0, none⟩)] 71 (0, 0)))
 have HK0 := Aside0.mk (fun (W : World) (hb : Below w.heap.size w W) => kids_walk (h.below hb).vw h.up.1 a k)
 have y3 : (w.alloc (.cells #[.pointer (some ⟨g, 0, none⟩)] 71 (0, 0))).cell? ⟨g, 3, none⟩ = some (.pointer (some ⟨gv, 0, none⟩)) := (blk_cell (blk_below h.blk HB0.out) 3).trans rfl
 have HX : Aside0 (∀ x ∈ kidsL p a k, ∃ n : Nat, x = n ∧ n < p.length) := ⟨fun x hx => by obtain ⟨n, h1, -, h2, -⟩ := kidsL_mem hx; exact ⟨n, h1, h2⟩⟩
 have HIX := Aside0.mk (idxF_cases (fellsB p S) (kidsL p a k) 0)
 unfold causeI
 generalize kidsL p a k = ks at HK0 HX HIX ⊢
 have hix := HIX.out
 clear h HIX
 rcases hix with ⟨hi, -⟩ | ⟨n, hn, hi, -⟩
 ·have HI := Aside0.mk hi
  rw [hi, if_pos (by omega)]
  clear hi
  go_enter Tryz.func41, Tryz.ntmps41
  go_wp2_with (first
   | (go_at_call 67; refine (HK0.out _ HB0.out).mono ?_; rintro e w2 ⟨v, rfl, hR, hb⟩; have HB2 := Aside0.mk (HB0.out.trans (hb.mono HB0.out.size)); have HG2 := Aside0.mk (blk_below HG0.out hb); obtain ⟨A2, c2, rfl⟩ := Kd.R_slice hR; have HR2 := Aside0.mk (Kd.R_reads' hR).2.2; clear hb hR y3)
   | (go_at_call 62; refine (index_func_int 68 #[.pointer (some ⟨w.heap.size, 0, none⟩)] HE.out (fellsB p S) A2 c2 ks w2 HR2.out ?hp).mono ?_; (case hp => intro j hj W hW; obtain ⟨n, hn, hlt⟩ := HX.out ks[j] (List.getElem_mem hj); rw [hn]; exact fells_lit (HH.out.below (HB2.out.trans (hW.mono HB2.out.size))) w.heap.size (blk_below HG2.out hW) n hlt); rintro e w3 ⟨rfl, hb⟩; rw [HI.out]; have HB3 := Aside0.mk (HB2.out.trans (hb.mono HB2.out.size)); clear hb))
  go_ret
  exact ⟨rfl, HB3.out⟩
 ·have HI : Aside0 (idxF (fellsB p S) ks 0 = (n : Int)) := ⟨by rw [hi]; omega⟩
  have hn0 : (0 : Int) ≤ n := by omega
  have hn1 : (n : Int) < (ks.length : Int) := by omega
  rw [HI.out, if_neg (by omega)]
  clear hi hn
  go_enter Tryz.func41, Tryz.ntmps41
  go_wp2_with (first
   | (go_at_call 67; refine (HK0.out _ HB0.out).mono ?_; rintro e w2 ⟨v, rfl, hR, hb⟩; have HB2 := Aside0.mk (HB0.out.trans (hb.mono HB0.out.size)); have HG2 := Aside0.mk (blk_below HG0.out hb); obtain ⟨A2, c2, rfl⟩ := Kd.R_slice hR; have HR2 := Aside0.mk (Kd.R_reads' hR).2.2; clear hb hR y3)
   | (go_at_call 62; refine (index_func_int 68 #[.pointer (some ⟨w.heap.size, 0, none⟩)] HE.out (fellsB p S) A2 c2 ks w2 HR2.out ?hp).mono ?_; (case hp => intro j hj W hW; obtain ⟨n, hn, hlt⟩ := HX.out ks[j] (List.getElem_mem hj); rw [hn]; exact fells_lit (HH.out.below (HB2.out.trans (hW.mono HB2.out.size))) w.heap.size (blk_below HG2.out hW) n hlt); rintro e w3 ⟨rfl, hb⟩; rw [HI.out]; have HB3 := Aside0.mk (HB2.out.trans (hb.mono HB2.out.size)); obtain ⟨ad, e0, xs⟩ := Kd.at_int (Kd.C_below HR2.out hb) (n : Int) hn0 hn1; obtain rfl := e0; rw [Int.toNat_natCast] at xs; clear hb))
  go_ret
  exact ⟨rfl, HB3.out⟩
end
end Go.Proofs.YtloijngccppfgaaGreat.F
end

section
namespace Go.Proofs.YtloijngccppfgaaGreat.F
open Go.RowKit Go.Proofs.YtloijngccppfgaaGreatW.PrintWords Go.Proofs.YtloijngccppfgaaGreatW.PrintLast Go.Proofs.YtloijngccppfgaaGreatW.PrintMore
structure Stay (n : Nat) (X X' : World) : Prop where
 below : Below n X X'
 cells : ∀ (k : Nat) (o : Obj), o.isCells = true → X.heap[k]? = some o → X'.heap[k]? = some o
theorem Stay.mono {n m : Nat} {X X' : World} (h : Stay m X X') (hn : n ≤ m) : Stay n X X' := ⟨h.below.mono hn, h.cells⟩
theorem Stay.trans {n : Nat} {X Y Z : World} (h : Stay n X Y) (k : Stay n Y Z) : Stay n X Z := ⟨h.below.trans k.below, fun i o ho e => k.cells i o ho (h.cells i o ho e)⟩
theorem Stay.of_below {n m : Nat} {X X' : World} (h : Below m X X') (hm : X.heap.size ≤ m) (hn : n ≤ m) : Stay n X X' := ⟨h.mono hn, fun k _ _ e => (h.block k (Nat.lt_of_lt_of_le (Array.getElem?_eq_some_iff.1 e).1 hm)).trans e⟩
theorem Stay.alloc {n : Nat} {X : World} (o : Obj) (hn : n ≤ X.heap.size) : Stay n X (X.alloc o) := Stay.of_below ((Below.refl X.heap.size X).alloc (Nat.le_refl _) o) (Nat.le_refl _) hn
theorem Stay.refl (n : Nat) (X : World) : Stay n X X := ⟨Below.refl _ _, fun _ _ _ e => e⟩
theorem Stay.putObj {n l : Nat} {X : World} (o : Obj) (hn : n ≤ l) (hc : ∀ o : Obj, X.heap[l]? = some o → o.isCells = false) : Stay n X (X.putObj l o) :=
 ⟨below_putObj (Below.refl _ _) _ hn, fun k o ho e => (World.putObj_heap_other (fun h => by subst h; rw [hc o e] at ho; cases ho)).trans e⟩
def Calm (Ex : World → Nat → Prop) (n : Nat) : Prop := ∀ X X' : World, Below n X X' → ∀ k, Ex X' k → Ex X k
theorem Calm.mono {Ex : World → Nat → Prop} {n m : Nat} (h : Calm Ex n) (hm : n ≤ m) : Calm Ex m := fun X X' hb k => h X X' (hb.mono hm) k
structure KeepX (Ex : World → Nat → Prop) (B : Nat) (X X' : World) : Prop where
 size : X.heap.size ≤ X'.heap.size
 same : ∀ k, B ≤ k → k < X.heap.size → ¬ Ex X k → X'.heap[k]? = X.heap[k]? ∧ ¬ Ex X' k
section
variable {Ex : World → Nat → Prop}
theorem KeepX.trans {B : Nat} {X Y Z : World} (h : KeepX Ex B X Y) (k : KeepX Ex B Y Z) : KeepX Ex B X Z := ⟨Nat.le_trans h.size k.size, fun i hB hi hx => by
 obtain ⟨h1, h2⟩ := h.same i hB hi hx
 obtain ⟨h3, h4⟩ := k.same i hB (Nat.lt_of_lt_of_le hi h.size) h2
 exact ⟨h3.trans h1, h4⟩⟩
theorem KeepX.mono {B B' : Nat} {X Y : World} (h : KeepX Ex B X Y) (hb : B ≤ B') : KeepX Ex B' X Y := ⟨h.size, fun i hi => h.same i (Nat.le_trans hb hi)⟩
theorem KeepX.blk {B : Nat} {X Y : World} (h : KeepX Ex B X Y) {k : Nat} {o : Obj} (hB : B ≤ k) (hk : X.heap[k]? = some o) (hx : ¬ Ex X k) : Y.heap[k]? = some o ∧ ¬ Ex Y k := by
 obtain ⟨h1, h2⟩ := h.same k hB (Array.getElem?_eq_some_iff.1 hk).1 hx
 exact ⟨h1.trans hk, h2⟩
theorem KeepX.of_below {B n m : Nat} {X Y : World} (hc : Calm Ex n) (h : Below m X Y) (hm : X.heap.size ≤ m) (hn : n ≤ m) : KeepX Ex B X Y := ⟨h.size, fun i _ hi hx => ⟨h.block i (Nat.lt_of_lt_of_le hi hm), fun hy => hx (hc X Y (h.mono hn) i hy)⟩⟩
theorem KeepX.putObj {B l n : Nat} {X : World} (hc : Calm Ex n) (o : Obj) (hn : n ≤ l) (hl : l < B) : KeepX Ex B X (X.putObj l o) := ⟨by simp, fun k hk _ hx => ⟨World.putObj_heap_other (by omega), fun hy => hx (hc X _ (below_putObj (Below.refl _ _) _ hn) k hy)⟩⟩
def IterX {α : Type} (P : Program) (gf : Nat) (lb : Array Value) (VK : α → Array Value → Prop) (S : List α) (D : World → Prop) : Prop :=
 ∀ (l : Nat) (J : List α → World → Prop) (Jp : World → List PanicEntry → Prop) (Ex : World → Nat → Prop) (W : World), J [] W → (∀ s X, J s X → D X) →
  (∀ s X X', J s X → Stay W.heap.size X X' → J s X') → (∀ X X' ch, Jp X ch → Below W.heap.size X X' → Jp X' ch) →
  Calm Ex W.heap.size → (∀ s X, J s X → ∀ k, Ex X k → k < X.heap.size) →
  (∀ s v t args X, S = s ++ v :: t → J s X → VK v args → YieldP 0 P l args X fun e X' => KeepX Ex W.heap.size X X' ∧ ((e = .returned (.bool true) ∧ J (s ++ [v]) X') ∨ ∃ ch, e = .panicked ch ∧ Jp X' ch)) →
  CallsIn Fence.wide 0 P gf (#[.func (.yield l) #[] #[]] ++ lb) W fun e W' => (∃ v, e = .returned v ∧ J S W') ∨ ∃ ch, e = .panicked ch ∧ Jp W' ch
def roundX {α : Type} (Ex : World → Nat → Prop) (B : Nat) (J : List α → World → Prop) (Jp : World → List PanicEntry → Prop) (s : List α) (X : World) : Exit → Act → World → Prop
 | .normal, _, X' => KeepX Ex B X X' ∧ J s X'
 | .panic ch, a, X' => a.defers = [] ∧ KeepX Ex B X X' ∧ Jp X' ch
 | _, _, _ => False
end
structure MarksX (Ex : World → Nat → Prop) (B : Nat) (X : World) (ds : List Nat) : Prop where
 nodup : ds.Nodup
 here : ∀ r, r ∈ ds → B ≤ r ∧ X.heap[r]? = some (.deferred (some []))
 free : ∀ r, r ∈ ds → ¬ Ex X r
section
variable {Ex : World → Nat → Prop}
theorem MarksX.nil (B : Nat) (X : World) : MarksX Ex B X [] := ⟨List.nodup_nil, fun r h => (by cases h), fun r h => (by cases h)⟩
theorem MarksX.keep {B : Nat} {X X' : World} {ds : List Nat} (h : MarksX Ex B X ds) (hk : KeepX Ex B X X') : MarksX Ex B X' ds := ⟨h.nodup, fun r hr => ⟨(h.here r hr).1, (hk.blk (h.here r hr).1 (h.here r hr).2 (h.free r hr)).1⟩, fun r hr => (hk.blk (h.here r hr).1 (h.here r hr).2 (h.free r hr)).2⟩
theorem MarksX.lt {B : Nat} {X : World} {ds : List Nat} (h : MarksX Ex B X ds) : ∀ r ∈ ds, r < X.heap.size := fun r hr => (Array.getElem?_eq_some_iff.1 (h.here r hr).2).1
theorem MarksX.below {B n m : Nat} {X X' : World} {ds : List Nat} (h : MarksX Ex B X ds) (hc : Calm Ex m) (hm : m ≤ n) (hb : Below n X X') (hlt : ∀ r ∈ ds, r < n) : MarksX Ex B X' ds := ⟨h.nodup, fun r hr => ⟨(h.here r hr).1, (hb.block r (hlt r hr)).trans (h.here r hr).2⟩, fun r hr hx => h.free r hr (hc X X' (hb.mono hm) r hx)⟩
theorem MarksX.cons {B d : Nat} {X : World} {ds : List Nat} (h : MarksX Ex B X ds) (hd : B ≤ d) (hn : d ∉ ds) (hh : X.heap[d]? = some (.deferred (some []))) (hx : ¬ Ex X d) : MarksX Ex B X (d :: ds) :=
 ⟨List.nodup_cons.2 ⟨hn, h.nodup⟩, fun r hr => (List.mem_cons.1 hr).elim (fun e => by subst e; exact ⟨hd, hh⟩) (fun hr => h.here r hr), fun r hr => (List.mem_cons.1 hr).elim (fun e => by subst e; exact hx) (fun hr => h.free r hr)⟩
end
theorem leaves_marksX {P : Program} {fn : Func} {tmps : Array Value} {R : Ending → World → Prop} {B : Nat} {Ex : World → Nat → Prop} (hc : Calm Ex B) (u : FrameMode) (hu : u ≠ .run) : ∀ (ds : List Nat) (w : World), MarksX Ex B w ds → (∀ W, Stay B w W → LeavesInM Fence.wide 0 P fn tmps R [] u W) → LeavesInM Fence.wide 0 P fn tmps R (ds.map markOf) u w
 | [], w, _, h => h w (Stay.refl _ _)
 | r :: ds, w, hm, h => by
  have h1 := hm.here r List.mem_cons_self
  refine ⟨hu, .inl ⟨r, w.putObj r (.deferred none), rfl, run_takeDeferred h1.2, ?_⟩⟩
  have hb : Stay B w (w.putObj r (.deferred none)) := Stay.putObj _ h1.1 (fun o e => by rw [h1.2] at e; cases e; rfl)
  refine leaves_marksX hc u hu ds _ ⟨(List.nodup_cons.1 hm.nodup).2, fun r' hr' => ⟨(hm.here r' (List.mem_cons_of_mem _ hr')).1, ?_⟩, fun r' hr' hx => hm.free r' (List.mem_cons_of_mem _ hr') (hc _ _ hb.below r' hx)⟩ (fun W hW => h W (hb.trans hW))
  exact (World.putObj_heap_other (fun e => by subst e; exact (List.nodup_cons.1 hm.nodup).1 hr')).trans (hm.here r' (List.mem_cons_of_mem _ hr')).2
theorem run_append_fresh {P : Program} (w : World) (base : Nat) (t ty e : TypeId) (i : TypeInfo) (z : Value) (size bytes : Nat) (ht : P.underlying t = some (.slice e)) (hi : P.info? e = some i) (hz : i.zero = some z)
  (hsize : i.size = size) (hby : i.bytes = bytes) (hzs : z.cells.size = size) (hsz : 0 < size)
  (v : Value) (n : Nat) (xs : List Value) (hown : w.ownsRow base e size v n xs)
  (a : Addr) (m c : Nat) (news : List Value) (hl : news.length = m * size) (hnews : ∀ j u, news[j]? = some u → w.cell? (a.add j) = some u) (h1 : ∀ u ∈ news, u.oneCell' = true)
  (h63 : n + m ≤ maxLen) (hbytes : (n + m) * bytes ≤ 140737488355328) (hbase : base ≤ w.heap.size) :
  ∃ v' w', (Builtin.append_ #[t, t] ty #[v, .slice (some a) m c]).run P w = .ok v' w' ∧ w'.ownsRow base e size v' (n + m) (xs ++ news) ∧ w.grownBy w' v.ownBlock ∧
   (v'.ownBlock = v.ownBlock ∨ v'.ownBlock = some w.heap.size) := by
 obtain ⟨v', w', q1, q2, q3, q4⟩ := run_append_own (P := P) w base t ty e i z size bytes ht hi hz hsize hby hzs hsz v n xs hown a m c news hl hnews h1 h63 hbytes hbase
 refine ⟨v', w', q1, q2, q3, ?_⟩
 subst hsize
 subst hby
 have hsmall : n + m ≤ 9223372036854775807 := by simp only [maxLen] at h63; omega
 rcases hown.2 with ⟨rfl, rfl⟩ | ⟨g, cap, cur, rfl, hbg, hg, hnc, hcm, hcs, htake⟩
 ·by_cases hm : m = 0
  ·rw [q4.2 ⟨rfl, hm⟩]; exact .inl rfl
  ·have hr := run_append_nil (P := P) w t ty e i z ht hi hz a m c news hl hnews (by omega) (by omega) (by have hb := hbytes; simp only [Nat.zero_add] at hb; omega)
   rw [hr] at q1
   injection q1 with e1 e2
   subst e1
   exact .inr rfl
 ·by_cases hroom : n + m ≤ cap
  ·have hfit : n * i.size + news.length ≤ cur.size := by rw [hl, hcs, ← Nat.add_mul]; exact Nat.mul_le_mul_right _ hroom
   have hr := run_append_room (P := P) w t ty e i ht hi g n cap cur hg a m c news hl hnews h1 hroom hfit
   rw [hr] at q1
   injection q1 with e1 e2
   subst e1
   exact .inl rfl
  ·have holds : ∀ j u, xs[j]? = some u → w.cell? ((⟨g, 0, none⟩ : Addr).add j) = some u := hown.cells (g := g) rfl
   have hr := run_append_grow (P := P) w t ty e i z ht hi hz ⟨g, 0, none⟩ n cap xs hown.1 holds a m c news hl hnews (by omega) (by omega) (growslice_fits (by omega) hbytes)
   rw [hr] at q1
   injection q1 with e1 e2
   subst e1
   exact .inr rfl
theorem wpListIn_append_fresh {F : Fence} {n : Nat} {P : Program} (w : World) {ops : Array Oper} {rest : List Oper} {o : Oper} {a : Act} {Q : Exit → Act → World → Prop}
  (hg : o.guard = none) (s x : Operand) (t : TypeId) (hop : o.op = Op.call { callee := Callee.builtin Builtin.append, args := #[s, x], argTypes := #[t, t] })
  (base : Nat) (e : TypeId) (i : TypeInfo) (z : Value) (size bytes : Nat) (h1 : P.underlying t = some (.slice e)) (h2 : P.info? e = some i) (h3 : i.zero = some z) (h4 : i.size = size) (h5 : i.bytes = bytes) (h6 : z.cells.size = size) (h7 : 0 < size)
  (v : Value) (k : Nat) (xs : List Value) (hs : a.eval s = v) (hown : w.ownsRow base e size v k xs) (ad : Addr) (m c : Nat) (news : List Value) (hx : a.eval x = .slice (some ad) m c) (hn : news.length = m * size)
  (hc : ∀ j u, news[j]? = some u → w.cell? (ad.add j) = some u) (h1c : ∀ u ∈ news, u.oneCell' = true) (b1 : k + m ≤ maxLen) (b2 : (k + m) * bytes ≤ 140737488355328) (b3 : base ≤ w.heap.size)
  (hK : ∀ v' w', w'.ownsRow base e size v' (k + m) (xs ++ news) → w.grownBy w' v.ownBlock → (v'.ownBlock = v.ownBlock ∨ v'.ownBlock = some w.heap.size) → wpListIn F n P ops Q rest (a.put o.dst v') w') :
  wpListIn F n P ops Q (o :: rest) a w := by
 refine wpListIn_plain hg fun K hK' => ?_
 obtain ⟨v', w', hrun, r1, r2, r3⟩ := run_append_fresh (P := P) w base t o.type e i z size bytes h1 h2 h3 h4 h5 h6 h7 v k xs hown ad m c news hn hc h1c b1 b2 b3
 unfold Oper.wpIn
 refine ⟨?_, ?_⟩
 ·simp [Oper.about, hop, resolve, Target.leads, Sem.run_pure]
 ·rw [Oper.semAt_plain F _ _ (by rw [hop]; intro c hc'; cases hc')]
  simp [execOp, hop, resolve, invoke, builtin, hs, hx, hrun, Result.andThen]
  exact hK' _ _ (hK v' w' r1 r2 r3)
theorem wpB_rangeFuncX {α : Type} {P : Program} {g0 : FuncId} {g : Operand} {ps : Array Tmp} {assign body : Code} {Q : Exit → Act → World → Prop} {a : Act} {w : World}
  {gf : Nat} {lb : Array Value} (hg : a.eval g = .func (.func gf) #[] lb) (eg : ∀ args w, (callFunc gf args).run P w = .ok (.enter gf args) w)
  (hf0 : ∃ f, P.funcs[g0]? = some f)
  {VK : α → Array Value → Prop} {S : List α} {D : World → Prop} (hIter : IterX P gf lb VK S D) (hsz : ∀ v args, VK v args → args.size = ps.size)
  (J : List α → World → Prop) (Jp : World → List PanicEntry → Prop) (h0 : J [] w) (hD : ∀ s X, J s X → D X)
  (Ex : World → Nat → Prop) (hcalm : Calm Ex w.heap.size) (hexl : ∀ s X, J s X → ∀ k, Ex X k → k < X.heap.size) (hst : ∀ s X X', J s X → Stay w.heap.size X X' → J s X') (hstp : ∀ X X' ch, Jp X ch → Below w.heap.size X X' → Jp X' ch)
  (hround : ∀ (l : Nat) s v t args X, S = s ++ v :: t → w.heap.size ≤ l → l < X.heap.size → J s X → VK v args → assign.wpIn (Fence.wide.inRound l) 0 P (Exit.then (fun a₁ X₁ => Below X.heap.size X X₁ ∧
   ∀ X₂, KeepX Ex (l + 1) X₁ X₂ → Stay l X₁ X₂ → body.wpIn (Fence.wide.inRound l) 0 P (roundX Ex w.heap.size J Jp (s ++ [v]) X₂) a₁ X₂) (fun _ _ _ => False))
   { tmps := (ps.zip args).foldl (fun t (p, v) => t.setIfInBounds p v) a.tmps, defers := [] } X)
  (hdone : ∀ (d : Nat) (W : World), w.heap.size ≤ d → J S W → W.heap[d]? = some (.deferred (some [])) → ¬ Ex W d → Q .normal { a with defers := markOf d :: a.defers } W)
  (hpanic : ∀ (d : Nat) (ch : List PanicEntry) (W : World), w.heap.size ≤ d → Jp W ch → W.heap[d]? = some (.deferred (some [])) → Q (.panic ch) { a with defers := markOf d :: a.defers } W) :
  wpB g0 P (Code.rangeFunc g ps assign body) Q a w := by
 refine wpB_rangeFunc ?_
 obtain ⟨rec, hrec⟩ : ∃ rec : LoopState → Option Code → Loop, rec = fun st pe => { state := st, pending := pe, fn := g0, tmps := a.tmps, params := ps, assign, body, defers := w.heap.size } := ⟨_, rfl⟩
 obtain ⟨W1, hW1⟩ : ∃ W1, (w.alloc (.deferred (some []))).alloc (.loop (rec .ready none)) = W1 := ⟨_, rfl⟩
 have hL1 : W1.heap[w.heap.size + 1]? = some (.loop (rec .ready none)) := by
  rw [← hW1]; have := World.alloc_heap_new (w.alloc (.deferred (some []))) (.loop (rec .ready none)); rwa [World.size_alloc] at this
 have hK1 : W1.heap[w.heap.size]? = some (.deferred (some [])) := by
  rw [← hW1]; exact (Below.heap_alloc _ _ _ (by simp)).trans (World.alloc_heap_new w _)
 have hB1 : Below w.heap.size w W1 := by rw [← hW1]; exact ((Below.refl _ w).alloc (Nat.le_refl _) _).alloc (by simp) _
 have hS1 : W1.heap.size = w.heap.size + 2 := by rw [← hW1]; simp
 have hne : ∀ k, w.heap.size ≤ k → ¬ Ex W1 k := fun k hk hx => by have := hexl _ _ h0 k (hcalm _ _ hB1 k hx); omega
 refine ⟨w.heap.size + 1, [{ target := .collected w.heap.size, args := #[] }], W1, { target := .fn (.func gf) lb, args := #[.func (.yield (w.heap.size + 1)) #[] #[]] }, W1, gf,
  #[.func (.yield (w.heap.size + 1)) #[] #[]] ++ lb, W1, ?_, ?_, ?_, ?_⟩
 ·rw [← hW1, hrec]; exact run_enterLoop_outer _ _ _ _ _
 ·simp only [resolve, hg]
  simp [go_sem]
 ·simp [invoke, go_sem, eg]
 ·refine (hIter (w.heap.size + 1)
   (fun s X => J s X ∧ X.heap[w.heap.size + 1]? = some (.loop (rec .ready none)) ∧ X.heap[w.heap.size]? = some (.deferred (some [])) ∧ ¬ Ex X (w.heap.size + 1) ∧ ¬ Ex X w.heap.size)
   (fun X ch => Jp X ch ∧ X.heap[w.heap.size]? = some (.deferred (some [])))
   Ex W1 ⟨hst _ _ _ h0 (Stay.of_below hB1 (Nat.le_refl _) (Nat.le_refl _)), hL1, hK1, hne _ (by omega), hne _ (Nat.le_refl _)⟩ (fun s X h => hD s X h.1)
   (fun s X X' h hb => ⟨hst _ _ _ h.1 (hb.mono (by omega)), (hb.below.block _ (by omega)).trans h.2.1, (hb.below.block _ (by omega)).trans h.2.2.1, fun hx => h.2.2.2.1 (hcalm _ _ (hb.below.mono (by omega)) _ hx), fun hx => h.2.2.2.2 (hcalm _ _ (hb.below.mono (by omega)) _ hx)⟩)
   (fun X X' ch h hb => ⟨hstp _ _ _ h.1 (hb.mono (by omega)), (hb.block _ (by omega)).trans h.2⟩) (hcalm.mono (by omega)) (fun s X h => hexl s X h.1) ?_).mono ?_
  ·rintro s v t args X hS ⟨hj, hl, hk, hxl, hxk⟩ hv
   have hlt : w.heap.size + 1 < X.heap.size := (Array.getElem?_eq_some_iff.1 hl).1
   have hy := run_yield (P := P) (args := args) hl (by rw [hrec]; exact hsz v args hv)
   rw [hrec] at hy
   refine ⟨g0, _, assign, body, hy, roundIn_of_wpInP trivial hf0 (wpIn_mono (hround (w.heap.size + 1) s v t args X hS (by omega) hlt hj hv) ?_)⟩
   rintro e a₁ X₁ h1
   cases e with
   | normal =>
    obtain ⟨hb1, hbody⟩ := h1
    have hl1 : X₁.heap[w.heap.size + 1]? = some (.loop (rec .ready none)) := (hb1.block _ hlt).trans hl
    have hlt1 := (Array.getElem?_eq_some_iff.1 hl1).1
    refine ⟨_, run_beginRound hl1 (by rw [hrec]), ?_⟩
    obtain ⟨X₂, hX₂⟩ : ∃ X₂, X₁.putObj (w.heap.size + 1) (.loop { rec .ready none with state := .busy }) = X₂ := ⟨_, rfl⟩
    rw [hX₂]
    have hb02 : Below w.heap.size X X₂ := by rw [← hX₂]; exact (hb1.mono (by omega)).trans (below_putObj (Below.refl _ _) _ (by omega))
    have hxl2 : ¬ Ex X₂ (w.heap.size + 1) := fun hx => hxl (hcalm _ _ hb02 _ hx)
    have hxk2 : ¬ Ex X₂ w.heap.size := fun hx => hxk (hcalm _ _ hb02 _ hx)
    have hk2 : X₂.heap[w.heap.size]? = some (.deferred (some [])) := by rw [← hX₂]; exact (World.putObj_heap_other (by omega)).trans ((hb1.block _ (by omega)).trans hk)
    have hl2 : X₂.heap[w.heap.size + 1]? = some (.loop { rec .ready none with state := .busy }) := by rw [← hX₂]; exact World.putObj_heap_same hlt1
    have hku : KeepX Ex (w.heap.size + 2) X X₂ := by rw [← hX₂]; exact (KeepX.of_below (B := w.heap.size + 2) hcalm hb1 (Nat.le_refl _) (by omega)).trans (KeepX.putObj hcalm _ (by omega) (by omega))
    refine wpIn_mono (hbody X₂ (by rw [← hX₂]; exact KeepX.putObj hcalm _ (by omega) (by omega)) (by rw [← hX₂]; exact Stay.putObj _ (Nat.le_refl _) (fun o e => by rw [hl1] at e; cases e; rfl))) ?_
    rintro e₂ a₂ X₃ h2
    cases e₂ with
    | normal =>
     obtain ⟨hk3, hj3⟩ := h2
     obtain ⟨hl3, hxl3⟩ := hk3.blk (by omega) hl2 hxl2
     obtain ⟨hkd3, hxk3⟩ := hk3.blk (Nat.le_refl _) hk2 hxk2
     have hr := run_endRound (P := P) none hl3
     refine ⟨_, _, hr, by rw [hS1]; exact (hku.trans (hk3.mono (by omega))).trans (KeepX.putObj hcalm _ (by omega) (by omega)), .inl ⟨rfl, ?_, ?_, ?_, ?_, ?_⟩⟩
     ·exact hst _ _ _ hj3 (Stay.putObj _ (by omega) (fun o e => by rw [hl3] at e; cases e; rfl))
     ·rw [World.putObj_heap_same (Array.getElem?_eq_some_iff.1 hl3).1, hrec]; rfl
     ·exact (World.putObj_heap_other (by omega)).trans hkd3
     ·exact fun hx => hxl3 (hcalm _ _ (below_putObj (Below.refl _ _) _ (by omega)) _ hx)
     ·exact fun hx => hxk3 (hcalm _ _ (below_putObj (Below.refl _ _) _ (by omega)) _ hx)
    | panic ch =>
     obtain ⟨hd, hk3, hp3⟩ := h2
     exact ⟨hd, by rw [hS1]; exact hku.trans (hk3.mono (by omega)), .inr ⟨ch, rfl, hp3, (hk3.blk (Nat.le_refl _) hk2 hxk2).1⟩⟩
    | ret => exact h2.elim
    | exit id => exact h2.elim
    | goto t => exact h2.elim
    | outgrown => exact h2.elim
   | exit id => exact h1.elim
   | goto t => exact h1.elim
   | ret => exact h1.elim
   | panic ch => exact h1.elim
   | outgrown => exact h1.elim
  ·rintro e W2 (⟨v, rfl, hj, hl, hk, hxl, hxk⟩ | ⟨ch, rfl, hp, hk⟩)
   ·refine ⟨none, _, by have := run_endLoop (P := P) hl (by rw [hrec]; simp); rw [hrec] at this; exact this, hdone w.heap.size _ (Nat.le_refl _) (hst _ _ _ hj (Stay.putObj _ (by omega) (fun o e => by rw [hl] at e; cases e; rfl))) ((World.putObj_heap_other (by omega)).trans hk) (fun hx => hxk (hcalm _ _ (below_putObj (Below.refl _ _) _ (by omega)) _ hx))⟩
   ·exact hpanic w.heap.size ch W2 (Nat.le_refl _) hp hk
def rowEx (n8 : Nat) (t : TypeId) (X : World) (k : Nat) : Prop := ∃ v : Value, X.heap[n8]? = some (.cells #[v] t (0, 0)) ∧ v.ownBlock = some k
theorem rowEx_calm {n8 B : Nat} {t : TypeId} (h : n8 < B) : Calm (rowEx n8 t) B := fun _ _ hb _ ⟨v, h1, h2⟩ => ⟨v, (hb.block _ h).symm.trans h1, h2⟩
structure RowX (t e : TypeId) (size : Nat) (o1 o2 : Obj) (w : World) (n8 b1 b2 : Nat) (n : Nat) (xs : List Value) (X : World) : Prop where
 b : Below w.heap.size w X
 row : ∃ v : Value, X.heap[n8]? = some (.cells #[v] t (0, 0)) ∧ X.ownsRow w.heap.size e size v n xs ∧ v.ownBlock ≠ some b1 ∧ v.ownBlock ≠ some b2
 d1 : X.heap[b1]? = some o1
 d2 : X.heap[b2]? = some o2
 lo : w.heap.size ≤ n8 ∧ n8 < b1 ∧ b1 < b2
theorem ownsRow_stay {m base n size : Nat} {e : TypeId} {v : Value} {xs : List Value} {X X' : World} (h : X.ownsRow base e size v n xs) (hs : Stay m X X') : X'.ownsRow base e size v n xs := by
 refine ⟨h.1, ?_⟩
 rcases h.2 with h | ⟨g, cap, cur, q1, q2, q3, q4⟩
 ·exact .inl h
 ·exact .inr ⟨g, cap, cur, q1, q2, hs.cells _ _ rfl q3, q4⟩
theorem ownBlock_lt {base n size : Nat} {e : TypeId} {v : Value} {xs : List Value} {X : World} (h : X.ownsRow base e size v n xs) {k : Nat} (hk : v.ownBlock = some k) : k < X.heap.size := by
 rcases h.2 with ⟨rfl, -⟩ | ⟨g, cap, cur, rfl, q2, q3, q4⟩
 ·cases hk
 ·obtain rfl : g = k := by simpa [Value.ownBlock] using hk
  exact (Array.getElem?_eq_some_iff.1 q3).1
section
variable {t e : TypeId} {size : Nat} {o1 o2 : Obj} {w : World} {n8 b1 b2 : Nat} {n : Nat} {xs : List Value} {X : World}
theorem RowX.stay {m : Nat} {X' : World} (h : RowX t e size o1 o2 w n8 b1 b2 n xs X) (h1 : o1.isCells = true) (h2 : o2.isCells = true) (hs : Stay m X X') (hm : w.heap.size ≤ m) : RowX t e size o1 o2 w n8 b1 b2 n xs X' := by
 obtain ⟨v, r1, r2, r3⟩ := h.row
 exact ⟨h.b.trans (hs.below.mono hm), ⟨v, hs.cells _ _ rfl r1, ownsRow_stay r2 hs, r3⟩, hs.cells _ _ h1 h.d1, hs.cells _ _ h2 h.d2, h.lo⟩
theorem RowX.exl (h : RowX t e size o1 o2 w n8 b1 b2 n xs X) (k : Nat) (hk : rowEx n8 t X k) : k < X.heap.size := by
 obtain ⟨v, r1, r2, r3⟩ := h.row
 obtain ⟨u, u1, u2⟩ := hk
 rw [r1] at u1
 cases u1
 exact ownBlock_lt r2 u2
theorem RowX.step {tmp : Obj} {v v' : Value} {m : Nat} {ys : List Value} {w1 : World} (h : RowX t e size o1 o2 w n8 b1 b2 n xs X) (hv : X.heap[n8]? = some (.cells #[v] t (0, 0))) (hte : t ≠ e)
  (hown' : w1.ownsRow w.heap.size e size v' m ys) (hgrow : (X.alloc tmp).grownBy w1 v.ownBlock) (hfr : v'.ownBlock = v.ownBlock ∨ v'.ownBlock = some (X.alloc tmp).heap.size) :
  RowX t e size o1 o2 w n8 b1 b2 m ys (w1.setCell ⟨n8, 0, none⟩ v') ∧ ∀ B, n8 < B → KeepX (rowEx n8 t) B X (w1.setCell ⟨n8, 0, none⟩ v') := by
 obtain ⟨v0, r1, r2, r3, r4⟩ := h.row
 rw [hv] at r1
 cases r1
 have hlo := h.lo
 have hbs := h.b.size
 have hb2 : b2 < X.heap.size := (Array.getElem?_eq_some_iff.1 h.d2).1
 have hb1 : b1 < X.heap.size := (Array.getElem?_eq_some_iff.1 h.d1).1
 obtain ⟨q1, q2, q3, q4, q5⟩ := Boxed.appended (W := X) (B := n8) (n₀ := w.heap.size) hv hte r2 hbs hlo.1 hown' hgrow
 have hsz : X.heap.size < (X.alloc tmp).heap.size := by simp
 have hk : ∀ k, k < X.heap.size → k ≠ n8 → v.ownBlock ≠ some k → (w1.setCell ⟨n8, 0, none⟩ v').heap[k]? = X.heap[k]? := fun k hk hn hx => by
  rw [Below.heap_setCell w1 ⟨n8, 0, none⟩ v' k hn, hgrow.block k (by omega) (fun e => hx e.symm)]
  exact ((Below.refl X.heap.size X).alloc (Nat.le_refl _) tmp).block k hk
 have hne : ∀ k, k < X.heap.size → v.ownBlock ≠ some k → v'.ownBlock ≠ some k := fun k hk hx e => by
  rcases hfr with h1 | h1
  ·exact hx (h1.symm.trans e)
  ·rw [h1] at e; cases e; omega
 refine ⟨⟨h.b.trans q5, ⟨v', q2, q3, hne _ hb1 r3, hne _ hb2 r4⟩, (hk _ hb1 (by omega) r3).trans h.d1, (hk _ hb2 (by omega) r4).trans h.d2, hlo⟩, fun B hB => ⟨q5.size, fun k hB2 hlt hx => ?_⟩⟩
 have hxv : v.ownBlock ≠ some k := fun e => hx ⟨v, hv, e⟩
 refine ⟨hk k hlt (by omega) hxv, ?_⟩
 rintro ⟨u, u1, u2⟩
 rw [show (w1.setCell ⟨n8, 0, none⟩ v').heap[n8]? = some (.cells #[v'] t (0, 0)) from q2] at u1
 cases u1
 exact hne k hlt hxv u2
end
end Go.Proofs.YtloijngccppfgaaGreat.F
end

section
namespace Go.Proofs.YtloijngccppfgaaGreat.F
open Go.RowKit Go.Proofs.YtloijngccppfgaaGreatW.PrintWords Go.Proofs.YtloijngccppfgaaGreatW.PrintLast Go.Proofs.YtloijngccppfgaaGreatW.PrintMore
attribute [local go_sem] max2_int min2_int max_two min_two max_three min_three max_four min_four
set_option linter.unusedVariables false
set_option linter.unusedSimpArgs false
open Go.Proofs.YtloijngccppfgaaGreat.Pure
attribute [local go_sem] Oper.semAt_some
def CausesD (b1 b2 g : Nat) (s : Nat) (w0 X : World) : Prop := Below w0.heap.size w0 X ∧ X.heap[b1]? = some (.cells #[.pointer (some ⟨g, 0, none⟩)] 71 (0, 0)) ∧ X.heap[b2]? = some (.cells #[.int .i64 s] 3 (0, 0))
def CausesC (p : List S39) (S : List Int) (s : Nat) : Prop := ∀ (g : Nat) (A : Option Addr) (c : Nat) (l : List S50) (Al : Option Addr) (cl : Nat) (As : Option Addr) (cs gv b1 b2 : Nat) (w0 : World), WhyAt w0 g p A c l Al cl S As cs gv →
 IterX Tryz.prog 61 #[.pointer (some ⟨b1, 0, none⟩), .pointer (some ⟨b2, 0, none⟩)] (fun (v : Int) args => args = #[.int .i64 v]) (causesL p S (s : Int)) (CausesD b1 b2 g s w0)
theorem MarksX.plain {Ex : World → Nat → Prop} {B : Nat} {X : World} {ds : List Nat} (h : MarksX Ex B X ds) : Marks B X ds := ⟨h.nodup, h.here⟩
theorem flat_take (F : Nat → List Int) : ∀ k a : Nat, (List.range' a (k + 1)).flatMap F = (List.range' a k).flatMap F ++ F (a + k)
 | 0, a => by simp
 | k + 1, a => by
  rw [List.range'_succ, List.flatMap_cons, flat_take F k (a + 1), List.range'_succ, List.flatMap_cons, List.append_assoc, show a + 1 + k = a + (k + 1) from by omega]
theorem flat_split (F : Nat → List Int) : ∀ (k a n : Nat), k < n → (List.range' a n).flatMap F = (List.range' a k).flatMap F ++ (F (a + k) ++ (List.range' (a + k + 1) (n - k - 1)).flatMap F)
 | 0, a, n, h => by
  obtain ⟨m, rfl⟩ : ∃ m, n = m + 1 := ⟨n - 1, by omega⟩
  rw [List.range'_succ, List.flatMap_cons]
  simp
 | k + 1, a, n, h => by
  obtain ⟨m, rfl⟩ : ∃ m, n = m + 1 := ⟨n - 1, by omega⟩
  rw [List.range'_succ, List.flatMap_cons, flat_split F k (a + 1) m (by omega), List.range'_succ, List.flatMap_cons, List.append_assoc, show a + 1 + k = a + (k + 1) from by omega, show m + 1 - (k + 1) - 1 = m - k - 1 from by omega]
theorem causes_call (g : Nat) (s : Int) (w : World) : CallsIn Fence.wide 0 Tryz.prog 34 #[.pointer (some ⟨g, 0, none⟩), .int .i64 s] w fun e w' => e = .returned (.func (.func 61) #[] #[.pointer (some ⟨w.heap.size, 0, none⟩), .pointer (some ⟨w.heap.size + 1, 0, none⟩)]) ∧ w' = (w.alloc (.cells #[.pointer (some ⟨g, 0, none⟩)] 71 (0, 0))).alloc (.cells #[.int .i64 s] 3 (0, 0)) := by
 refine callsIn_wide.2 ?_
 have hmf : ∀ (fn : Fn) (first cap : Array Value) (w : World), (Instr.makeFunc fn first cap).run Tryz.prog w = .ok (.func fn first cap) w := fun _ _ _ _ => rfl
 go_enter Tryz.func34, Tryz.ntmps34
 go_wp2
 go_ret
 exact ⟨rfl, rfl⟩
set_option maxHeartbeats 16000000 in
set_option maxRecDepth 100000 in
theorem causes_walk {p : List S39} {S : List Int} (s : Nat) (hs : s < p.length) (h4 : 0 ≤ (rd_T39 p (s : Int)).f4 ∧ (rd_T39 p (s : Int)).f4 ≤ 4) (ih : ∀ n, s < n → n < p.length → CausesC p S n) : CausesC p S s := by
 intro g A c l Al cl As cs gv b1 b2 w0 hw ly J Jp Ex W hJ0 hD hst hstp hcalm hexl hY
 have HCALM := Aside0.mk hcalm
 have HEXL := Aside0.mk hexl
 have HX0 : Aside0 (¬ Ex W W.heap.size) := ⟨fun hx => by have := hexl _ _ hJ0 _ hx; omega⟩
 have HW := Aside0.mk hw
 have HIH := Aside0.mk ih
 have HD := Aside0.mk hD
 have HST := Aside0.mk hst
 have HSTP := Aside0.mk hstp
 have HY := Aside0.mk hY
 have HS := Aside0.mk hs
 obtain ⟨n, hn⟩ : ∃ n, (rd_T39 p (s : Int)).f4.toNat = n := ⟨_, rfl⟩
 obtain ⟨F, hF⟩ : ∃ F, causesOne p S (causesL p S) (s : Int) = F := ⟨_, rfl⟩
 have HCL : Aside0 (causesL p S (s : Int) = (List.range' 0 n).flatMap F) := ⟨by rw [causesL_eq hw.up S hs, hn, hF]⟩
 have HFK : Aside0 (∀ k : Nat, F k = if causeI p S (s : Int) (k : Int) < 0 then [] else causeI p S (s : Int) (k : Int) :: causesL p S (causeI p S (s : Int) (k : Int))) := ⟨fun k => by rw [← hF]; rfl⟩
 have HJ1 := Aside0.mk (hst _ _ _ hJ0 (Stay.alloc (.cells #[.func (.yield ly) #[] #[]] 73 (0, 0)) (Nat.le_refl _)))
 have hd := hD _ _ HJ1.out
 have c1 : (W.alloc (.cells #[.func (.yield ly) #[] #[]] 73 (0, 0))).cell? ⟨b1, 0, none⟩ = some (.pointer (some ⟨g, 0, none⟩)) := (blk_cell hd.2.1 0).trans rfl
 have c2 : (W.alloc (.cells #[.func (.yield ly) #[] #[]] 73 (0, 0))).cell? ⟨b2, 0, none⟩ = some (.int .i64 s) := (blk_cell hd.2.2 0).trans rfl
 have hw1 := hw.below hd.1
 have y0 : (W.alloc (.cells #[.func (.yield ly) #[] #[]] 73 (0, 0))).cell? ⟨g, 0, none⟩ = some (.slice A p.length c) := (blk_cell hw1.blk 0).trans rfl
 have h0 : (0 : Int) ≤ s := by omega
 have h1 : (s : Int) < (p.length : Int) := by omega
 obtain ⟨ai, A7, c7, e1, q0, q1, q2, q3, q4, q5, q6, q7, -, -⟩ := at_T39 hw1.vw.pl (s : Int) h0 h1
 subst e1
 rw [Int.toNat_natCast] at q4
 obtain ⟨m4, hm4⟩ : ∃ m, (rd_T39 p (s : Int)).f4 = m := ⟨_, rfl⟩
 rw [hm4] at q4 hn h4
 have hm4n : m4 = (n : Int) := by omega
 subst hm4n
 have HN4 : Aside0 ((n : Int) ≤ 4) := ⟨h4.2⟩
 clear q0 q1 q2 q3 q5 q6 q7 hd hw1 hF hJ0 hD hst hstp hY hcalm hexl ih hs hw hm4 hn h4
 refine callsIn_of_wpB Tryz.func61 rfl ?_
 simp only [Tryz.ntmps61, List.size_toArray, List.length_cons, List.length_nil, Nat.reduceAdd, Nat.reduceSub, Array.replicate_succ, Array.replicate_zero, List.push_toArray, List.append_toArray, List.nil_append, List.cons_append]
 (refine wpB_seq_k (fun K hK => ?_); gi_wp2; refine hK.out _ _ ?_; clear hK K)
 refine wpB_seq_k (fun K hK => ?_)
 gi_region
 refine hK.out _ _ ?_
 clear hK K
 refine wpB_block (wpB_loop (fun a' w' => ∃ (k : Nat) (ds : List Nat) (u4 u5 u6 u7 u8 u9 u10 u11 u12 u13 u14 u17 u18 u19 u20 u21 u22 u23 u24 u25 u26 u27 u28 u29 u30 u31 u32 u33 u34 u35 u36 u37 : Value), (k ≤ n ∧ Aside0 (J ((List.range' 0 k).flatMap F) w') ∧ Aside0 (MarksX Ex W.heap.size w' ds) ∧ Aside0 (w'.heap[W.heap.size]? = some (.cells #[.func (.yield ly) #[] #[]] 73 (0, 0))) ∧ Aside0 (¬ Ex w' W.heap.size) ∧ Aside0 (W.heap.size ≤ w'.heap.size)) ∧ a' = { tmps := #[.func (.yield ly) #[] #[], .pointer (some ⟨b1, 0, none⟩), .pointer (some ⟨b2, 0, none⟩), .pointer (some ⟨W.heap.size, 0, none⟩), u4, u5, u6, u7, u8, u9, u10, u11, u12, u13, u14, .int .i64 (n : Nat), .int .i64 (k : Nat), u17, u18, u19, u20, u21, u22, u23, u24, u25, u26, u27, u28, u29, u30, u31, u32, u33, u34, u35, u36, u37], defers := ds.map markOf }) (fun a' _ => n - (intOf (a'.tmps.getD 16 undef)).toNat) ?_ ?_)
 ·refine ⟨0, [], ?_⟩
  (repeat apply Exists.intro)
  exact ⟨⟨by omega, ⟨HST.out _ _ _ HJ1.out ⟨below_drewN (Below.refl W.heap.size _) 1, fun _ _ _ e => e⟩⟩, ⟨MarksX.nil _ _⟩, ⟨blk_drew (blk_new W _)⟩, ⟨fun hx => HX0.out (HCALM.out _ _ (below_drewN (below_alloc (Below.refl W.heap.size W) _) 1) _ hx)⟩, ⟨by show W.heap.size ≤ (W.alloc _).heap.size; simp⟩⟩, rfl⟩
 clear c1 c2 y0 q4 HJ1
 rintro _ wr ⟨k, ds, u4, u5, u6, u7, u8, u9, u10, u11, u12, u13, u14, u17, u18, u19, u20, u21, u22, u23, u24, u25, u26, u27, u28, u29, u30, u31, u32, u33, u34, u35, u36, u37, ⟨hk, HJ, HMK, H3, HXY, HSZ⟩, rfl⟩
 by_cases hlt : k < n
 ·have hd := HD.out _ _ HJ.out
  have hwr := HW.out.below hd.1
  have x1 : wr.cell? ⟨b1, 0, none⟩ = some (.pointer (some ⟨g, 0, none⟩)) := (blk_cell hd.2.1 0).trans rfl
  have x2 : wr.cell? ⟨b2, 0, none⟩ = some (.int .i64 s) := (blk_cell hd.2.2 0).trans rfl
  have HTK : Aside0 ((List.range' 0 (k + 1)).flatMap F = (List.range' 0 k).flatMap F ++ F k) := ⟨by rw [flat_take F k 0, Nat.zero_add]⟩
  have HSP : Aside0 (causesL p S (s : Int) = (List.range' 0 k).flatMap F ++ (F k ++ (List.range' (k + 1) (n - k - 1)).flatMap F)) := ⟨by rw [HCL.out, flat_split F k 0 n hlt, Nat.zero_add]⟩
  have hup := hwr.up
  have HFk := Aside0.mk (HFK.out k)
  have HCW := Aside0.mk (cause_walk hwr (s : Int) (k : Int))
  have HCC := Aside0.mk (fun h => cause_up (k := (k : Int)) hup (S := S) (a := s) h)
  obtain ⟨ci, hci⟩ : ∃ ci, causeI p S (s : Int) (k : Int) = ci := ⟨_, rfl⟩
  rw [hci] at HFk HCW HCC
  have hlt' : (k : Int) < (n : Int) := by omega
  have hwk : wrap64 ((k : Int) + 1) = ((k + 1 : Nat) : Int) := by have h4 := HN4.out; unfold wrap64; omega
  have HLT := Aside0.mk hlt
  have HWK := Aside0.mk hwk
  clear hd hwr hci hup hk hlt hwk
  (refine wpB_seq_k (fun K hK => ?_); gi_wp2; refine hK.out _ _ ?_; clear hK K)
  (refine wpB_seq_k (fun K hK => ?_); gi_wp2; refine hK.out _ _ ?_; clear hK K)
  refine wpB_seqB (wpB_block ?_)
  (refine wpB_seq_k (fun K hK => ?_); gi_wp2; refine hK.out _ _ ?_; clear hK K)
  refine wpB_seq_k (fun K hK => ?_)
  gi_wp2
  refine ⟨trivial, rfl, (callsIn_wide.2 HCW.out).mono ?_⟩
  rintro e X1 ⟨rfl, hb1⟩
  have HBX := Aside0.mk hb1
  clear hb1 x1 x2
  gi_wp2
  refine hK.out _ _ ?_
  clear hK K
  have hsz1 := Nat.le_trans HSZ.out HBX.out.size
  have HJ2 := Aside0.mk (HST.out _ _ _ HJ.out (Stay.of_below HBX.out (Nat.le_refl _) HSZ.out))
  have HM2 := Aside0.mk (HMK.out.below HCALM.out HSZ.out HBX.out HMK.out.lt)
  have HXY2 : Aside0 (¬ Ex X1 W.heap.size) := ⟨fun hx => HXY.out (HCALM.out _ _ (HBX.out.mono HSZ.out) _ hx)⟩
  have H32 := Aside0.mk (blk_below H3.out HBX.out)
  have HSX := Aside0.mk hsz1
  clear hsz1 HJ HMK H3 HXY HSZ HBX
  by_cases hc : ci < 0
  ·have HE : Aside0 (F k = []) := ⟨by rw [HFk.out, if_pos hc]⟩
   have hcd : decide (ci < 0) = true := decide_eq_true hc
   refine wpB_seq_k (fun K hK => ?_)
   gi_wp2
   clear hK K
   refine wpB_in ?_
   gi_wp2
   rw [HWK.out]
   refine ⟨⟨k + 1, ds, ?_⟩, ?_⟩
   ·(repeat apply Exists.intro)
    exact ⟨⟨by have := HLT.out; omega, ⟨by rw [HTK.out, HE.out, List.append_nil]; exact HJ2.out⟩, HM2, H32, HXY2, HSX⟩, rfl⟩
   ·show n - ((k + 1 : Nat) : Int).toNat < n - ((k : Nat) : Int).toNat
    have := HLT.out; omega
  ·obtain ⟨i, rfl, hsi, hip⟩ := HCC.out (by omega)
   have HE : Aside0 (F k = (i : Int) :: causesL p S (i : Int)) := ⟨by rw [HFk.out, if_neg hc]⟩
   have HSP2 : Aside0 (causesL p S (s : Int) = (List.range' 0 k).flatMap F ++ (i : Int) :: (causesL p S (i : Int) ++ (List.range' (k + 1) (n - k - 1)).flatMap F)) := ⟨by rw [HSP.out, HE.out, List.cons_append]⟩
   have HTK2 : Aside0 ((List.range' 0 (k + 1)).flatMap F = (List.range' 0 k).flatMap F ++ (i : Int) :: causesL p S (i : Int)) := ⟨by rw [HTK.out, HE.out]⟩
   have HSUB := Aside0.mk (HIH.out i hsi hip)
   have hcd : decide ((i : Int) < 0) = false := decide_eq_false hc
   have z3 : X1.cell? ⟨W.heap.size, 0, none⟩ = some (.func (.yield ly) #[] #[]) := (blk_cell H32.out 0).trans rfl
   obtain ⟨fn, tmps, assign, body, hy, hR⟩ := HY.out _ _ _ _ _ HSP2.out HJ2.out rfl
   have HR := Aside0.mk hR
   change (Instr.yield ly #[.int .i64 (i : Int)]).run Tryz.prog X1 = _ at hy
   clear hR HFk HCW HCC HE HSP HTK
   (refine wpB_seq_k (fun K hK => ?_); gi_wp2; refine hK.out _ _ ?_; clear hK K)
   refine wpB_seq_k (fun K hK => ?_)
   gi_wp2
   refine ⟨rfl, HR.out.mono ?_⟩
   clear z3 hy HR
   rintro e X2 ⟨hk, (⟨rfl, hj2⟩ | ⟨ch, rfl, hp⟩)⟩
   ·have hd2 := HD.out _ _ hj2
    have hMX := HM2.out.keep hk
    obtain ⟨h3X, hxX⟩ := hk.blk (Nat.le_refl _) H32.out HXY2.out
    have HXX := Aside0.mk hxX
    have HSY : Aside0 (W.heap.size ≤ X2.heap.size) := ⟨Nat.le_of_lt (lt_of_blk_ h3X)⟩
    have x1 : X2.cell? ⟨b1, 0, none⟩ = some (.pointer (some ⟨g, 0, none⟩)) := (blk_cell hd2.2.1 0).trans rfl
    have HJX := Aside0.mk hj2
    have HMX := Aside0.mk hMX
    have H3X := Aside0.mk h3X
    clear hd2 hMX h3X hxX hj2 hk HJ2 HM2 H32 HXY2 HSX
    gi_wp2
    refine hK.out _ _ ?_
    clear hK K
    refine wpB_seq_k (fun K hK => ?_)
    gi_wp2
    refine ⟨trivial, rfl, (causes_call g (i : Int) X2).mono ?_⟩
    rintro e X3 ⟨rfl, hX3⟩
    have HX3 := Aside0.mk hX3
    clear hX3
    gi_wp2
    refine hK.out _ _ ?_
    clear hK K x1
    have HS3 : Aside0 (X3.heap.size = X2.heap.size + 2) := ⟨by rw [HX3.out]; simp⟩
    have HB3 : Aside0 (Below X2.heap.size X2 X3) := ⟨by rw [HX3.out]; exact ((Below.refl _ X2).alloc (Nat.le_refl _) _).alloc (by simp) _⟩
    have HC1 : Aside0 (X3.heap[X2.heap.size]? = some (.cells #[.pointer (some ⟨g, 0, none⟩)] 71 (0, 0))) := ⟨by rw [HX3.out]; exact (Below.heap_alloc _ _ _ (by simp)).trans (blk_new X2 _)⟩
    have HC2 : Aside0 (X3.heap[X2.heap.size + 1]? = some (.cells #[.int .i64 i] 3 (0, 0))) := ⟨by rw [HX3.out]; have := blk_new (X2.alloc (.cells #[.pointer (some ⟨g, 0, none⟩)] 71 (0, 0))) (.cells #[.int .i64 i] 3 (0, 0)); rwa [World.size_alloc] at this⟩
    have HLTM : Aside0 (∀ r ∈ ds, r < X3.heap.size) := ⟨fun r hr => by have h1 := HMX.out.lt r hr; have h2 := HS3.out; omega⟩
    have HW3 : Aside0 (W.heap.size < X3.heap.size) := ⟨by have := HSY.out; have h2 := HS3.out; omega⟩
    have HQ : Aside0 (X2.heap.size < X3.heap.size ∧ X2.heap.size + 1 < X3.heap.size ∧ W.heap.size ≤ X2.heap.size) := ⟨by have h2 := HS3.out; have := HSY.out; omega⟩
    have HXN : Aside0 (∀ k, X2.heap.size ≤ k → ¬ Ex X3 k) := ⟨fun k hk hx => by have := HEXL.out _ _ HJX.out k (HCALM.out _ _ (HB3.out.mono HSY.out) k hx); omega⟩
    have HX3' : Aside0 (¬ Ex X3 W.heap.size) := ⟨fun hx => HXX.out (HCALM.out _ _ (HB3.out.mono HSY.out) _ hx)⟩
    refine wpB_block ?_
    refine wpB_rangeFuncX (gf := 61) (lb := #[.pointer (some ⟨X2.heap.size, 0, none⟩), .pointer (some ⟨X2.heap.size + 1, 0, none⟩)]) rfl (enters_of Tryz.func61 (by kernel_rfl) rfl) ⟨_, Tryz.func61⟩ (HSUB.out g _ _ _ _ _ _ _ _ X2.heap.size (X2.heap.size + 1) w0 HW.out) ?hsz
     (fun s2 X => J ((List.range' 0 k).flatMap F ++ [(i : Int)] ++ s2) X ∧ MarksX Ex W.heap.size X ds ∧ X.heap[W.heap.size]? = some (.cells #[.func (.yield ly) #[] #[]] 73 (0, 0)) ∧ ¬ Ex X W.heap.size ∧ X.heap[X2.heap.size]? = some (.cells #[.pointer (some ⟨g, 0, none⟩)] 71 (0, 0)) ∧ ¬ Ex X X2.heap.size ∧ X.heap[X2.heap.size + 1]? = some (.cells #[.int .i64 i] 3 (0, 0)) ∧ ¬ Ex X (X2.heap.size + 1))
     (fun X ch => Jp X ch ∧ MarksX Ex W.heap.size X ds) ?h0 ?hD Ex (HCALM.out.mono (Nat.le_of_lt HW3.out)) (fun s X h => HEXL.out _ _ h.1) ?hst ?hstp ?hround ?hdone ?hpanic
    case hsz => rintro v args rfl; rfl
    case h0 => exact ⟨by rw [List.append_nil]; exact HST.out _ _ _ HJX.out (Stay.of_below HB3.out (Nat.le_refl _) HSY.out), HMX.out.below HCALM.out HSY.out HB3.out HMX.out.lt, blk_below H3X.out HB3.out, HX3'.out, HC1.out, HXN.out _ (Nat.le_refl _), HC2.out, HXN.out _ (Nat.le_succ _)⟩
    case hD => exact fun s X h => ⟨(HD.out _ _ h.1).1, h.2.2.2.2.1, h.2.2.2.2.2.2.1⟩
    case hst => exact fun s X X' h hb => ⟨HST.out _ _ _ h.1 (hb.mono (Nat.le_of_lt HW3.out)), h.2.1.below HCALM.out (Nat.le_of_lt HW3.out) hb.below HLTM.out, (hb.below.block _ HW3.out).trans h.2.2.1, fun hx => h.2.2.2.1 (HCALM.out _ _ (hb.below.mono (Nat.le_of_lt HW3.out)) _ hx), (hb.below.block _ HQ.out.1).trans h.2.2.2.2.1, fun hx => h.2.2.2.2.2.1 (HCALM.out _ _ (hb.below.mono (Nat.le_of_lt HW3.out)) _ hx), (hb.below.block _ HQ.out.2.1).trans h.2.2.2.2.2.2.1, fun hx => h.2.2.2.2.2.2.2 (HCALM.out _ _ (hb.below.mono (Nat.le_of_lt HW3.out)) _ hx)⟩
    case hstp => exact fun X X' ch h hb => ⟨HSTP.out _ _ _ h.1 (hb.mono (Nat.le_of_lt HW3.out)), h.2.below HCALM.out (Nat.le_of_lt HW3.out) hb HLTM.out⟩
    case hround =>
     rintro l2 s2 v t2 args X hSS hl1 hl2 ⟨hJ, hM, h3, hxa, hc1, hxb, hc2, hxc⟩ rfl
     have HXA := Aside0.mk hxa
     have HXB := Aside0.mk hxb
     have HXC := Aside0.mk hxc
     have HJa := Aside0.mk hJ
     have HMa := Aside0.mk hM
     have H3a := Aside0.mk h3
     have HC1a := Aside0.mk hc1
     have HC2a := Aside0.mk hc2
     have HL1 := Aside0.mk hl1
     have HL2 := Aside0.mk hl2
     have HSS : Aside0 (causesL p S (s : Int) = ((List.range' 0 k).flatMap F ++ [(i : Int)] ++ s2) ++ v :: (t2 ++ (List.range' (k + 1) (n - k - 1)).flatMap F)) := ⟨by rw [HSP2.out, hSS]; simp only [List.append_assoc, List.cons_append, List.nil_append, List.singleton_append]⟩
     clear hJ hM h3 hc1 hc2 hl1 hl2 hSS hxa hxb hxc
     gi_wp2
     refine ⟨Below.refl _ _, ?_⟩
     intro X4 hku hbl
     have hl3 : X3.heap.size ≤ X.heap.size := Nat.le_of_lt (Nat.lt_of_le_of_lt HL1.out HL2.out)
     have hs34 : Stay X3.heap.size X X4 := hbl.mono HL1.out
     have hb34 := hs34.below
     have HJb := Aside0.mk (HST.out _ _ _ HJa.out (hs34.mono (Nat.le_of_lt HW3.out)))
     have HMb := Aside0.mk (HMa.out.below HCALM.out (Nat.le_of_lt HW3.out) hb34 HLTM.out)
     have HXA4 : Aside0 (¬ Ex X4 W.heap.size) := ⟨fun hx => HXA.out (HCALM.out _ _ (hb34.mono (Nat.le_of_lt HW3.out)) _ hx)⟩
     have HXB4 : Aside0 (¬ Ex X4 X2.heap.size) := ⟨fun hx => HXB.out (HCALM.out _ _ (hb34.mono (Nat.le_of_lt HW3.out)) _ hx)⟩
     have HXC4 : Aside0 (¬ Ex X4 (X2.heap.size + 1)) := ⟨fun hx => HXC.out (HCALM.out _ _ (hb34.mono (Nat.le_of_lt HW3.out)) _ hx)⟩
     have H3b := Aside0.mk ((hb34.block _ HW3.out).trans H3a.out)
     have HC1b := Aside0.mk ((hb34.block _ HQ.out.1).trans HC1a.out)
     have HC2b := Aside0.mk ((hb34.block _ HQ.out.2.1).trans HC2a.out)
     have z3 : X4.cell? ⟨W.heap.size, 0, none⟩ = some (.func (.yield ly) #[] #[]) := (blk_cell H3b.out 0).trans rfl
     obtain ⟨fn, tmps, assign, body, hy, hR⟩ := HY.out _ _ _ _ _ HSS.out HJb.out rfl
     have HR := Aside0.mk hR
     change (Instr.yield ly #[.int .i64 v]).run Tryz.prog X4 = _ at hy
     clear hR hku hbl hb34 hs34 HJa HMa H3a HC1a HC2a
     gi_wp2
     refine ⟨rfl, RoundIn.mono (F := Fence.wide.inRound l2) HR.out ?_⟩
     rintro e X5 ⟨hk, (⟨rfl, hj5⟩ | ⟨ch, rfl, hp⟩)⟩
     ·have hJ5 := hj5
      rw [List.append_assoc] at hJ5
      gi_wp2
      obtain ⟨k1, k2⟩ := hk.blk (Nat.le_refl _) H3b.out HXA4.out
      obtain ⟨k3, k4⟩ := hk.blk HQ.out.2.2 HC1b.out HXB4.out
      obtain ⟨k5, k6⟩ := hk.blk (Nat.le_succ_of_le HQ.out.2.2) HC2b.out HXC4.out
      exact ⟨hk.mono (Nat.le_of_lt HW3.out), hJ5, HMb.out.keep hk, k1, k2, k3, k4, k5, k6⟩
     ·exact ⟨rfl, hk.mono (Nat.le_of_lt HW3.out), hp, HMb.out.keep hk⟩
    case hdone =>
     intro d Wd hd hJd hmark hxd
     have hmm := MarksX.cons hJd.2.1 (Nat.le_trans (Nat.le_of_lt HW3.out) hd) (fun hin => by have := HLTM.out d hin; omega) hmark hxd
     have hxw := hJd.2.2.2.1
     have hjj : J ((List.range' 0 (k + 1)).flatMap F) Wd := by rw [HTK2.out]; have := hJd.1; simpa only [List.append_assoc, List.cons_append, List.nil_append, List.singleton_append] using this
     have h3d := hJd.2.2.1
     have hsd := Nat.le_of_lt (lt_of_blk_ h3d)
     show wpB _ _ _ _ _ _
     refine wpB_in ?_
     have HJd := Aside0.mk hjj
     have HMd := Aside0.mk hmm
     have H3d := Aside0.mk h3d
     have HSd := Aside0.mk hsd
     have HXd := Aside0.mk hxw
     clear hJd hmark hmm hjj h3d hsd hxd hxw
     gi_wp2
     rw [HWK.out]
     refine ⟨⟨k + 1, d :: ds, ?_⟩, ?_⟩
     ·(repeat apply Exists.intro)
      exact ⟨⟨by have := HLT.out; omega, HJd, HMd, H3d, HXd, HSd⟩, rfl⟩
     ·show n - ((k + 1 : Nat) : Int).toNat < n - ((k : Nat) : Int).toNat
      have := HLT.out; omega
    case hpanic =>
     intro d ch Wd hd hJd hmark
     have hmm := Marks.cons hJd.2.plain (Nat.le_trans (Nat.le_of_lt HW3.out) hd) (fun hin => by have := HLTM.out d hin; omega) hmark
     refine leaves_marks (B := W.heap.size) (.panicking ch) (by simp) (d :: ds) Wd hmm (fun W' hW' => ?_)
     exact .inr ⟨ch, rfl, HSTP.out _ _ _ hJd.1 hW'⟩
   ·have hMX := HM2.out.keep hk
    refine leaves_marks (B := W.heap.size) (.panicking ch) (by simp) ds X2 hMX.plain (fun W' hW' => ?_)
    exact .inr ⟨ch, rfl, HSTP.out _ _ _ hp hW'⟩
 ·obtain rfl : k = n := by omega
  have HJE := Aside0.mk (show J (causesL p S (s : Int)) wr by rw [HCL.out]; exact HJ.out)
  (refine wpB_seq_k (fun K hK => ?_); gi_wp2; refine hK.out _ _ ?_; clear hK K)
  (refine wpB_seq_k (fun K hK => ?_); gi_wp2)
  refine leaves_marksX HCALM.out .returning (by simp) ds wr HMK.out (fun W' hW' => ?_)
  exact ⟨.tuple #[], results_none rfl _ _ _, .inl ⟨_, rfl, HST.out _ _ _ HJE.out hW'⟩⟩
theorem causes_all {p : List S39} {S : List Int} (h4 : ∀ s : Nat, s < p.length → 0 ≤ (rd_T39 p (s : Int)).f4 ∧ (rd_T39 p (s : Int)).f4 ≤ 4) : ∀ (d s : Nat), p.length ≤ s + d → s < p.length → CausesC p S s
 | 0, s, h, hs => by omega
 | d + 1, s, h, hs => causes_walk s hs (h4 s hs) (fun n h1 h2 => causes_all h4 d n (by omega) h2)
theorem causes_iter {p : List S39} (hsh : shapedB p = true) (S : List Int) (s : Nat) (hs : s < p.length) : CausesC p S s := causes_all (fun i hi => (itemB_shape (shape_item hsh hi)).1) p.length s (by omega) hs
end Go.Proofs.YtloijngccppfgaaGreat.F
end

section
namespace Go.Proofs.YtloijngccppfgaaGreat.F
open Go.RowKit Go.Proofs.YtloijngccppfgaaGreatW.PrintWords Go.Proofs.YtloijngccppfgaaGreatW.PrintLast Go.Proofs.YtloijngccppfgaaGreatW.PrintMore
attribute [local go_sem] max2_int min2_int max_two min_two max_three min_three max_four min_four
set_option linter.unusedVariables false
set_option linter.unusedSimpArgs false
theorem ints_reps (w : World) (base : Nat) (ok : Nat → Prop) : ∀ (l l' : List Int) (cs : List Value), Reps ((Kd.int .i64).M w base ok) 1 l' cs → Reps ((Kd.int .i64).M w base ok) 1 (l' ++ l) (cs ++ l.map (Value.int .i64))
 | [], l', cs, h => by simpa using h
 | x :: l, l', cs, h => by
  have h1 := ints_reps w base ok l (l' ++ [x]) (cs ++ [.int .i64 x]) (h.snoc (show (Kd.int .i64).M w base ok x [.int .i64 x] from rfl) rfl)
  rw [List.append_assoc, List.append_assoc] at h1
  exact h1
theorem ints_R {w : World} {base : Nat} {v : Value} {l : List Int} (h : w.ownsRow base 3 1 v l.length (l.map (Value.int .i64))) : Kd.R (Kd.int .i64) 3 w base (fun _ => True) v l :=
 Kd.R_mono (ok := fun k => some k = v.ownBlock) ⟨fun k hk => hk.symm, l.map (Value.int .i64), h, by have := ints_reps w base (fun k => some k = v.ownBlock ∧ some k ≠ v.ownBlock) l [] [] (Reps.none _ _); simp only [List.nil_append] at this; exact this⟩ (fun _ _ => trivial)
theorem idxF_first (q : Int → Bool) : ∀ (l : List Int) (i : Int), (idxF q l i = -1 ∧ ∀ x ∈ l, q x = false) ∨ ∃ (n : Nat) (h : n < l.length), idxF q l i = i + n ∧ q l[n] = true ∧ ∀ x ∈ l.take n, q x = false
 | [], i => .inl ⟨rfl, fun x h => by cases h⟩
 | x :: l, i => by
  unfold idxF
  cases hq : q x
  ·rw [if_neg (by simp)]
   rcases idxF_first q l (i + 1) with ⟨h1, h2⟩ | ⟨n, h1, h2, h3, h4⟩
   ·refine .inl ⟨h1, fun y hy => ?_⟩
    rcases List.mem_cons.1 hy with rfl | hy
    ·exact hq
    ·exact h2 y hy
   ·refine .inr ⟨n + 1, by simpa using h1, by rw [h2]; omega, by simpa using h3, fun y hy => ?_⟩
    rw [List.take_succ_cons] at hy
    rcases List.mem_cons.1 hy with rfl | hy
    ·exact hq
    ·exact h4 y hy
  ·rw [if_pos rfl]
   exact .inr ⟨0, by simp, by omega, hq, fun y hy => by simp at hy⟩
def keepF (q : Int → Bool) (l : List Int) (j : Nat) : List Int := (l.take j).filter fun x => !q x
theorem keepF_skip {q : Int → Bool} {l : List Int} {j : Nat} (h : j < l.length) (hq : q l[j] = true) : keepF q l (j + 1) = keepF q l j := by
 unfold keepF
 rw [List.take_succ_eq_append_getElem h, List.filter_append]
 simp [hq]
theorem keepF_keep {q : Int → Bool} {l : List Int} {j : Nat} (h : j < l.length) (hq : q l[j] = false) : keepF q l (j + 1) = keepF q l j ++ [l[j]] := by
 unfold keepF
 rw [List.take_succ_eq_append_getElem h, List.filter_append]
 simp [hq]
theorem keepF_le (q : Int → Bool) (l : List Int) (j : Nat) : (keepF q l j).length ≤ j := by
 unfold keepF
 have h1 := List.length_filter_le (fun x => !q x) (l.take j)
 rw [List.length_take] at h1
 omega
theorem keepF_lt {q : Int → Bool} {l : List Int} {n : Nat} (hn : n < l.length) (hq : q l[n] = true) : ∀ d : Nat, (keepF q l (n + 1 + d)).length < n + 1 + d
 | 0 => by rw [Nat.add_zero, keepF_skip hn hq]; have := keepF_le q l n; omega
 | d + 1 => by
  have ih := keepF_lt hn hq d
  by_cases hd : n + 1 + d < l.length
  ·rw [← Nat.add_assoc]
   cases hx : q l[n + 1 + d]
   ·rw [keepF_keep hd hx, List.length_append]; simp; omega
   ·rw [keepF_skip hd hx]; omega
  ·unfold keepF at ih ⊢
   rw [List.take_of_length_le (by omega)] at ih ⊢
   omega
theorem take_set_snoc : ∀ (X : List Value) (i : Nat) (v : Value), i < X.length → (X.set i v).take (i + 1) = X.take i ++ [v]
 | [], i, v, h => by simp at h
 | x :: X, 0, v, h => by simp
 | x :: X, i + 1, v, h => by
  rw [List.set_cons_succ, List.take_succ_cons, take_set_snoc X i v (by simpa using h), List.take_succ_cons, List.cons_append]
structure DelAt (base : Nat) (w2 : World) (g cap : Nat) (q : Int → Bool) (l : List Int) (j : Nat) (wr : World) : Prop where
 row : ∃ cur : Array Value, wr.heap[g]? = some (.cells cur 3 (0, 0)) ∧ cur.size = cap ∧ cur.toList.take (keepF q l j).length = (keepF q l j).map (Value.int .i64) ∧ ∀ m, j ≤ m → m < l.length → cur[m]? = some (.int .i64 (l.getD m 0))
 far : ∀ k, k ≠ g → wr.heap[k]? = w2.heap[k]?
 low : Below base w2 wr
 size : wr.heap.size = w2.heap.size
section
variable {base : Nat} {w2 : World} {g cap : Nat} {q : Int → Bool} {l : List Int} {j : Nat} {wr : World}
theorem DelAt.skip (h : DelAt base w2 g cap q l j wr) (hj : j < l.length) (hq : q l[j] = true) : DelAt base w2 g cap q l (j + 1) wr := by
 obtain ⟨cur, h1, h2, h3, h4⟩ := h.row
 exact ⟨⟨cur, h1, h2, by rw [keepF_skip hj hq]; exact h3, fun m hm hl => h4 m (by omega) hl⟩, h.far, h.low, h.size⟩
theorem DelAt.keep (h : DelAt base w2 g cap q l j wr) (hg : base ≤ g) (hc : l.length ≤ cap) (hj : j < l.length) (hq : q l[j] = false) (hlt : (keepF q l j).length < j) : DelAt base w2 g cap q l (j + 1) (wr.setCell ⟨g, (keepF q l j).length, none⟩ (.int .i64 l[j])) := by
 obtain ⟨cur, h1, h2, h3, h4⟩ := h.row
 refine ⟨⟨_, blk_set h1 _ _, by simp [h2], ?_, fun m hm hl => ?_⟩, fun k hk => ?_, h.low.setCell (p := ⟨g, _, none⟩) hg _, by rw [← h.size]; simp [World.setCell]⟩
 ·have hlc : (keepF q l j).length < cur.toList.length := by have e : cur.toList.length = cur.size := Array.length_toList; omega
  rw [keepF_keep hj hq, List.length_append, Array.toList_setIfInBounds, List.length_singleton, take_set_snoc _ _ _ hlc, h3, List.map_append]
  rfl
 ·have hne : (keepF q l j).length ≠ m := by omega
  rw [Array.getElem?_setIfInBounds_ne hne]
  exact h4 m (by omega) hl
 ·rw [Below.heap_setCell wr ⟨g, _, none⟩ _ k hk]
  exact h.far k hk
theorem DelAt.cell (h : DelAt base w2 g cap q l j wr) (m : Nat) (hm : j ≤ m) (hl : m < l.length) : wr.cell? ⟨g, m, none⟩ = some (.int .i64 l[m]) := by
 obtain ⟨cur, h1, h2, h3, h4⟩ := h.row
 have e : l.getD m 0 = l[m] := by rw [List.getD_eq_getElem?_getD, List.getElem?_eq_getElem hl]; rfl
 exact (blk_cell h1 m).trans ((h4 m hm hl).trans (by rw [e]))
theorem DelAt.some (h : DelAt base w2 g cap q l j wr) (m : Nat) (hm : m < cap) : ∃ u, wr.cell? ⟨g, m, none⟩ = some u := by
 obtain ⟨cur, h1, h2, h3, h4⟩ := h.row
 exact ⟨cur[m], (blk_cell h1 m).trans (Array.getElem?_eq_getElem _)⟩
theorem DelAt.free (h : DelAt base w2 g cap q l j wr) (m : Nat) : wr.frozen? ⟨g, m, none⟩ = false := by
 obtain ⟨cur, h1, h2, h3, h4⟩ := h.row
 exact blk_frozen h1 m
end
set_option maxHeartbeats 8000000 in
set_option maxRecDepth 100000 in
theorem delete_func_int (gf : Nat) (lb : Array Value) (eg : ∀ args w, (callFunc gf args).run Tryz.prog w = .ok (.enter gf args) w) (q : Int → Bool) (v : Value) (l : List Int) (base : Nat) (w : World) (hown : w.ownsRow base 3 1 v l.length (l.map (Value.int .i64))) (hbase : base ≤ w.heap.size)
  (hp : ∀ x ∈ l, ∀ W : World, Below base w W → Calls Tryz.prog gf (#[.int .i64 x] ++ lb) W fun e W' => e = .returned (.bool (q x)) ∧ W' = W) :
  Calls Tryz.prog 35 #[v, .func (.func gf) #[] lb] w fun e w' => ∃ v' : Value, e = .returned v' ∧ w'.ownsRow base 3 1 v' (l.filter fun x => !q x).length ((l.filter fun x => !q x).map (Value.int .i64)) ∧ Below base w w' := by
 have HW := Aside0.mk hown
 have hR := ints_R hown
 obtain ⟨A, c, rfl⟩ := Kd.R_slice hR
 have hmx := Kd.C_max (Kd.R_reads' hR).2.2
 have HIF := Aside0.mk (index_func_int gf lb eg q A c l w (Kd.R_reads' hR).2.2 (fun i h W hb => (hp _ (List.getElem_mem h) W (hb.mono hbase)).mono (fun e W' h => ⟨h.1, by rw [h.2]; exact Below.refl _ _⟩)))
 have HP := Aside0.mk hp
 clear hp hR
 rcases idxF_first q l 0 with ⟨h1, h2⟩ | ⟨n, hn, h1, h2, h3⟩
 ·have HE : Aside0 ((l.filter fun x => !q x) = l) := ⟨List.filter_eq_self.2 (fun x hx => by rw [h2 x hx]; rfl)⟩
  rw [h1] at HIF
  clear h1 h2 hown eg
  go_enter Tryz.func35, Tryz.ntmps35
  go_wp2_with (go_at_call 62; refine HIF.out.mono ?_; rintro e w2 ⟨rfl, hb⟩; have HB := Aside0.mk hb; clear hb)
  go_ret
  exact ⟨_, rfl, by rw [HE.out]; exact ownsRow_stay HW.out (Stay.of_below HB.out (Nat.le_refl _) (Nat.le_refl _)), HB.out.mono hbase⟩
 ·obtain ⟨g, cap, cur, hA, hbg, hg, hnc, hcm, hcs, htk⟩ : ∃ g cap cur, (Value.slice A l.length c) = .slice (some ⟨g, 0, none⟩) l.length cap ∧ base ≤ g ∧ w.heap[g]? = some (.cells cur 3 (0, 0)) ∧ l.length ≤ cap ∧ cap ≤ maxLen ∧ cur.size = cap * 1 ∧ cur.toList.take (l.length * 1) = l.map (Value.int .i64) := by
   rcases hown.2 with ⟨-, h0⟩ | h
   ·omega
   ·exact h
  have hmx2 := hcm
  injection hA with e1 e2 e3
  subst e1
  subst e3
  rw [Nat.mul_one] at hcs htk
  have HIX : Aside0 (idxF q l 0 = (n : Int)) := ⟨by rw [h1]; omega⟩
  have HLT := Aside0.mk (keepF_lt hn h2)
  have HK0 : Aside0 (keepF q l (n + 1) = l.take n) := ⟨by rw [keepF_skip hn h2]; exact List.filter_eq_self.2 (fun x hx => by rw [h3 x hx]; rfl)⟩
  have HN := Aside0.mk hn
  have HCM : Aside0 (l.length ≤ 9223372036854775807) := ⟨by have := hcm; unfold maxLen at this; omega⟩
  have HBG := Aside0.mk hbg
  have HNC := Aside0.mk hnc
  have HLE := Aside0.mk (keepF_le q l)
  have HGW : Aside0 (g < w.heap.size) := ⟨(Array.getElem?_eq_some_iff.1 hg).1⟩
  have HCELL : Aside0 (∀ m, m < l.length → cur[m]? = some (.int .i64 (l.getD m 0))) := ⟨fun m hm => by
   have h5 : (cur.toList.take l.length)[m]? = (l.map (Value.int .i64))[m]? := by rw [htk]
   rw [List.getElem?_take_of_lt hm, Array.getElem?_toList, List.getElem?_map, List.getElem?_eq_getElem hm] at h5
   rw [h5, List.getD_eq_getElem?_getD, List.getElem?_eq_getElem hm]
   rfl⟩
  have HCS := Aside0.mk hcs
  have HTK : Aside0 (cur.toList.take n = (l.take n).map (Value.int .i64)) := ⟨by rw [List.map_take, ← htk, List.take_take, Nat.min_eq_left (by omega)]⟩
  have HG := Aside0.mk hg
  have hcl : ∀ (W : World) (i : Nat), i < l.length → (∀ m, m < c → (W.cell? ⟨g, m, none⟩).isSome = true) → (∀ m, W.frozen? ⟨g, m, none⟩ = false) → ∀ ty, (Builtin.clear_ #[28] ty #[.slice (some ⟨g, i, none⟩) (l.length - i) (c - i)]).run Tryz.prog W = .ok (.tuple #[]) (W.setCells g i (List.replicate (l.length - i) (.int .i64 0))) := fun W i hi h5 h6 ty =>
   Lib.run_clear_slice W _ _ ty _ Tryz.underlying28 (by intro w; rfl) rfl rfl g i _ _ (by omega) (fun t ht => h5 _ (by have := HNC.out; omega)) (fun t ht => h6 _)
  have HCL := Aside0.mk hcl
  clear hcl
  rw [HIX.out] at HIF
  clear h1 h2 h3 hown hg hbg hnc hcm hcs htk hn e2
  go_enter Tryz.func35, Tryz.ntmps35
  go_wp2_with (go_at_call 62; refine HIF.out.mono ?_; rintro e w2 ⟨rfl, hb⟩; have HB := Aside0.mk hb; clear hb)
  go_loopg [5, 6, 7] (l.length - (n + 1)) (fun kq v5 v6 v7 w' => ∃ d : Nat, v5 = .int .i64 (keepF q l (n + 1 + d)).length ∧ v6 = .int .i64 ((n + 1 + d : Nat) : Int) ∧ n + 1 + d + kq = l.length ∧ Aside0 (DelAt base w2 g c q l (n + 1 + d) w'))
  case atStart =>
   refine ⟨0, by rw [Nat.add_zero, HK0.out, List.length_take, Nat.min_eq_left (Nat.le_of_lt HN.out)], by rw [show wrap64 ((n : Int) + 1) = ((n + 1 + 0 : Nat) : Int) from by have := HN.out; have := HCM.out; unfold wrap64; omega], by have := HN.out; omega, ⟨⟨⟨cur, (HB.out.block _ HGW.out).trans HG.out, HCS.out, ?_, fun m _ hm => HCELL.out m hm⟩, fun _ _ => rfl, Below.refl _ _, rfl⟩⟩⟩
   rw [Nat.add_zero, HK0.out, List.length_take, Nat.min_eq_left (Nat.le_of_lt HN.out)]
   exact HTK.out
  case round =>
   obtain ⟨d, rfl, rfl, hd, HD⟩ := hrel
   have hlt := HLT.out d
   obtain ⟨j, hj⟩ : ∃ j, n + 1 + d = j := ⟨_, rfl⟩
   rw [hj] at hlt HD hd ⊢
   have HJ := Aside0.mk hj
   have hcm := HCM.out
   have hnc := HNC.out
   cases gk with
   | zero =>
    obtain rfl : j = l.length := by omega
    have HF : Aside0 (keepF q l l.length = l.filter fun x => !q x) := ⟨by unfold keepF; rw [List.take_length]⟩
    have HDD := HD.out
    obtain ⟨i, hi⟩ : ∃ i, (keepF q l l.length).length = i := ⟨_, rfl⟩
    have HI := Aside0.mk hi
    rw [hi] at hlt ⊢
    have hcl := HCL.out wr i hlt (fun m hm => by obtain ⟨u, hu⟩ := HDD.some m hm; rw [hu]; rfl) HDD.free
    have hi0 : (0 : Int) ≤ i := by omega
    have hi1 : (i : Int) ≤ (l.length : Int) := by omega
    have hi2 : (i : Int) ≤ (c : Int) := by omega
    have HLT2 := Aside0.mk hlt
    have hci : ¬ c = i := by omega
    have hci2 : ¬ i = c := by omega
    have hci3 : ¬ c - i = 0 := by omega
    have hci4 : ¬ (c : Int) = (i : Int) := by omega
    have hci5 : ¬ (i : Int) = (c : Int) := by omega
    clear hd hj HDD hi hlt
    go_wp2
    go_ret
    obtain ⟨cur2, r1, r2, r3, r4⟩ := HD.out.row
    rw [HI.out] at r3
    have hlt := HLT2.out
    obtain ⟨cur3, s1, s2, s3⟩ := setCells_row (List.replicate (l.length - i) (Value.int .i64 0)) i wr cur2 r1 (by rw [List.length_replicate]; omega)
    obtain ⟨k1, k2, k3, k4⟩ := setCells_same g (List.replicate (l.length - i) (Value.int .i64 0)) i wr
    have hbw : Below base wr (wr.setCells g i (List.replicate (l.length - i) (Value.int .i64 0))) := ⟨k1, k2, k3, Nat.le_of_eq k4.symm, fun k hk => setCells_far _ _ k (by have := HBG.out; omega)⟩
    refine ⟨_, rfl, ?_, ((HB.out.mono hbase).trans HD.out.low).trans hbw⟩
    rw [← HF.out, HI.out]
    refine ⟨by rw [List.length_map, HI.out, Nat.mul_one], .inr ⟨g, c, cur3, rfl, HBG.out, s1, by omega, Nat.le_trans (by omega) hmx2, by rw [s2, r2, Nat.mul_one], ?_⟩⟩
    rw [Nat.mul_one, s3, List.append_assoc, List.take_append_of_le_length (by rw [List.length_take, Array.length_toList]; omega), List.take_take, Nat.min_self, r3]
   | succ e =>
    have hjl : j < l.length := by omega
    have xj := HD.out.cell j (Nat.le_refl _) hjl
    have hcall := HP.out l[j] (List.getElem_mem hjl) wr ((HB.out.mono hbase).trans HD.out.low)
    obtain ⟨x, hx⟩ : ∃ x, l[j] = x := ⟨_, rfl⟩
    have HX := Aside0.mk hx
    rw [hx] at xj hcall
    have HC := Aside0.mk hcall
    obtain ⟨old, ci⟩ := HD.out.some (keepF q l j).length (by omega)
    have fi := HD.out.free (keepF q l j).length
    have hj0 : (0 : Int) ≤ j := by omega
    have hj1 : (j : Int) < (l.length : Int) := by omega
    have hi0 : (0 : Int) ≤ ((keepF q l j).length : Int) := by omega
    have hi1 : ((keepF q l j).length : Int) < (l.length : Int) := by omega
    have HJL := Aside0.mk hjl
    have HLTJ := Aside0.mk hlt
    have HDJ := Aside0.mk hd
    have HEJ : Aside0 (n + 1 + (d + 1) = j + 1) := ⟨by omega⟩
    clear hx hcall hd hlt hj
    cases hq : q x
    ·have HQ := Aside0.mk hq
     rw [hq] at HC
     clear hq
     go_wp2_with (go_at_fn gf; refine HC.out.mono ?_; rintro e_ w' ⟨rfl, rfl⟩)
     go_roundg e
     case measure => omega
     case rel =>
      have hql : q (l[j]'HJL.out) = false := by rw [HX.out]; exact HQ.out
      refine ⟨d + 1, by rw [HEJ.out, keepF_keep HJL.out hql, List.length_append]; go_num, by rw [HEJ.out]; go_num, by rw [HEJ.out]; have := HDJ.out; omega, ⟨?_⟩⟩
      rw [HEJ.out]
      have := HD.out.keep HBG.out HNC.out HJL.out hql HLTJ.out
      rw [HX.out] at this
      exact this
    ·have HQ := Aside0.mk hq
     rw [hq] at HC
     clear hq
     go_wp2_with (go_at_fn gf; refine HC.out.mono ?_; rintro e_ w' ⟨rfl, rfl⟩)
     go_roundg e
     case measure => omega
     case rel =>
      have hql : q (l[j]'HJL.out) = true := by rw [HX.out]; exact HQ.out
      exact ⟨d + 1, by rw [HEJ.out, keepF_skip HJL.out hql], by rw [HEJ.out]; go_num, by rw [HEJ.out]; have := HDJ.out; omega, ⟨by rw [HEJ.out]; exact HD.out.skip HJL.out hql⟩⟩
end Go.Proofs.YtloijngccppfgaaGreat.F
end

section
namespace Go.Proofs.YtloijngccppfgaaGreat.Pure
set_option linter.unusedVariables false
open Go.RowKit Go.Proofs.YtloijngccppfgaaGreat.F Go.Proofs.YtloijngccppfgaaGreatW.PrintWords Go.Proofs.YtloijngccppfgaaGreatW.PrintLast
theorem above_at {p : List S39} {m : Nat} (hm : m < p.length) : aboveL p (m : Int) = aboveF p (p.length + 1) (rd_T39 p (m : Int)).f5 := by
 unfold aboveL hasB
 rw [decide_eq_true (by omega : (0 : Int) ≤ m), decide_eq_true (by omega : (m : Int) < p.length)]
 rfl
theorem above_le {p : List S39} (hu : UpP p) : ∀ (d b : Nat), b < p.length → ∀ y ∈ aboveF p d (b : Int), y ≤ b
 | 0, b, hb, y, hy => by cases hy
 | d + 1, b, hb, y, hy => by
  unfold aboveF at hy
  rw [if_pos (by omega)] at hy
  rcases List.mem_cons.1 hy with rfl | hy
  ·exact Int.le_refl _
  ·have hub := hu.2 b hb
   by_cases h0 : 0 ≤ (rd_T39 p (b : Int)).f5
   ·obtain ⟨c, hc⟩ := Int.eq_ofNat_of_zero_le h0
    rw [hc] at hy hub
    have := above_le hu d c (by omega) y hy
    omega
   ·cases d with
    | zero => cases hy
    | succ d => unfold aboveF at hy; rw [if_neg h0] at hy; cases hy
def topA (p : List S39) (s : Int) : Nat → Int → Int
 | 0, _ => -1
 | d + 1, x => if (rd_T39 p x).f5 = s then (rd_T39 p x).f6 else topA p s d (rd_T39 p x).f5
theorem topA_self {p : List S39} {s c : Int} (d : Nat) (h : (rd_T39 p c).f5 = s) : topA p s (d + 1) c = (rd_T39 p c).f6 := by unfold topA; rw [if_pos h]
theorem topA_of {p : List S39} (hu : UpP p) {s c : Nat} (hc : c < p.length) (h : (rd_T39 p (c : Int)).f5 = s) : ∀ (d x : Nat), x < d → x < p.length → ∀ e : Nat, (c : Int) ∈ aboveF p e (rd_T39 p (x : Int)).f5 → topA p (s : Int) d (x : Int) = (rd_T39 p (c : Int)).f6
 | 0, x, hd, hx, e, hm => by omega
 | d + 1, x, hd, hx, e, hm => by
  have hux := hu.2 x hx
  have huc := hu.2 c hc
  have h0 : 0 ≤ (rd_T39 p (x : Int)).f5 := by
   by_cases h0 : 0 ≤ (rd_T39 p (x : Int)).f5
   ·exact h0
   ·cases e with
    | zero => cases hm
    | succ e => unfold aboveF at hm; rw [if_neg h0] at hm; cases hm
  obtain ⟨b, hb⟩ := Int.eq_ofNat_of_zero_le h0
  rw [hb] at hm hux
  have hbl : b < p.length := by omega
  have hle := above_le hu e b hbl _ hm
  unfold topA
  rw [hb, if_neg (by omega)]
  by_cases hbc : b = c
  ·subst hbc
   obtain ⟨d, rfl⟩ : ∃ k, d = k + 1 := ⟨d - 1, by omega⟩
   exact topA_self d h
  ·cases e with
   | zero => cases hm
   | succ e =>
    unfold aboveF at hm
    rw [if_pos (by omega)] at hm
    rcases List.mem_cons.1 hm with e1 | hm
    ·omega
    ·exact topA_of hu hc h d b (by omega) hbl e hm
theorem causes_once {p : List S39} (hu : UpP p) (S : List Int) (m : Int) : ∀ (d s : Nat), p.length ≤ s + d → s < p.length → (causesL p S (s : Int)).countP (fun x => x == m) ≤ 1
 | 0, s, hd, hs => by omega
 | d + 1, s, hd, hs => by
  rw [causesL_eq hu S hs]
  refine Nat.le_trans (had_flat _ _ (topA p (s : Int) p.length m).toNat (fun k => ?_) _ _) (by split <;> omega)
  unfold causesOne
  rcases cause_cases p S s k with ⟨h1, -⟩ | ⟨n, h1, h2, h3, h4, h5, h6⟩
  ·rw [h1, if_pos (by omega)]; simp
  ·rw [h1, if_neg (by omega), List.countP_cons]
   have hup := hu.2 n h3
   have ih := causes_once hu S m d n (by omega) h3
   by_cases hmn : m = (n : Int)
   ·have hz : (causesL p S (n : Int)).countP (fun x => x == m) = 0 := by
     rw [List.countP_eq_zero]
     intro x hx hq
     have e : x = m := by simpa using hq
     obtain ⟨y, hy, q1, -⟩ := (told_all hu S p.length n (by omega) h3 x hx).nat
     omega
    have ht : topA p (s : Int) p.length m = k := by
     obtain ⟨e, he⟩ : ∃ e, p.length = e + 1 := ⟨p.length - 1, by omega⟩
     rw [hmn, he, topA_self e h4, h5]
    rw [hz, ht, Int.toNat_natCast, if_pos rfl]
    split <;> omega
   ·have hf : ((n : Int) == m) = false := beq_eq_false_iff_ne.2 (fun e => hmn e.symm)
    rw [hf]
    by_cases hc : (causesL p S (n : Int)).countP (fun x => x == m) = 0
    ·rw [hc]; simp
    ·obtain ⟨x, hx, hq⟩ := List.countP_pos_iff.1 (Nat.pos_of_ne_zero hc)
     have e : x = m := by simpa using hq
     subst e
     have ht := told_all hu S p.length n (by omega) h3 x hx
     obtain ⟨y, rfl, q1, q2, -⟩ := ht.nat
     have h7 := ht.up
     rw [above_at q2] at h7
     have h8 := topA_of hu h3 h4 p.length y (by omega) q2 _ h7
     rw [h5] at h8
     rw [h8, Int.toNat_natCast, if_pos rfl]
     simp only [Bool.false_eq_true, if_false]
     omega
theorem few_len : ∀ (d : Nat) (l : List Int), (∀ m, l.countP (fun x => x == m) ≤ 1) → (∀ x ∈ l, 0 ≤ x ∧ x < (d : Int)) → l.length ≤ d
 | 0, l, h1, h2 => by
  cases l with
  | nil => simp
  | cons x l => have := h2 x List.mem_cons_self; omega
 | d + 1, l, h1, h2 => by
  have ih := few_len d (l.filter fun x => !(x == (d : Int))) (fun m => Nat.le_trans (by rw [List.countP_filter]; exact List.countP_mono_left (fun x _ h => by simp at h ⊢; exact h.1)) (h1 m)) (fun x hx => by
   obtain ⟨q1, q2⟩ := List.mem_filter.1 hx
   have q3 := h2 x q1
   have q4 : x ≠ (d : Int) := by simpa using q2
   omega)
  have h3 := h1 (d : Int)
  have h4 := List.length_eq_countP_add_countP (fun x => x == (d : Int)) (l := l)
  rw [← List.countP_eq_length_filter] at ih
  have h5 : l.countP (fun a => decide ¬((a == (d : Int)) = true)) = l.countP (fun x => !(x == (d : Int))) := by
   congr 1; funext a; cases (a == (d : Int)) <;> rfl
  omega
theorem causes_len {p : List S39} (hu : UpP p) (S : List Int) {s : Nat} (hs : s < p.length) : (causesL p S (s : Int)).length ≤ p.length :=
 few_len p.length _ (fun m => causes_once hu S m p.length s (by omega) hs) (fun x hx => by
  obtain ⟨n, rfl, h1, h2, -⟩ := (told_all hu S p.length s (by omega) hs x hx).nat
  omega)
theorem ofL_len (p : List S39) (l : List S50) (s : Int) : (ofL p l s).length ≤ p.length := by
 unfold ofL
 cases hf : factsB p l
 ·simp
 ·cases hb : (decide (0 ≤ s) && decide (s < (l.length : Int)))
  ·simp
  ·rw [Bool.and_eq_true, decide_eq_true_eq, decide_eq_true_eq] at hb
   obtain ⟨n, rfl⟩ := Int.eq_ofNat_of_zero_le hb.1
   obtain ⟨h1, h2⟩ := facts_shape hf
   exact causes_len (shape_up h2) _ (by omega)
theorem ofL_told (p : List S39) (l : List S50) (s : Int) : ∀ x ∈ ofL p l s, ∃ n : Nat, x = n ∧ n < p.length := by
 intro x hx
 unfold ofL at hx
 cases hf : factsB p l
 ·rw [hf] at hx; simp at hx
 ·cases hb : (decide (0 ≤ s) && decide (s < (l.length : Int)))
  ·rw [hf, hb] at hx; simp at hx
  ·rw [hf, hb] at hx
   rw [Bool.and_eq_true, decide_eq_true_eq, decide_eq_true_eq] at hb
   obtain ⟨n, rfl⟩ := Int.eq_ofNat_of_zero_le hb.1
   obtain ⟨h1, h2⟩ := facts_shape hf
   simp only [Bool.and_self, if_true] at hx
   obtain ⟨m, rfl, -, q2, -⟩ := (told_all (shape_up h2) _ p.length n (by omega) (by omega) x hx).nat
   exact ⟨m, rfl, q2⟩
end Go.Proofs.YtloijngccppfgaaGreat.Pure
end

section
namespace Go.Proofs.YtloijngccppfgaaGreat.F
open Go.RowKit Go.Proofs.YtloijngccppfgaaGreatW.PrintWords Go.Proofs.YtloijngccppfgaaGreatW.PrintLast Go.Proofs.YtloijngccppfgaaGreatW.PrintMore
attribute [local go_sem] max2_int min2_int max_two min_two max_three min_three max_four min_four
set_option linter.unusedVariables false
set_option linter.unusedSimpArgs false
open Go.Proofs.YtloijngccppfgaaGreat.Pure
attribute [local go_sem] Oper.semAt_some
def why_Of.f (l0_0 : List S39) (l1 : List S50) (a2 : Int) : Option (List Int) := if okArgs l0_0 l1 then some (ofL l0_0 l1 a2) else none
theorem int_cells (w : World) (x : Int) : ∀ (j : Nat) (u : Value), [Value.int .i64 x][j]? = some u → (w.alloc (.cells #[.int .i64 x] 3 (0, 0))).cell? ((⟨w.heap.size, 0, none⟩ : Addr).add j) = some u := by
 intro j u h
 rw [add_plain]
 match j, h with
 | 0, h =>
  obtain rfl := Option.some.inj h
  exact (blk_cell (blk_new w _) 0).trans rfl
theorem int_one (x : Int) : ∀ u ∈ [Value.int .i64 x], u.oneCell' = true := by
 intro u hu
 rw [List.mem_singleton.1 hu]
 rfl
theorem row_alloc {w : World} {base n size : Nat} {e : TypeId} {v : Value} {xs : List Value} (h : w.ownsRow base e size v n xs) (o : Obj) : (w.alloc o).ownsRow base e size v n xs := ownsRow_stay h (Stay.alloc (n := 0) o (Nat.zero_le _))
theorem row_lower {w : World} {b b' n size : Nat} {e : TypeId} {v : Value} {xs : List Value} (h : w.ownsRow b e size v n xs) (hb : b' ≤ b) : w.ownsRow b' e size v n xs := by
 refine ⟨h.1, ?_⟩
 rcases h.2 with h | ⟨g, cap, cur, q1, q2, q3⟩
 ·exact .inl h
 ·exact .inr ⟨g, cap, cur, q1, Nat.le_trans hb q2, q3⟩
set_option maxHeartbeats 8000000 in
set_option maxRecDepth 100000 in
theorem why_of_walk (A0_0 : Option Addr) (c0_0 : Nat) (l0_0 : List S39) (A1 : Option Addr) (c1 : Nat) (l1 : List S50) (a2 : Int) (w : World) (hr0_0 : Kd.C k39 w A0_0 l0_0.length l0_0) (hc0_0 : l0_0.length ≤ c0_0) (hr1 : Kd.C k50 w A1 l1.length l1) (hc1 : l1.length ≤ c1) (hok : okArgs l0_0 l1 = true) :
  Calls Tryz.prog 10 #[.agg #[.slice A0_0 l0_0.length c0_0], .slice A1 l1.length c1, .int .i64 a2] w fun e w' => ∃ v0_ : Value, e = .returned v0_ ∧ w'.ownsRow w.heap.size 3 1 v0_ (ofL l0_0 l1 a2).length ((ofL l0_0 l1 a2).map (Value.int .i64)) ∧ Below w.heap.size w w' := by
 have HB0 := Aside0.mk (below_alloc (Below.refl w.heap.size w) (.cells #[.slice A0_0 l0_0.length c0_0] 24 (0, 0)))
 have HG0 := Aside0.mk (blk_new w (.cells #[.slice A0_0 l0_0.length c0_0] 24 (0, 0)))
 have HS := Aside0.mk (why_seen_walk l0_0 A0_0 c0_0 l1 A1 c1 (w.alloc (.cells #[.slice A0_0 l0_0.length c0_0] 24 (0, 0))) (Kd.C_below hr0_0 HB0.out) hc0_0 (Kd.C_below hr1 HB0.out) hc1 hok)
 have HLE := Aside0.mk (ofL_len l0_0 l1 a2)
 unfold ofL at HLE ⊢
 clear hr0_0 hc0_0 hr1 hc1 hok
 cases hv : factsB l0_0 l1 with
 | false =>
  have HV := Aside0.mk hv
  clear hv HLE
  simp only [Bool.false_and, Bool.false_eq_true, if_false]
  go_enter Tryz.func10, Tryz.ntmps10
  go_wp2_with (first
   | (go_at_call 32; refine HS.out.mono ?_; rintro e w2 ⟨r, rfl, hm⟩; obtain rfl := hm.none_ HV.out; have HB2 := Aside0.mk (HB0.out.trans (hm.1.mono HB0.out.size)); clear hm)
   | (go_at_call 33; refine (why_has_none a2 w2).mono ?_; rintro e w3 ⟨rfl, rfl⟩))
  go_ret
  exact ⟨_, rfl, World.ownsRow_nil _ _ _ _, HB2.out⟩
 | true =>
  have HV := Aside0.mk hv
  obtain ⟨hln, hsh⟩ := facts_shape hv
  have HSH := Aside0.mk hsh
  have HN64 := Aside0.mk (shape_few hsh).2
  have HLN := Aside0.mk hln
  obtain ⟨S, hS⟩ : ∃ S, allB l0_0 l1 (madeS l0_0 l1) = S := ⟨_, rfl⟩
  have HSS := Aside0.mk hS
  rw [hS] at HLE ⊢
  rw [hv] at HLE
  clear hS hv hln hsh
  cases hb : (decide (0 ≤ a2) && decide (a2 < (l1.length : Int))) with
  | false =>
   have HBB := Aside0.mk hb
   clear hb HLE
   simp only [Bool.and_false, Bool.false_eq_true, if_false]
   go_enter Tryz.func10, Tryz.ntmps10
   go_wp2_with (first
    | (go_at_call 32; refine HS.out.mono ?_; rintro e w2 ⟨r, rfl, hm⟩; obtain ⟨g, As, cs, gv, rfl, hw⟩ := hm.some_ HV.out; rw [HSS.out] at hw; dsimp only [ptrV]; have HW := Aside0.mk hw; have HB2 := Aside0.mk (HB0.out.trans (hm.1.mono HB0.out.size)); clear hm hw)
    | (go_at_call 33; refine (why_has_walk HW.out a2).mono ?_; rw [HBB.out]; rintro e w3 ⟨rfl, rfl⟩))
   go_ret
   exact ⟨_, rfl, World.ownsRow_nil _ _ _ _, HB2.out⟩
  | true =>
   have HBB := Aside0.mk hb
   rw [hb] at HLE
   simp only [Bool.and_self, if_true] at HLE ⊢
   rw [Bool.and_eq_true, decide_eq_true_eq, decide_eq_true_eq] at hb
   obtain ⟨i, rfl⟩ := Int.eq_ofNat_of_zero_le hb.1
   have HIL : Aside0 (i < l0_0.length) := ⟨by have := HLN.out; omega⟩
   obtain ⟨L, hL⟩ : ∃ L, causesL l0_0 S (i : Int) = L := ⟨_, rfl⟩
   have HLL := Aside0.mk hL
   rw [hL] at HLE ⊢
   clear hb hL
   obtain ⟨i0, hi, hz0, hz1, hz2⟩ := info_parts info3_
   refine (callsIn_wide (n := 0)).1 ?_
   refine callsIn_of_wpB Tryz.func10 rfl ?_
   simp only [Tryz.ntmps10, List.size_toArray, List.length_cons, List.length_nil, Nat.reduceAdd, Nat.reduceSub, Array.replicate_succ, Array.replicate_zero, List.push_toArray, List.append_toArray, List.nil_append, List.cons_append]
   (refine wpB_seq_k (fun K hK => ?_); gi_wp2; refine hK.out _ _ ?_; clear hK K)
   refine wpB_seq_k (fun K hK => ?_)
   gi_wp2
   refine ⟨trivial, rfl, (callsIn_wide.2 HS.out).mono ?_⟩
   rintro e w2 ⟨r, rfl, hm⟩
   obtain ⟨g, As, cs, gv, rfl, hw⟩ := hm.some_ HV.out
   rw [HSS.out] at hw
   dsimp only [ptrV]
   have HW := Aside0.mk hw
   have HB2 := Aside0.mk (HB0.out.trans (hm.1.mono HB0.out.size))
   clear hm hw
   gi_wp2
   refine hK.out _ _ ?_
   clear hK K
   refine wpB_seq_k (fun K hK => ?_)
   gi_wp2
   refine ⟨trivial, rfl, (callsIn_wide.2 (why_has_walk HW.out _)).mono ?_⟩
   rw [HBB.out]
   rintro e w3 ⟨rfl, rfl⟩
   gi_wp2
   refine hK.out _ _ ?_
   clear hK K
   (refine wpB_seq_k (fun K hK => ?_); gi_wp2; refine hK.out _ _ ?_; clear hK K)
   obtain ⟨W4, hW4⟩ : ∃ W, W = w3.alloc (.cells #[.slice none 0 0] 28 (0, 0)) := ⟨_, rfl⟩
   rw [← hW4]
   have HS4 : Aside0 (W4.heap.size = w3.heap.size + 1) := ⟨by rw [hW4]; simp⟩
   have HB4 : Aside0 (Below w3.heap.size w3 W4) := ⟨by rw [hW4]; exact below_alloc (Below.refl _ _) _⟩
   have HN4 : Aside0 (W4.heap[w3.heap.size]? = some (.cells #[.slice none 0 0] 28 (0, 0))) := ⟨by rw [hW4]; exact blk_new _ _⟩
   clear hW4
   refine wpB_seqB ?_
   refine wpB_seq_k (fun K hK => ?_)
   gi_wp2
   refine ⟨trivial, rfl, (causes_call g (i : Int) W4).mono ?_⟩
   rintro e w5 ⟨rfl, hw5⟩
   have HS5 : Aside0 (w5.heap.size = W4.heap.size + 2) := ⟨by rw [hw5]; simp⟩
   have hb5 : Below W4.heap.size W4 w5 := by rw [hw5]; exact ((Below.refl _ W4).alloc (Nat.le_refl _) _).alloc (by simp) _
   have hc1 : w5.heap[W4.heap.size]? = some (.cells #[.pointer (some ⟨g, 0, none⟩)] 71 (0, 0)) := by rw [hw5]; exact (Below.heap_alloc _ _ _ (by simp)).trans (blk_new W4 _)
   have hc2 : w5.heap[W4.heap.size + 1]? = some (.cells #[.int .i64 i] 3 (0, 0)) := by rw [hw5]; have := blk_new (W4.alloc (.cells #[.pointer (some ⟨g, 0, none⟩)] 71 (0, 0))) (.cells #[.int .i64 i] 3 (0, 0)); rwa [World.size_alloc] at this
   have HJ0 : Aside0 (RowX 28 3 1 (.cells #[.pointer (some ⟨g, 0, none⟩)] 71 (0, 0)) (.cells #[.int .i64 i] 3 (0, 0)) w3 w3.heap.size W4.heap.size (W4.heap.size + 1) 0 [] w5) :=
    ⟨⟨HB4.out.trans (hb5.mono HB4.out.size), ⟨_, blk_below HN4.out hb5, World.ownsRow_nil _ _ _ _, by simp [Value.ownBlock], by simp [Value.ownBlock]⟩, hc1, hc2, by have := HS4.out; omega⟩⟩
   clear hw5 hb5 hc1 hc2
   gi_wp2
   refine hK.out _ _ ?_
   clear hK K
   refine wpB_block ?_
   refine wpB_rangeFuncX (gf := 61) (lb := #[.pointer (some ⟨W4.heap.size, 0, none⟩), .pointer (some ⟨W4.heap.size + 1, 0, none⟩)]) rfl (enters_of Tryz.func61 (by kernel_rfl) rfl) ⟨_, Tryz.func10⟩ (causes_iter HSH.out S i HIL.out g _ _ _ _ _ _ _ _ W4.heap.size (W4.heap.size + 1) w3 HW.out) ?hsz
    (fun s X => RowX 28 3 1 (.cells #[.pointer (some ⟨g, 0, none⟩)] 71 (0, 0)) (.cells #[.int .i64 i] 3 (0, 0)) w3 w3.heap.size W4.heap.size (W4.heap.size + 1) s.length (s.map (Value.int .i64)) X) (fun _ _ => False) ?h0 ?hD (rowEx w3.heap.size 28) (rowEx_calm (by have := HS4.out; have := HS5.out; omega)) (fun s X h => h.exl) ?hst ?hstp ?hround ?hdone ?hpanic
   case hsz => rintro v args rfl; rfl
   case h0 => exact HJ0.out
   case hD => exact fun s X h => ⟨h.b, h.d1, h.d2⟩
   case hst => exact fun s X X' h hs => h.stay rfl rfl hs (by have := HS4.out; have := HS5.out; omega)
   case hstp => exact fun _ _ _ h _ => h
   case hpanic => exact fun _ _ _ _ h _ => h.elim
   case hround =>
    rintro ly s u t args X hSS hl1 hl2 hJ rfl
    have HJ := Aside0.mk hJ
    have HL1 := Aside0.mk hl1
    have HSL : Aside0 (s.length + 1 ≤ 64) := ⟨by have h1 := HLE.out; have h2 := HN64.out; rw [← HLL.out, hSS] at h1; simp at h1; omega⟩
    clear hSS hl1 hl2 hJ
    gi_wp2
    refine ⟨Below.refl _ _, ?_⟩
    intro X4 hku hbl
    have hJ4 := HJ.out.stay rfl rfl hbl (by have := HS4.out; have := HS5.out; have := HL1.out; omega)
    obtain ⟨v, r1, r2, -⟩ := hJ4.row
    have HJ4 := Aside0.mk hJ4
    have HR1 := Aside0.mk r1
    have HR2 := Aside0.mk r2
    have hbs := hJ4.b.size
    have cn : X4.cell? ⟨w3.heap.size, 0, none⟩ = some v := (blk_cell r1 0).trans rfl
    clear r1 r2 hJ4 hku hbl HJ
    gi_wp2_with (gi_at_builtin; refine wpListIn_append_fresh _ rfl _ _ 28 rfl w3.heap.size 3 i0 _ 1 8 Tryz.underlying28 hi hz0 hz1 hz2 rfl (by decide) _ _ _ rfl (row_alloc HR2.out _) ⟨X4.heap.size, 0, none⟩ 1 1 [.int .i64 u] rfl rfl (int_cells X4 u) (int_one u) (by have := HSL.out; unfold maxLen; omega) (by have := HSL.out; omega) (by simp; omega) ?_; intro v' w1 hown' hgrow hfr; obtain ⟨g', cap', rfl⟩ := ownsRow_succ hown'; obtain ⟨hj, hk⟩ := HJ4.out.step HR1.out (by decide) hown' hgrow hfr; have HJ5 := Aside0.mk hj; have HK5 := Aside0.mk (hk w5.heap.size (by have := HS4.out; have := HS5.out; omega)); have hv1 : Boxed w1 w3.heap.size 28 v := (Boxed.appended (W := X4) (B := w3.heap.size) (n₀ := w3.heap.size) HR1.out (by decide) HR2.out HJ4.out.b.size (Nat.le_refl _) hown' hgrow).1; have hc1 := hv1.cell; have hf1 := hv1.frozen; clear hown' hgrow hfr hj hk hv1)
    exact ⟨HK5.out, by show RowX _ _ _ _ _ _ _ _ _ (s ++ [u]).length ((s ++ [u]).map (Value.int .i64)) _; rw [List.length_append, List.map_append]; exact HJ5.out⟩
   case hdone =>
    intro d Wd hd hJd hmark hxd
    have HJD := Aside0.mk hJd
    have HMK := Aside0.mk hmark
    obtain ⟨v, r1, r2, -⟩ := hJd.row
    have HR2 := Aside0.mk r2
    have cn : Wd.cell? ⟨w3.heap.size, 0, none⟩ = some v := (blk_cell r1 0).trans rfl
    have HXD := Aside0.mk hxd
    clear hJd hmark hxd r1 r2
    show wpB _ _ _ _ _ _
    refine wpB_in ?_
    gi_wp2
    refine leaves_marksX (B := w5.heap.size) (rowEx_calm (n8 := w3.heap.size) (t := 28) (by have := HS4.out; have := HS5.out; omega)) .returning (by simp) [d] Wd (MarksX.cons (MarksX.nil _ _) hd (by simp) HMK.out HXD.out) (fun W' hW' => ?_)
    have hR := row_lower (ownsRow_stay HR2.out hW') HB2.out.size
    rw [HLL.out] at hR
    exact ⟨_, results_tmp rfl _ _ _, v, rfl, hR, HB2.out.trans ((HJD.out.b.trans (hW'.below.mono (by have := HS4.out; have := HS5.out; omega))).mono HB2.out.size)⟩
set_option maxHeartbeats 8000000 in
set_option maxRecDepth 100000 in
theorem why_Of.calls (A0_0 : Option Addr) (c0_0 : Nat) (l0_0 : List S39) (A1 : Option Addr) (c1 : Nat) (l1 : List S50) (a2 : Int) (r : List Int) (w : World) (hr0_0 : Kd.C k39 w A0_0 l0_0.length l0_0) (hc0_0 : l0_0.length ≤ c0_0) (hr1 : Kd.C k50 w A1 l1.length l1) (hc1 : l1.length ≤ c1) (h : why_Of.f l0_0 l1 a2 = some r) :
  Calls Tryz.prog 10 #[.agg #[.slice A0_0 l0_0.length c0_0], .slice A1 l1.length c1, .int .i64 a2] w fun e w' => ∃ v0_ : Value, e = .returned v0_ ∧ Kd.R (Kd.int .i64) 3 w' w.heap.size (fun _ => True) v0_ r ∧ Below w.heap.size w w' := by
 unfold why_Of.f at h
 by_cases hok : okArgs l0_0 l1 = true
 ·rw [if_pos hok] at h
  obtain rfl := Option.some.inj h
  refine (why_of_walk A0_0 c0_0 l0_0 A1 c1 l1 a2 w hr0_0 hc0_0 hr1 hc1 hok).mono ?_
  rintro e w' ⟨v, he, h1, h2⟩
  exact ⟨v, he, ints_R h1, h2⟩
 ·rw [if_neg hok] at h
  cases h
end Go.Proofs.YtloijngccppfgaaGreat.F
end

section
namespace Go.Proofs.YtloijngccppfgaaGreat.F
open Go.RowKit Go.Proofs.YtloijngccppfgaaGreatW.PrintWords Go.Proofs.YtloijngccppfgaaGreatW.PrintLast Go.Proofs.YtloijngccppfgaaGreatW.PrintMore
attribute [local go_sem] max2_int min2_int max_two min_two max_three min_three max_four min_four
set_option linter.unusedVariables false
set_option linter.unusedSimpArgs false
open Go.Proofs.YtloijngccppfgaaGreat.Pure
def why_Steps.f (l0_0 : List S39) (l1 : List S50) (a2 : Int) : Option (List Int) := if okArgs l0_0 l1 then some (stepsL l0_0 l1 a2) else none
theorem steps_lit (p : List S39) (A : Option Addr) (c g : Nat) (n : Nat) (hn : n < p.length) (w : World) (hp : Kd.C k39 w A p.length p) (hg : w.heap[g]? = some (.cells #[.slice A p.length c] 24 (0, 0))) :
  Calls Tryz.prog 36 (#[.int .i64 n] ++ #[.pointer (some ⟨g, 0, none⟩)]) w fun e w' => e = .returned (.bool (rd_T39 p (n : Int)).f2) ∧ w' = w := by
 have y0 : w.cell? ⟨g, 0, none⟩ = some (.slice A p.length c) := (blk_cell hg 0).trans rfl
 have h0 : (0 : Int) ≤ n := by omega
 have h1 : (n : Int) < (p.length : Int) := by omega
 obtain ⟨ai, A7, c7, e1, q0, q1, q2, q3, q4, q5, q6, q7, -, -⟩ := at_T39 hp (n : Int) h0 h1
 subst e1
 rw [Int.toNat_natCast] at q2
 generalize (rd_T39 p (n : Int)).f2 = b2 at q2 ⊢
 clear q0 q1 q3 q4 q5 q6 q7 hg hp hn
 show Calls Tryz.prog 36 #[.int .i64 n, .pointer (some ⟨g, 0, none⟩)] w _
 go_enter Tryz.func36, Tryz.ntmps36
 go_wp2
 go_ret
 exact ⟨rfl, rfl⟩
set_option maxHeartbeats 8000000 in
set_option maxRecDepth 100000 in
theorem why_Steps.calls (A0_0 : Option Addr) (c0_0 : Nat) (l0_0 : List S39) (A1 : Option Addr) (c1 : Nat) (l1 : List S50) (a2 : Int) (r : List Int) (w : World) (hr0_0 : Kd.C k39 w A0_0 l0_0.length l0_0) (hc0_0 : l0_0.length ≤ c0_0) (hr1 : Kd.C k50 w A1 l1.length l1) (hc1 : l1.length ≤ c1) (h : why_Steps.f l0_0 l1 a2 = some r) :
  Calls Tryz.prog 11 #[.agg #[.slice A0_0 l0_0.length c0_0], .slice A1 l1.length c1, .int .i64 a2] w fun e w' => ∃ v0_ : Value, e = .returned v0_ ∧ Kd.R (Kd.int .i64) 3 w' w.heap.size (fun _ => True) v0_ r ∧ Below w.heap.size w w' := by
 unfold why_Steps.f at h
 by_cases hok : okArgs l0_0 l1 = true
 ·rw [if_pos hok] at h
  obtain rfl := Option.some.inj h
  have hmf : ∀ (fn : Fn) (first cap : Array Value) (w : World), (Instr.makeFunc fn first cap).run Tryz.prog w = .ok (.func fn first cap) w := fun _ _ _ _ => rfl
  have HE := Aside0.mk (enters_of Tryz.func36 (P := Tryz.prog) (f := 36) (by kernel_rfl) rfl)
  have HP := Aside0.mk hr0_0
  have HB0 := Aside0.mk (below_alloc (Below.refl w.heap.size w) (.cells #[.slice A0_0 l0_0.length c0_0] 24 (0, 0)))
  have HG0 := Aside0.mk (blk_new w (.cells #[.slice A0_0 l0_0.length c0_0] 24 (0, 0)))
  have HS := Aside0.mk (why_of_walk A0_0 c0_0 l0_0 A1 c1 l1 a2 (w.alloc (.cells #[.slice A0_0 l0_0.length c0_0] 24 (0, 0))) (Kd.C_below hr0_0 HB0.out) hc0_0 (Kd.C_below hr1 HB0.out) hc1 hok)
  have HTO := Aside0.mk (ofL_told l0_0 l1 a2)
  unfold stepsL
  generalize ofL l0_0 l1 a2 = L at HS HTO ⊢
  have HFE : Aside0 ((L.filter fun i => !(rd_T39 l0_0 i).f2) = L.filter fun i => !(fun j => (rd_T39 l0_0 j).f2) i) := ⟨rfl⟩
  clear hr0_0 hc0_0 hr1 hc1 hok h
  go_enter Tryz.func11, Tryz.ntmps11
  go_wp2_with (first
   | (go_at_call 10; refine HS.out.mono ?_; rintro e w2 ⟨v, rfl, hR, hb⟩; have HR2 := Aside0.mk hR; have HB2 := Aside0.mk (HB0.out.trans (hb.mono HB0.out.size)); have HG2 := Aside0.mk (blk_below HG0.out hb); have HSZ := Aside0.mk hb.size; clear hR hb)
   | (go_at_call 35; refine (delete_func_int 36 #[.pointer (some ⟨w.heap.size, 0, none⟩)] HE.out (fun j => (rd_T39 l0_0 j).f2) v L _ w2 HR2.out HSZ.out ?hp).mono ?_; (case hp => intro x hx W hW; obtain ⟨n, rfl, hn⟩ := HTO.out x hx; exact steps_lit l0_0 A0_0 c0_0 w.heap.size n hn W (Kd.C_below HP.out (HB2.out.trans (hW.mono HB0.out.size))) ((hW.block _ (by simp)).trans HG2.out)); rintro e w3 ⟨v3, rfl, hR, hb⟩; have HR3 := Aside0.mk hR; have HB3 := Aside0.mk (HB2.out.trans (hb.mono (Nat.le_trans (Nat.le_of_eq rfl) HB0.out.size))); clear hR hb))
  go_ret
  exact ⟨v3, rfl, Kd.R_lower (ints_R HR3.out) HB0.out.size, HB3.out⟩
 ·rw [if_neg hok] at h
  cases h
end Go.Proofs.YtloijngccppfgaaGreat.F
end

section
namespace Go.Proofs.YtloijngccppfgaaGreat.F
open Go.RowKit Go.Proofs.YtloijngccppfgaaGreatW.PrintWords Go.Proofs.YtloijngccppfgaaGreatW.PrintLast Go.Proofs.YtloijngccppfgaaGreatW.PrintMore
attribute [local go_sem] max2_int min2_int max_two min_two max_three min_three max_four min_four
set_option linter.unusedVariables false
set_option linter.unusedSimpArgs false
open Go.Proofs.YtloijngccppfgaaGreat.Pure
def why_Blame.f (l0_0 : List S39) (l1 : List S50) (a2 : Int) : Option Int := if okArgs l0_0 l1 then some (blameL l0_0 l1 a2) else none
set_option maxHeartbeats 8000000 in
set_option maxRecDepth 100000 in
theorem why_Blame.calls (A0_0 : Option Addr) (c0_0 : Nat) (l0_0 : List S39) (A1 : Option Addr) (c1 : Nat) (l1 : List S50) (a2 : Int) (r : Int) (w : World) (hr0_0 : Kd.C k39 w A0_0 l0_0.length l0_0) (hc0_0 : l0_0.length ≤ c0_0) (hr1 : Kd.C k50 w A1 l1.length l1) (hc1 : l1.length ≤ c1) (h : why_Blame.f l0_0 l1 a2 = some r) :
  Calls Tryz.prog 15 #[.agg #[.slice A0_0 l0_0.length c0_0], .slice A1 l1.length c1, .int .i64 a2] w fun e w' => e = .returned (.int .i64 r) ∧ Below w.heap.size w w' := by
 unfold why_Blame.f at h
 by_cases hok : okArgs l0_0 l1 = true
 ·rw [if_pos hok] at h
  obtain rfl := Option.some.inj h
  have HP := Aside0.mk hr0_0
  have HB0 := Aside0.mk (below_alloc (Below.refl w.heap.size w) (.cells #[.slice A0_0 l0_0.length c0_0] 24 (0, 0)))
  have HG0 := Aside0.mk (blk_new w (.cells #[.slice A0_0 l0_0.length c0_0] 24 (0, 0)))
  have HS := Aside0.mk (why_seen_walk l0_0 A0_0 c0_0 l1 A1 c1 (w.alloc (.cells #[.slice A0_0 l0_0.length c0_0] 24 (0, 0))) (Kd.C_below hr0_0 HB0.out) hc0_0 (Kd.C_below hr1 HB0.out) hc1 hok)
  unfold blameL
  clear hr0_0 hc0_0 hr1 hc1 hok h
  cases hv : factsB l0_0 l1 with
  | false =>
   have HV := Aside0.mk hv
   clear hv
   simp only [Bool.false_and, Bool.false_eq_true, if_false]
   go_enter Tryz.func15, Tryz.ntmps15
   go_wp2_with (first
    | (go_at_call 32; refine HS.out.mono ?_; rintro e w2 ⟨r, rfl, hm⟩; obtain rfl := hm.none_ HV.out; have HB2 := Aside0.mk (HB0.out.trans (hm.1.mono HB0.out.size)); clear hm)
    | (go_at_call 33; refine (why_has_none a2 w2).mono ?_; rintro e w3 ⟨rfl, rfl⟩))
   go_ret
   exact ⟨rfl, HB2.out⟩
  | true =>
   have HV := Aside0.mk hv
   obtain ⟨hln, hsh⟩ := facts_shape hv
   have HU := Aside0.mk (shape_up hsh)
   have HLN := Aside0.mk hln
   obtain ⟨S, hS⟩ : ∃ S, allB l0_0 l1 (madeS l0_0 l1) = S := ⟨_, rfl⟩
   have HSS := Aside0.mk hS
   rw [hS]
   clear hS hv hln hsh
   cases hb : (decide (0 ≤ a2) && decide (a2 < (l1.length : Int))) with
   | false =>
    have HBB := Aside0.mk hb
    clear hb
    simp only [Bool.and_false, Bool.false_eq_true, if_false]
    go_enter Tryz.func15, Tryz.ntmps15
    go_wp2_with (first
     | (go_at_call 32; refine HS.out.mono ?_; rintro e w2 ⟨r, rfl, hm⟩; obtain ⟨g, As, cs, gv, rfl, hw⟩ := hm.some_ HV.out; rw [HSS.out] at hw; dsimp only [ptrV]; have HW := Aside0.mk hw; have HB2 := Aside0.mk (HB0.out.trans (hm.1.mono HB0.out.size)); clear hm hw)
     | (go_at_call 33; refine (why_has_walk HW.out a2).mono ?_; rw [HBB.out]; rintro e w3 ⟨rfl, rfl⟩))
    go_ret
    exact ⟨rfl, HB2.out⟩
   | true =>
    have HBB := Aside0.mk hb
    rw [Bool.and_eq_true, decide_eq_true_eq, decide_eq_true_eq] at hb
    simp only [Bool.and_self, if_true]
    unfold blameI
    obtain ⟨i, rfl⟩ := Int.eq_ofNat_of_zero_le hb.1
    have hil : i < l0_0.length := by have := HLN.out; omega
    obtain ⟨B, hB⟩ : ∃ B, blameF l0_0 S (l0_0.length + 1) (i : Int) = B := ⟨_, rfl⟩
    have HBF := Aside0.mk hB
    rw [hB]
    clear hB hb
    go_enter Tryz.func15, Tryz.ntmps15
    go_wp2_with (first
     | (go_at_call 32; refine HS.out.mono ?_; rintro e w2 ⟨r, rfl, hm⟩; obtain ⟨g, As, cs, gv, rfl, hw⟩ := hm.some_ HV.out; rw [HSS.out] at hw; dsimp only [ptrV]; have HW := Aside0.mk hw; have HB2 := Aside0.mk (HB0.out.trans (hm.1.mono HB0.out.size)); have HG2 := Aside0.mk (blk_below HG0.out hm.1); clear hm hw)
     | (go_at_call 33; refine (why_has_walk HW.out _).mono ?_; rw [HBB.out]; rintro e w3 ⟨rfl, rfl⟩))
    go_loopg [8] (i + 1) (fun kq v8 w' => ∃ (k : Int) (d : Nat), v8 = .int .i64 k ∧ k + 1 = kq ∧ k < l0_0.length ∧ k < d ∧ Aside0 (blameF l0_0 S d k = B) ∧ Aside0 (Below w3.heap.size w3 w'))
    case atStart => exact ⟨i, l0_0.length + 1, rfl, by omega, by omega, by omega, HBF, ⟨Below.refl _ _⟩⟩
    case round =>
     obtain ⟨k, d, rfl, hk, hkl, hkd, HF, HB⟩ := hrel
     have HBw := Aside0.mk (HB2.out.trans (HB.out.mono HB2.out.size))
     by_cases hk0 : k > 0
     ·obtain ⟨n, rfl⟩ := Int.eq_ofNat_of_zero_le (Int.le_of_lt hk0)
      obtain ⟨d, rfl⟩ : ∃ e, d = e + 1 := ⟨d - 1, by omega⟩
      have HF2 : Aside0 ((if 0 ≤ causeI l0_0 S (rd_T39 l0_0 (n : Int)).f5 (rd_T39 l0_0 (n : Int)).f6 then causeI l0_0 S (rd_T39 l0_0 (n : Int)).f5 (rd_T39 l0_0 (n : Int)).f6 else blameF l0_0 S d (rd_T39 l0_0 (n : Int)).f5) = B) := ⟨by have := HF.out; unfold blameF at this; rw [if_pos (by omega)] at this; exact this⟩
      have hnl : n < l0_0.length := by omega
      have h0 : (0 : Int) ≤ n := by omega
      have h1 : (n : Int) < (l0_0.length : Int) := by omega
      have HUP := Aside0.mk (HU.out.2 n hnl)
      have HK := Aside0.mk hk
      have HKD := Aside0.mk hkd
      obtain ⟨ai, A7, c7, e1, q0, q1, q2, q3, q4, q5, q6, q7, -, -⟩ := at_T39 (Kd.C_below HP.out HBw.out) (n : Int) h0 h1
      subst e1
      rw [Int.toNat_natCast] at q5 q6
      obtain ⟨u5, hu5⟩ : ∃ u, (rd_T39 l0_0 (n : Int)).f5 = u := ⟨_, rfl⟩
      obtain ⟨u6, hu6⟩ : ∃ u, (rd_T39 l0_0 (n : Int)).f6 = u := ⟨_, rfl⟩
      have HU5 := Aside0.mk hu5
      rw [hu5] at q5 HF2 HUP
      rw [hu6] at q6 HF2
      have HC := Aside0.mk (fun (X : World) (hb : Below w3.heap.size w3 X) => cause_walk (HW.out.below hb) u5 u6)
      obtain ⟨ci, hci⟩ : ∃ ci, causeI l0_0 S u5 u6 = ci := ⟨_, rfl⟩
      rw [hci] at HC HF2
      have x0 : wr.cell? ⟨w.heap.size, 0, none⟩ = some (.slice (some ai) l0_0.length c0_0) := (blk_cell (blk_below HG2.out HB.out) 0).trans rfl
      clear q0 q1 q2 q3 q4 q7 hu5 hu6 hci HF hk hkd hkl
      go_upto_region 7 with (fail)
      go_region_with (go_at_call 41; refine (HC.out _ (below_drewN HB.out 1)).mono ?_; rintro e w4 ⟨rfl, hb⟩; have HB4 := Aside0.mk ((below_drewN HB.out 1).trans (hb.mono (below_drewN HB.out 1).size)); clear hb)
      all_goals
       clear x0 q5 q6
       have HBw4 := Aside0.mk (HB2.out.trans (HB4.out.mono HB2.out.size))
       have x0 : w4.cell? ⟨w.heap.size, 0, none⟩ = some (.slice (some ai) l0_0.length c0_0) := (blk_cell (blk_below HG2.out HB4.out) 0).trans rfl
       obtain ⟨ai2, A72, c72, e1, q0, q1, q2, q3, q4, q5, q6, q7, -, -⟩ := at_T39 (Kd.C_below HP.out HBw4.out) (n : Int) h0 h1
       obtain rfl := Option.some.inj e1
       rw [Int.toNat_natCast, HU5.out] at q5
       clear q0 q1 q2 q3 q4 q6 q7
       by_cases hc : ci ≥ 0
       ·have HE : Aside0 (ci = B) := ⟨by have := HF2.out; rw [if_pos (by omega)] at this; exact this⟩
        go_wp2
        go_ret
        exact ⟨by rw [← HE.out]; rfl, HBw4.out⟩
       ·have HE : Aside0 (blameF l0_0 S d u5 = B) := ⟨by have := HF2.out; rw [if_neg (by omega)] at this; exact this⟩
        go_wp2
        go_roundg (u5 + 1).toNat
        case measure => have := HUP.out; have := HK.out; omega
        case rel => exact ⟨u5, d, rfl, by have := HUP.out; omega, by have := HUP.out; omega, by have := HUP.out; have := HKD.out; omega, HE, HB4⟩
     ·have HE : Aside0 (-1 = B) := ⟨by
       rw [← HF.out]
       cases d with
       | zero => rfl
       | succ d => unfold blameF; rw [if_neg (by omega)]⟩
      clear hk hkl hkd
      go_wp2
      go_ret
      exact ⟨by rw [← HE.out]; rfl, HBw.out⟩
 ·rw [if_neg hok] at h
  cases h
end Go.Proofs.YtloijngccppfgaaGreat.F
end
