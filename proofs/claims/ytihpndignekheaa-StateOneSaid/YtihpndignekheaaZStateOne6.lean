-- Texts of this seat's, joined.
import Derived.Test.YtihpndignekheaaZStateOne4
import Derived.Test.YtihpndignekheaaZStateOne5
import Derived.Test.YtihpndignekheaaZStateOne2
import Derived.Test.YtihpndignekheaaZStateOne1
import Derived.BigRegion
import Derived.Deep.RegionWith
import Derived.Deep.RegionHeld2
import Derived.WalkSmall
import Derived.Deep.DeepCutAuto
import Derived.Deep.CutRange
import Derived.Test.YtihpndignekheaaProg
import Derived.Below
import Derived.Deep.Draws
import Derived.Deep.AppendLies
import Derived.Maps.AppendAt
import Derived.OwnWalk
import Derived.Laws.BytesArg
import Derived.Laws.MakeOwn
import Derived.Laws.OwnMore
import Derived.Deep.OwnRows
import Derived.Tactics
import Derived.Lib.ConvBytes
import Derived.Laws.Slices
import Derived.WalkKit
import Derived.KernelRfl
import Derived.RowKit3
import Derived.Deep.LoopGhost
import Derived.Deep.QuietTactic
import Derived.BigQuiet
import Derived.WideLaws
import Derived.Deep.CutBlock
import Derived.Deep.RegionHeld3
import Derived.Laws.Rows
import Derived.Lib.AppendStr
import Derived.ArgAppend
import Derived.Laws.IdiomCopy
import Derived.OrdersHeld
import Derived.Laws.BitsLemmas
import Derived.RowKit
import Derived.Deep.Slices
section
namespace Go.Proofs.Ytihpndignekheaa.Pure
set_option linter.unusedVariables false
set_option linter.unusedSectionVars false
open Go.RowKit Go.Proofs.Ytihpndignekheaa.F Go.Proofs.YtihpndignekheaaW.PrintWords Go.Proofs.YtihpndignekheaaW.PrintLast
theorem rd_item {l : List S37} {i : Nat} (hl : i < l.length) : rd_T37 l (i : Int) = l[i] := by unfold rd_T37; rw [Int.toNat_natCast, List.getD_eq_getElem?_getD, List.getElem?_eq_getElem hl]; rfl
section
variable {Q : S37 → Prop} (hQ : ∀ (x : S37) (m : List Int), Q x → Q ⟨x.f0, x.f1, x.f2, x.f3, x.f4, x.f5, x.f6, m⟩)
 (hN : ∀ (x : S79) (inn alt : Int), fitsS x = true → Q ⟨x.f0, x.f1, x.f3, x.f4, (x.f5.length : Int), inn, alt, []⟩)
def QA (Q : S37 → Prop) (l : List S37) : Prop := ∀ x ∈ l, Q x
theorem QA.snoc {l : List S37} (h : QA Q l) {x : S37} (hx : Q x) : QA Q (l ++ [x]) := by
 intro y hy
 rcases List.mem_append.1 hy with hy | hy
 ·exact h y hy
 ·rw [List.mem_singleton.1 hy]; exact hx
include hQ in
theorem QA.after {l : List S37} (h : QA Q l) (a k : Int) : QA Q (addAfter l a k) := by
 intro y hy
 unfold addAfter at hy
 by_cases hl : a.toNat < l.length
 ·have hr : rd_T37 l a = l[a.toNat] := by unfold rd_T37; rw [List.getD_eq_getElem?_getD, List.getElem?_eq_getElem hl]; rfl
  rcases List.mem_or_eq_of_mem_set hy with hy | hy
  ·exact h y hy
  ·rw [hy]; exact hQ _ _ (by rw [hr]; exact h _ (List.getElem_mem hl))
 ·rw [List.set_eq_of_length_le (by omega)] at hy
  exact h y hy
include hQ in
theorem QA.arcs (b : List S79) (ats : List Int) (a : Int) : ∀ (s : List ByteArray) (l : List S37), QA Q l → QA Q (arcsTo b ats a s l)
 | [], _, h => h
 | x :: s, l, h => by rw [arcsTo]; exact QA.arcs b ats a s _ (QA.after hQ h _ _)
include hQ in
theorem QA.pass2 (b : List S79) (ats : List Int) : ∀ (n : List S79) (i : Nat) (l : List S37), QA Q l → QA Q (F.pass2 b ats i n l)
 | [], _, _, h => h
 | x :: n, i, l, h => by rw [F.pass2]; exact QA.pass2 b ats n (i + 1) _ (QA.arcs hQ _ _ _ _ _ h)
theorem fits_alts {nm un : ByteArray} {af : List ByteArray} {sb vi : Bool} {al : List (SB82 S79)} (h : fitsS ⟨nm, un, af, sb, vi, al⟩ = true) : altsFit al = true ∧ (sb = false → al = []) ∧ (sb = true → 0 < al.length) := by
 unfold fitsS at h
 split at h
 ·cases h
 ·cases sb with
  | true =>
   simp only [if_true, Bool.and_eq_true, decide_eq_true_eq] at h
   exact ⟨h.2.1, fun e => (by cases e), fun _ => h.2.2⟩
  | false =>
   simp only [Bool.false_eq_true, if_false, Bool.and_eq_true, decide_eq_true_eq] at h
   obtain rfl := List.length_eq_zero_iff.1 h.2.1
   exact ⟨by unfold altsFit; rfl, fun _ => rfl, fun e => by cases e⟩
include hQ hN in
mutual
theorem QA.node (inn alt : Int) (out : List S37) (h : QA Q out) : ∀ x : S79, fitsS x = true → QA Q (flNode inn alt out x)
 | ⟨nm, un, af, sb, vi, al⟩, hf => by
  unfold flNode
  exact QA.alts _ _ _ (QA.snoc h (hN ⟨nm, un, af, sb, vi, al⟩ inn alt hf)) al (fits_alts hf).1
theorem QA.nodes (inn alt : Int) (out : List S37) (nums : List Int) (h : QA Q out) : ∀ l : List S79, nodesFit l = true → QA Q (flNodes inn alt out nums l).1
 | [], _ => by simpa [flNodes] using h
 | x :: l, hf => by
  unfold nodesFit at hf
  rw [Bool.and_eq_true] at hf
  unfold flNodes
  exact QA.nodes inn alt _ _ (QA.node inn alt out h x hf.1) l hf.2
theorem QA.body (inn alt : Int) (out : List S37) (h : QA Q out) : ∀ b : SB82 S79, bodyFits b = true → QA Q (flBody inn alt out b)
 | ⟨l⟩, hf => by
  unfold bodyFits at hf
  unfold flBody
  exact QA.pass2 hQ _ _ _ _ _ (QA.nodes inn alt out [] h l hf)
theorem QA.alts (inn alt : Int) (out : List S37) (h : QA Q out) : ∀ l : List (SB82 S79), altsFit l = true → QA Q (flAlts inn alt out l)
 | [], _ => by simpa [flAlts] using h
 | b :: l, hf => by
  unfold altsFit at hf
  rw [Bool.and_eq_true] at hf
  unfold flAlts
  exact QA.alts inn (alt + 1) _ (QA.body inn alt out h b hf.1) l hf.2
end
end
theorem eqAll_get {α β : Type} (p : α → β → Bool) : ∀ (l : List α) (m : List β), eqAll p l m = true → l.length = m.length ∧ ∀ (i : Nat) (h1 : i < l.length) (h2 : i < m.length), p l[i] m[i] = true
 | [], [], _ => ⟨rfl, fun i h1 _ => by simp at h1⟩
 | x :: l, y :: m, h => by
  unfold eqAll at h
  rw [Bool.and_eq_true] at h
  have ih := eqAll_get p l m h.2
  refine ⟨by simp [ih.1], fun i h1 h2 => ?_⟩
  cases i with
  | zero => exact h.1
  | succ i => exact ih.2 i (by simpa using h1) (by simpa using h2)
 | [], _ :: _, h => by unfold eqAll at h; cases h
 | _ :: _, [], h => by unfold eqAll at h; cases h
def ItemQ (x : S37) : Prop := (x.f2 = false → x.f4 = 0) ∧ (x.f2 = true → 1 ≤ x.f4)
theorem right_saga {p : List S37} (h : rightB p = true) : shapedB p = true ∧ checkB (nameP p) (sagaOf p) = true ∧ p.length = (makeL (nameP p) (sagaOf p)).length ∧ ∀ (i : Nat) (h1 : i < p.length) (h2 : i < (makeL (nameP p) (sagaOf p)).length), alikeB p[i] (makeL (nameP p) (sagaOf p))[i] = true := by
 unfold rightB at h
 simp only [Bool.and_eq_true] at h
 exact ⟨h.1, h.2.1, (eqAll_get _ _ _ h.2.2).1, (eqAll_get _ _ _ h.2.2).2⟩
theorem check_fits {nm : ByteArray} {l : List BodyK} (h : checkB nm l = true) : altsFit l = true ∧ 0 < l.length := by
 have h1 := (check_small h).2.2.2.2.2
 unfold checkI at h1
 split at h1
 ·split at h1
  ·omega
  ·split at h1
   ·omega
   ·split at h1
    ·rename_i hb
     unfold bodiesOk at hb
     rw [Bool.and_eq_true, decide_eq_true_eq] at hb
     exact hb
    ·omega
 ·omega
theorem right_items {p : List S37} (h : rightB p = true) (i : Nat) (hi : i < p.length) : ItemQ (rd_T37 p (i : Int)) := by
 obtain ⟨h1, h2, h3, h4⟩ := right_saga h
 have hf := check_fits h2
 have hm : QA ItemQ (makeL (nameP p) (sagaOf p)) := by
  unfold makeL
  refine QA.alts (fun x m hx => hx) (fun x inn alt hx => ?_) 0 0 _ ?_ _ hf.1
  ·obtain ⟨nm, un, af, sb, vi, al⟩ := x
   obtain ⟨-, k1, k2⟩ := fits_alts hx
   refine ⟨fun e => ?_, fun e => ?_⟩
   ·have := k1 e
    simp [this]
   ·have := k2 e
    show 1 ≤ (al.length : Int)
    omega
  ·intro x hx
   rw [List.mem_singleton.1 hx]
   refine ⟨fun e => (by cases e), fun _ => ?_⟩
   show 1 ≤ ((sagaOf p).length : Int)
   omega
 have h5 := h4 i hi (by omega)
 have h6 := hm _ (List.getElem_mem (show i < (makeL (nameP p) (sagaOf p)).length by omega))
 rw [rd_item hi]
 unfold alikeB at h5
 simp only [Bool.and_eq_true, beq_iff_eq, decide_eq_true_eq] at h5
 unfold ItemQ at h6 ⊢
 rw [h5.2.2.1, h5.2.2.2.2.1]
 exact h6
theorem item_in {p : List S37} (h : rightB p = true) (i : Nat) (hi : i < p.length) (h0 : i ≠ 0) : ∃ a k : Nat, (rd_T37 p (i : Int)).f5 = a ∧ (rd_T37 p (i : Int)).f6 = k ∧ a < i ∧ (k : Int) < (rd_T37 p (a : Int)).f4 ∧ (rd_T37 p (a : Int)).f2 = true := by
 obtain ⟨h1, -⟩ := right_saga h
 have h2 := itemB_in (shaped_at h1 hi) h0
 rw [← rd_item hi] at h2
 obtain ⟨a, ha⟩ := Int.eq_ofNat_of_zero_le h2.1
 obtain ⟨k, hk⟩ := Int.eq_ofNat_of_zero_le h2.2.2.1
 rw [ha] at h2
 rw [hk] at h2
 have hal : a < p.length := by omega
 have h3 := right_items h a hal
 refine ⟨a, k, ha, hk, by omega, h2.2.2.2, ?_⟩
 cases hs : (rd_T37 p (a : Int)).f2
 ·have := h3.1 hs
  have := h2.2.2.2
  omega
 ·rfl
theorem item_alts {p : List S37} (h : rightB p = true) (i : Nat) (hi : i < p.length) : ∃ n : Nat, (rd_T37 p (i : Int)).f4 = n ∧ n ≤ 4 := by
 obtain ⟨h1, -⟩ := right_saga h
 have h2 := itemB_alts (shaped_at h1 hi)
 rw [← rd_item hi] at h2
 obtain ⟨n, hn⟩ := Int.eq_ofNat_of_zero_le h2.1
 exact ⟨n, hn, by omega⟩
end Go.Proofs.Ytihpndignekheaa.Pure
end

section
namespace Go.Proofs.Ytihpndignekheaa.Pure
set_option linter.unusedVariables false
open Go.RowKit Go.Proofs.Ytihpndignekheaa.F Go.Proofs.YtihpndignekheaaW.PrintWords Go.Proofs.YtihpndignekheaaW.PrintLast
abbrev I_ (p : List S37) (i : Nat) : S37 := rd_T37 p (i : Int)
abbrev L_ (l : List S59) (i : Nat) : S59 := rd_T59 l (i : Int)
theorem firstF_cases (pr : By → Bool) (f : Nat → By) : ∀ (d k : Nat), (firstF pr f k d = -1 ∧ ∀ j, k ≤ j → j < k + d → pr (f j) = false) ∨ ∃ j : Nat, firstF pr f k d = j ∧ k ≤ j ∧ j < k + d ∧ pr (f j) = true ∧ ∀ i, k ≤ i → i < j → pr (f i) = false
 | 0, k => .inl ⟨rfl, fun j h1 h2 => by omega⟩
 | d + 1, k => by
  unfold firstF
  cases hk : pr (f k) with
  | true => exact .inr ⟨k, by rw [if_pos rfl], Nat.le_refl _, by omega, hk, fun i h1 h2 => by omega⟩
  | false =>
   rw [if_neg (by simp)]
   rcases firstF_cases pr f d (k + 1) with ⟨h1, h2⟩ | ⟨j, h1, h2, h3, h4, h5⟩
   ·refine .inl ⟨h1, fun j h3 h4 => ?_⟩
    by_cases e : j = k
    ·rw [e]; exact hk
    ·exact h2 j (by omega) (by omega)
   ·refine .inr ⟨j, h1, by omega, by omega, h4, fun i h6 h7 => ?_⟩
    by_cases e : i = k
    ·rw [e]; exact hk
    ·exact h5 i (by omega) h7
theorem sagaS_cl (n : Nat) (f : Nat → By) (x : Fl) : (sagaS n f x).cl = true ↔ ∀ k, k < n → (f k).cl = true := by
 have e : (sagaS n f x).cl = decide (firstF (fun y => !y.cl) f 0 n < 0) := by unfold sagaS; split <;> rfl
 rw [e, decide_eq_true_eq]
 rcases firstF_cases (fun y => !y.cl) f n 0 with ⟨h1, h2⟩ | ⟨j, h1, h2, h3, h4, h5⟩
 ·rw [h1]
  exact ⟨fun _ k hk => by have := h2 k (by omega) (by omega); simpa using this, fun _ => by omega⟩
 ·rw [h1]
  refine ⟨fun h => by omega, fun h => ?_⟩
  have := h j (by omega)
  simp [this] at h4
theorem sagaS_tc (n : Nat) (f : Nat → By) (x : Fl) : (sagaS n f x).tc = x.tc := by unfold sagaS; split <;> rfl
theorem sagaS_ha (n : Nat) (f : Nat → By) (x : Fl) : (sagaS n f x).ha = x.ha := by unfold sagaS; split <;> rfl
theorem sagaS_sp (n : Nat) (f : Nat → By) (x : Fl) : ((sagaS n f x).sp = true ∧ (sagaS n f x).at_ = (n : Int) - 1 ∧ (sagaS n f x).dn = x.dn ∧ (sagaS n f x).cl = true ∧ ∀ k, k < n → (f k).fa = true ∧ (f k).cl = true) ∨
  ((sagaS n f x).sp = false ∧ ∃ j : Nat, (sagaS n f x).at_ = j ∧ j < n ∧ ((f j).fa = false ∨ (f j).cl = false) ∧ (sagaS n f x).dn = (f j).wh ∧ ∀ k, k < j → (f k).fa = true ∧ (f k).cl = true) := by
 have hc := sagaS_cl n f x
 rcases firstF_cases (fun y => !y.fa || !y.cl) f n 0 with ⟨h1, h2⟩ | ⟨j, h1, h2, h3, h4, h5⟩
 ·have hall : ∀ k, k < n → (f k).fa = true ∧ (f k).cl = true := fun k hk => by
   have := h2 k (by omega) (by omega)
   simpa using this
  refine .inl ⟨?_, ?_, ?_, hc.2 (fun k hk => (hall k hk).2), hall⟩ <;> (unfold sagaS; rw [h1]; rfl)
 ·refine .inr ⟨?_, j, ?_, by omega, ?_, ?_, ?_⟩
  ·unfold sagaS; rw [h1, if_neg (by omega)]
  ·unfold sagaS; rw [h1, if_neg (by omega)]
  ·cases hf : (f j).fa
   ·exact .inl rfl
   ·cases hcl : (f j).cl
    ·exact .inr rfl
    ·simp [hf, hcl] at h4
  ·unfold sagaS; rw [h1, if_neg (by omega), Int.toNat_natCast]
  ·intro k hk
   have := h5 k (by omega) hk
   simpa using this
def kid (p : List S37) (i a k : Nat) : Prop := i ≠ 0 ∧ (I_ p i).f5.toNat = a ∧ (I_ p i).f6.toNat = k
def flLow (t : Bool) : Fl := ⟨false, t, false, false, false, 0⟩
structure DownAt (p : List S37) (l : List S59) (m : Nat) (s : St) : Prop where
 fa : ∀ a k, (s.bo a k).fa = true ↔ ∃ i, m ≤ i ∧ i < p.length ∧ kid p i a k ∧ ((L_ l i).f0 = 3 ∨ ((I_ p i).f3 = true ∧ (s.it i).sp = true))
 cl : ∀ a k, (s.bo a k).cl = true ↔ ∀ i, m ≤ i → i < p.length → kid p i a k → (s.it i).cl = true
 wh : ∀ a k, (s.bo a k).wh = true ↔ ∀ i, m ≤ i → i < p.length → kid p i a k → ((s.it i).dn = true ∨ ((s.it i).sp = true ∧ (I_ p i).f3 = false))
 tc : ∀ a, (a < m ∨ (I_ p a).f2 = true) → ((s.it a).tc = true ↔ ∃ i, m ≤ i ∧ i < p.length ∧ i ≠ 0 ∧ (I_ p i).f5.toNat = a ∧ (s.it i).tc = true)
 step : ∀ i, m ≤ i → i < p.length → (I_ p i).f2 = false → s.it i = stepS (L_ l i)
 saga : ∀ i, m ≤ i → i < p.length → (I_ p i).f2 = true → s.it i = sagaS (I_ p i).f4.toNat (s.bo i) (flLow (s.it i).tc)
 low : ∀ a, a < m → s.it a = flLow (s.it a).tc
def InP (p : List S37) : Prop := ∀ i, i < p.length → i ≠ 0 → (I_ p i).f5.toNat < i ∧ (I_ p (I_ p i).f5.toNat).f2 = true
theorem down_start (p : List S37) (l : List S59) : DownAt p l p.length stA where
 fa := fun a k => ⟨fun h => (by cases h), fun ⟨i, h1, h2, _⟩ => by omega⟩
 cl := fun a k => ⟨fun _ i h1 h2 => by omega, fun _ => rfl⟩
 wh := fun a k => ⟨fun _ i h1 h2 => by omega, fun _ => rfl⟩
 tc := fun a _ => ⟨fun h => (by cases h), fun ⟨i, h1, h2, _⟩ => by omega⟩
 step := fun i h1 h2 => by omega
 saga := fun i h1 h2 => by omega
 low := fun a _ => rfl
def ownF (p : List S37) (l : List S59) (s : St) (m : Nat) : Fl := if (I_ p m).f2 then sagaS (I_ p m).f4.toNat (s.bo m) (s.it m) else stepS (L_ l m)
theorem turn_own (p : List S37) (l : List S59) (s : St) (m : Nat) : turnS p l s m = if m = 0 then s.setIt m (ownF p l s m) else handS (I_ p m).f3 (L_ l m).f0 (ownF p l s m) (s.setIt m (ownF p l s m)) (I_ p m).f5.toNat (I_ p m).f6.toNat := by
 have e : ∀ f : Fl, (s.setIt m f).it m = f := fun f => by unfold St.setIt; exact if_pos rfl
 unfold turnS ownF
 by_cases h : (rd_T37 p (m : Int)).f2 = true
 ·rw [if_pos h, if_pos h]; simp only [e]
 ·rw [if_neg h, if_neg h]; simp only [e]
theorem own_tc {p : List S37} {l : List S59} {s : St} {m : Nat} (h : (I_ p m).f2 = true) : (ownF p l s m).tc = (s.it m).tc := by
 unfold ownF
 rw [if_pos h, sagaS_tc]
theorem own_saga {p : List S37} {l : List S59} {s : St} {m : Nat} (h : (I_ p m).f2 = true) (hl : s.it m = flLow (s.it m).tc) : ownF p l s m = sagaS (I_ p m).f4.toNat (s.bo m) (flLow (s.it m).tc) := by
 unfold ownF
 rw [if_pos h, ← hl]
theorem own_step {p : List S37} {l : List S59} {s : St} {m : Nat} (h : (I_ p m).f2 = false) : ownF p l s m = stepS (L_ l m) := by
 unfold ownF
 rw [if_neg (by simp [h])]
theorem down_last {p : List S37} {l : List S59} {s : St} (h : DownAt p l 1 s) (hn : 0 < p.length) : DownAt p l 0 (turnS p l s 0) := by
 rw [turn_own, if_pos rfl]
 have e0 : ∀ f : Fl, (s.setIt 0 f).it 0 = f := fun f => by unfold St.setIt; simp
 have e1 : ∀ (f : Fl) (i : Nat), i ≠ 0 → (s.setIt 0 f).it i = s.it i := fun f i hi => by unfold St.setIt; exact if_neg hi
 have eb : ∀ (f : Fl), (s.setIt 0 f).bo = s.bo := fun f => rfl
 have hl := h.low 0 (by omega)
 constructor
 ·intro a k
  rw [eb, h.fa a k]
  constructor
  ·rintro ⟨i, h1, h2, h3, h4⟩
   exact ⟨i, by omega, h2, h3, by rw [e1 _ _ h3.1]; exact h4⟩
  ·rintro ⟨i, h1, h2, h3, h4⟩
   have := h3.1
   exact ⟨i, by omega, h2, h3, by rw [e1 _ _ h3.1] at h4; exact h4⟩
 ·intro a k
  rw [eb, h.cl a k]
  constructor
  ·intro g i h1 h2 h3
   have := h3.1
   rw [e1 _ _ h3.1]
   exact g i (by omega) h2 h3
  ·intro g i h1 h2 h3
   have := g i (by omega) h2 h3
   rwa [e1 _ _ h3.1] at this
 ·intro a k
  rw [eb, h.wh a k]
  constructor
  ·intro g i h1 h2 h3
   have := h3.1
   rw [e1 _ _ h3.1]
   exact g i (by omega) h2 h3
  ·intro g i h1 h2 h3
   have := g i (by omega) h2 h3
   rwa [e1 _ _ h3.1] at this
 ·intro a ha
  have ha2 : (I_ p a).f2 = true := by
   rcases ha with ha | ha
   ·omega
   ·exact ha
  have e : ((s.setIt 0 (ownF p l s 0)).it a).tc = (s.it a).tc := by
   by_cases hz : a = 0
   ·subst hz; rw [e0, own_tc ha2]
   ·rw [e1 _ _ hz]
  rw [e, h.tc a (.inr ha2)]
  constructor
  ·rintro ⟨i, h1, h2, h3, h4, h5⟩
   exact ⟨i, by omega, h2, h3, h4, by rw [e1 _ _ h3]; exact h5⟩
  ·rintro ⟨i, h1, h2, h3, h4, h5⟩
   exact ⟨i, by omega, h2, h3, h4, by rw [e1 _ _ h3] at h5; exact h5⟩
 ·intro i h1 h2 h3
  by_cases hz : i = 0
  ·subst hz; rw [e0, own_step h3]
  ·rw [e1 _ _ hz]; exact h.step i (by omega) h2 h3
 ·intro i h1 h2 h3
  rw [eb]
  by_cases hz : i = 0
  ·subst hz; rw [e0, own_tc h3]; exact own_saga h3 hl
  ·rw [e1 _ _ hz]; exact h.saga i (by omega) h2 h3
 ·intro a ha; omega
theorem down_turn {p : List S37} {l : List S59} {s : St} {m : Nat} (hI : InP p) (h : DownAt p l (m + 1) s) (hm : m < p.length) : DownAt p l m (turnS p l s m) := by
 by_cases hz : m = 0
 ·subst hz; exact down_last h hm
 rw [turn_own, if_neg hz]
 obtain ⟨hin1, hin2⟩ := hI m hm hz
 have hl := h.low m (by omega)
 generalize hF : ownF p l s m = F
 generalize ha0 : (I_ p m).f5.toNat = a0 at hin1 hin2 ⊢
 generalize hk0 : (I_ p m).f6.toNat = k0
 have em : (handS (I_ p m).f3 (L_ l m).f0 F (s.setIt m F) a0 k0).it m = F := by
  unfold handS St.setIt St.setBo
  dsimp only
  rw [if_neg (by omega), if_pos rfl]
 have ei : ∀ i, i ≠ m → i ≠ a0 → (handS (I_ p m).f3 (L_ l m).f0 F (s.setIt m F) a0 k0).it i = s.it i := fun i h1 h2 => by
  unfold handS St.setIt St.setBo
  dsimp only
  rw [if_neg h2, if_neg h1]
 have ea : (handS (I_ p m).f3 (L_ l m).f0 F (s.setIt m F) a0 k0).it a0 = (s.it a0).touch F.tc := by
  unfold handS St.setIt St.setBo
  dsimp only
  rw [if_pos rfl, if_neg (by omega)]
 have eb0 : (handS (I_ p m).f3 (L_ l m).f0 F (s.setIt m F) a0 k0).bo a0 k0 = handB (I_ p m).f3 (L_ l m).f0 F (s.bo a0 k0) := by
  unfold handS St.setIt St.setBo
  dsimp only
  rw [if_pos ⟨rfl, rfl⟩]
 have eb : ∀ a k, ¬ (a = a0 ∧ k = k0) → (handS (I_ p m).f3 (L_ l m).f0 F (s.setIt m F) a0 k0).bo a k = s.bo a k := fun a k hn => by
  unfold handS St.setIt St.setBo
  dsimp only
  rw [if_neg hn]
 generalize hS : handS (I_ p m).f3 (L_ l m).f0 F (s.setIt m F) a0 k0 = s' at em ei ea eb0 eb ⊢
 have hkm : kid p m a0 k0 := ⟨hz, ha0, hk0⟩
 have hkm' : ∀ {a k}, kid p m a k → a = a0 ∧ k = k0 := fun hk => ⟨by rw [← hk.2.1, ha0], by rw [← hk.2.2, hk0]⟩
 have eg : ∀ i, m < i → s'.it i = s.it i := fun i hi => ei i (by omega) (by omega)
 constructor
 ·intro a k
  by_cases hak : a = a0 ∧ k = k0
  ·obtain ⟨rfl, rfl⟩ := hak
   rw [eb0]
   unfold handB
   simp only [Bool.or_eq_true, Bool.and_eq_true, beq_iff_eq]
   rw [h.fa a k]
   constructor
   ·rintro (⟨i, h1, h2, h3, h4⟩ | h4)
    ·exact ⟨i, by omega, h2, h3, by rw [eg i (by omega)]; exact h4⟩
    ·exact ⟨m, Nat.le_refl _, hm, hkm, by rw [em]; exact h4⟩
   ·rintro ⟨i, h1, h2, h3, h4⟩
    by_cases him : i = m
    ·subst him
     rw [em] at h4
     exact .inr h4
    ·exact .inl ⟨i, by omega, h2, h3, by rw [eg i (by omega)] at h4; exact h4⟩
  ·rw [eb a k hak, h.fa a k]
   constructor
   ·rintro ⟨i, h1, h2, h3, h4⟩
    exact ⟨i, by omega, h2, h3, by rw [eg i (by omega)]; exact h4⟩
   ·rintro ⟨i, h1, h2, h3, h4⟩
    by_cases him : i = m
    ·subst him; exact absurd (hkm' h3) hak
    ·exact ⟨i, by omega, h2, h3, by rw [eg i (by omega)] at h4; exact h4⟩
 ·intro a k
  by_cases hak : a = a0 ∧ k = k0
  ·obtain ⟨rfl, rfl⟩ := hak
   rw [eb0]
   unfold handB
   simp only [Bool.and_eq_true]
   rw [h.cl a k]
   constructor
   ·rintro ⟨g1, g2⟩ i h1 h2 h3
    by_cases him : i = m
    ·subst him; rw [em]; exact g2
    ·rw [eg i (by omega)]; exact g1 i (by omega) h2 h3
   ·intro g
    refine ⟨fun i h1 h2 h3 => ?_, ?_⟩
    ·have := g i (by omega) h2 h3
     rwa [eg i (by omega)] at this
    ·have := g m (Nat.le_refl _) hm hkm
     rwa [em] at this
  ·rw [eb a k hak, h.cl a k]
   constructor
   ·intro g i h1 h2 h3
    by_cases him : i = m
    ·subst him; exact absurd (hkm' h3) hak
    ·rw [eg i (by omega)]; exact g i (by omega) h2 h3
   ·intro g i h1 h2 h3
    have := g i (by omega) h2 h3
    rwa [eg i (by omega)] at this
 ·intro a k
  by_cases hak : a = a0 ∧ k = k0
  ·obtain ⟨rfl, rfl⟩ := hak
   rw [eb0]
   unfold handB
   simp only [Bool.and_eq_true, Bool.or_eq_true, Bool.not_eq_true']
   rw [h.wh a k]
   constructor
   ·rintro ⟨g1, g2⟩ i h1 h2 h3
    by_cases him : i = m
    ·subst him; rw [em]; exact g2
    ·rw [eg i (by omega)]; exact g1 i (by omega) h2 h3
   ·intro g
    refine ⟨fun i h1 h2 h3 => ?_, ?_⟩
    ·have := g i (by omega) h2 h3
     rwa [eg i (by omega)] at this
    ·have := g m (Nat.le_refl _) hm hkm
     rwa [em] at this
  ·rw [eb a k hak, h.wh a k]
   constructor
   ·intro g i h1 h2 h3
    by_cases him : i = m
    ·subst him; exact absurd (hkm' h3) hak
    ·rw [eg i (by omega)]; exact g i (by omega) h2 h3
   ·intro g i h1 h2 h3
    have := g i (by omega) h2 h3
    rwa [eg i (by omega)] at this
 ·intro a ha
  have ht := h.tc a (by rcases ha with ha | ha; exact .inl (by omega); exact .inr ha)
  by_cases haa : a = a0
  ·subst haa
   rw [ea]
   unfold Fl.touch
   simp only [Bool.or_eq_true]
   rw [ht]
   constructor
   ·rintro (⟨i, h1, h2, h3, h4, h5⟩ | h5)
    ·exact ⟨i, by omega, h2, h3, h4, by rw [eg i (by omega)]; exact h5⟩
    ·exact ⟨m, Nat.le_refl _, hm, hz, ha0, by rw [em]; exact h5⟩
   ·rintro ⟨i, h1, h2, h3, h4, h5⟩
    by_cases him : i = m
    ·subst him; rw [em] at h5; exact .inr h5
    ·exact .inl ⟨i, by omega, h2, h3, h4, by rw [eg i (by omega)] at h5; exact h5⟩
  ·have e : (s'.it a).tc = (s.it a).tc := by
    by_cases ham : a = m
    ·subst ham
     have ha2 : (I_ p a).f2 = true := by
      rcases ha with ha | ha
      ·omega
      ·exact ha
     rw [em, ← hF, own_tc ha2]
    ·rw [ei a ham haa]
   rw [e, ht]
   constructor
   ·rintro ⟨i, h1, h2, h3, h4, h5⟩
    exact ⟨i, by omega, h2, h3, h4, by rw [eg i (by omega)]; exact h5⟩
   ·rintro ⟨i, h1, h2, h3, h4, h5⟩
    by_cases him : i = m
    ·subst him; exact absurd (h4.symm.trans ha0) haa
    ·exact ⟨i, by omega, h2, h3, h4, by rw [eg i (by omega)] at h5; exact h5⟩
 ·intro i h1 h2 h3
  by_cases him : i = m
  ·subst him; rw [em, ← hF, own_step h3]
  ·rw [eg i (by omega)]; exact h.step i (by omega) h2 h3
 ·intro i h1 h2 h3
  have ebi : s'.bo i = s.bo i := by
   funext k
   exact eb i k (by omega)
  rw [ebi]
  by_cases him : i = m
  ·subst him
   have e : F.tc = (s.it i).tc := by rw [← hF, own_tc h3]
   rw [em, e, ← hF]; exact own_saga h3 hl
  ·rw [eg i (by omega)]; exact h.saga i (by omega) h2 h3
 ·intro a ha
  by_cases haa : a = a0
  ·subst haa
   rw [ea]
   have := h.low a (by omega)
   rw [this]
   rfl
  ·rw [ei a (by omega) haa]; exact h.low a (by omega)
theorem down_all {p : List S37} {l : List S59} (hI : InP p) : ∀ (m : Nat) (s : St), m ≤ p.length → DownAt p l m s → DownAt p l 0 (downS p l m s)
 | 0, s, _, h => h
 | m + 1, s, hm, h => by
  unfold downS
  exact down_all hI m _ (by omega) (down_turn hI h (by omega))
def Fl.noHa (f : Fl) : Fl := ⟨f.cl, f.tc, f.dn, f.sp, false, f.at_⟩
theorem up_all (p : List S37) (s0 : St) (hI : InP p) : ∀ (d i : Nat) (s : St), i + d = p.length → s.bo = s0.bo → (∀ j, Fl.noHa (s.it j) = Fl.noHa (s0.it j)) → (∀ j, 0 < j → j < i → (s.it j).ha = ((s.bo (I_ p j).f5.toNat (I_ p j).f6.toNat).fa || (s.it (I_ p j).f5.toNat).ha)) → (s.it 0).ha = (s0.it 0).ha →
  (upS p i d s).bo = s0.bo ∧ (∀ j, Fl.noHa ((upS p i d s).it j) = Fl.noHa (s0.it j)) ∧ (∀ j, 0 < j → j < p.length → ((upS p i d s).it j).ha = (((upS p i d s).bo (I_ p j).f5.toNat (I_ p j).f6.toNat).fa || ((upS p i d s).it (I_ p j).f5.toNat).ha)) ∧ ((upS p i d s).it 0).ha = (s0.it 0).ha
 | 0, i, s, hi, h1, h2, h3, h4 => by
  unfold upS
  exact ⟨h1, h2, fun j a b => h3 j a (by omega), h4⟩
 | d + 1, i, s, hi, h1, h2, h3, h4 => by
  unfold upS
  by_cases hz : i = 0
  ·subst hz
   have e : haltS p s 0 = s := by unfold haltS; exact if_pos rfl
   rw [e]
   exact up_all p s0 hI d 1 s (by omega) h1 h2 (fun j a b => by omega) h4
  ·have e : haltS p s i = s.setIt i (haltF p s i) := by unfold haltS; exact if_neg hz
   rw [e]
   have eii : (s.setIt i (haltF p s i)).it i = haltF p s i := by unfold St.setIt; exact if_pos rfl
   have eij : ∀ j, j ≠ i → (s.setIt i (haltF p s i)).it j = s.it j := fun j hj => by unfold St.setIt; exact if_neg hj
   have eb : (s.setIt i (haltF p s i)).bo = s.bo := rfl
   obtain ⟨hin, -⟩ := hI i (by omega) hz
   refine up_all p s0 hI d (i + 1) _ (by omega) (by rw [eb]; exact h1) (fun j => ?_) (fun j a b => ?_) ?_
   ·by_cases hj : j = i
    ·subst hj
     rw [eii, ← h2 j]
     rfl
    ·rw [eij j hj]; exact h2 j
   ·by_cases hj : j = i
    ·subst hj
     rw [eii, eb, eij _ (by omega)]
     rfl
    ·obtain ⟨hin2, -⟩ := hI j (by omega) (by omega)
     rw [eij j hj, eb, eij _ (by omega)]
     exact h3 j a (by omega)
   ·rw [eij 0 (fun h => hz h.symm)]; exact h4
structure MadeAt (p : List S37) (l : List S59) (s : St) : Prop where
 fa : ∀ a k, (s.bo a k).fa = true ↔ ∃ i, i < p.length ∧ kid p i a k ∧ ((L_ l i).f0 = 3 ∨ ((I_ p i).f3 = true ∧ (s.it i).sp = true))
 cl : ∀ a k, (s.bo a k).cl = true ↔ ∀ i, i < p.length → kid p i a k → (s.it i).cl = true
 wh : ∀ a k, (s.bo a k).wh = true ↔ ∀ i, i < p.length → kid p i a k → ((s.it i).dn = true ∨ ((s.it i).sp = true ∧ (I_ p i).f3 = false))
 tc : ∀ a, (I_ p a).f2 = true → ((s.it a).tc = true ↔ ∃ i, i < p.length ∧ i ≠ 0 ∧ (I_ p i).f5.toNat = a ∧ (s.it i).tc = true)
 step : ∀ i, i < p.length → (I_ p i).f2 = false → Fl.noHa (s.it i) = stepS (L_ l i)
 saga : ∀ i, i < p.length → (I_ p i).f2 = true → Fl.noHa (s.it i) = sagaS (I_ p i).f4.toNat (s.bo i) (flLow (s.it i).tc)
 ha0 : (s.it 0).ha = false
 ha : ∀ j, 0 < j → j < p.length → (s.it j).ha = ((s.bo (I_ p j).f5.toNat (I_ p j).f6.toNat).fa || (s.it (I_ p j).f5.toNat).ha)
theorem own_ha {p : List S37} {l : List S59} {s : St} (h : DownAt p l 0 s) {i : Nat} (hi : i < p.length) : (s.it i).ha = false := by
 cases hs : (I_ p i).f2
 ·rw [h.step i (by omega) hi hs]; rfl
 ·rw [h.saga i (by omega) hi hs, sagaS_ha]; rfl
theorem made_all {p : List S37} {l : List S59} (hn : 0 < p.length) (hI : InP p) : MadeAt p l (madeS p l) := by
 have h0 := down_all hI p.length stA (Nat.le_refl _) (down_start p l)
 unfold madeS
 generalize downS p l p.length stA = s0 at h0
 obtain ⟨h1, h2, h3, h4⟩ := up_all p s0 hI p.length 0 s0 (by omega) rfl (fun _ => rfl) (fun j a b => by omega) rfl
 generalize upS p 0 p.length s0 = s at h1 h2 h3 h4 ⊢
 have ecl : ∀ j, (s.it j).cl = (s0.it j).cl := fun j => (show (Fl.noHa (s.it j)).cl = (Fl.noHa (s0.it j)).cl by rw [h2 j])
 have etc : ∀ j, (s.it j).tc = (s0.it j).tc := fun j => (show (Fl.noHa (s.it j)).tc = (Fl.noHa (s0.it j)).tc by rw [h2 j])
 have edn : ∀ j, (s.it j).dn = (s0.it j).dn := fun j => (show (Fl.noHa (s.it j)).dn = (Fl.noHa (s0.it j)).dn by rw [h2 j])
 have esp : ∀ j, (s.it j).sp = (s0.it j).sp := fun j => (show (Fl.noHa (s.it j)).sp = (Fl.noHa (s0.it j)).sp by rw [h2 j])
 have hno : ∀ i, i < p.length → Fl.noHa (s0.it i) = s0.it i := fun i hi => by
  have := own_ha h0 hi
  unfold Fl.noHa
  rw [← this]
 constructor
 ·intro a k
  rw [h1, h0.fa a k]
  simp only [esp, Nat.zero_le, true_and]
 ·intro a k
  rw [h1, h0.cl a k]
  simp only [ecl, Nat.zero_le, true_implies]
 ·intro a k
  rw [h1, h0.wh a k]
  simp only [edn, esp, Nat.zero_le, true_implies]
 ·intro a ha
  rw [etc, h0.tc a (.inr ha)]
  simp only [etc, Nat.zero_le, true_and]
 ·intro i hi hs
  rw [h2, hno i hi]; exact h0.step i (by omega) hi hs
 ·intro i hi hs
  rw [h2, hno i hi, h1, etc]; exact h0.saga i (by omega) hi hs
 ·rw [h4]; exact own_ha h0 hn
 ·exact h3
end Go.Proofs.Ytihpndignekheaa.Pure
end

section
namespace Go.Proofs.Ytihpndignekheaa.Pure
set_option linter.unusedVariables false
open Go.RowKit Go.Proofs.Ytihpndignekheaa.F Go.Proofs.YtihpndignekheaaW.PrintWords Go.Proofs.YtihpndignekheaaW.PrintLast
theorem small_ev (l : List S37) (d : Nat) : ∀ i : Nat, i + d = 70 → ∃ b, Ev (fun k => argosylaw14_small.l0 k (i : Int) l) b ∧ (b = true → l.length ≤ 70 ∧ ∀ j (h : j < l.length), i ≤ j → l[j].f7.length ≤ 100) := by
 induction d with
 | zero =>
  intro i hi
  refine ⟨decide ((l.length : Int) ≤ 70), ⟨2, fun k hk => ?_⟩, fun h => ?_⟩
  ·obtain ⟨k, rfl⟩ : ∃ m, k = m + 2 := ⟨k - 2, by omega⟩
   simp only [argosylaw14_small.l0, argosylaw14_small.j1]
   rw [decide_eq_false (by omega : ¬ (i : Int) < 70)]
   simp
  ·have := of_decide_eq_true h
   exact ⟨by omega, fun j h1 h2 => by omega⟩
 | succ d ih =>
  intro i hi
  by_cases hl : i < l.length
  ·obtain ⟨b, ⟨K, hK⟩, hb⟩ := ih (i + 1) (by omega)
   have hrd : rd_T37 l (i : Int) = l[i] := by unfold rd_T37; rw [Int.toNat_natCast, List.getD_eq_getElem?_getD, List.getElem?_eq_getElem hl]; rfl
   by_cases h1 : ((l[i].f0).size : Int) > 200 ∨ ((l[i].f1).size : Int) > 200 ∨ ((l[i].f7).length : Int) > 100
   ·refine ⟨false, ⟨2, fun k hk => ?_⟩, fun h => by cases h⟩
    obtain ⟨k, rfl⟩ : ∃ m, k = m + 2 := ⟨k - 2, by omega⟩
    simp only [argosylaw14_small.l0, argosylaw14_small.j1]
    rw [if_pos (by omega), decide_eq_true (by omega : (i : Int) < 70), if_pos rfl, if_pos (by omega), if_pos (by omega), hrd]
    by_cases h2 : ((l[i].f0).size : Int) > 200
    ·rw [if_pos h2]
    ·rw [if_neg h2]
     by_cases h3 : ((l[i].f1).size : Int) > 200
     ·rw [if_pos h3]
     ·rw [if_neg h3, if_pos (by omega)]
   ·refine ⟨b, ⟨K + 2, fun k hk => ?_⟩, fun h => ⟨(hb h).1, fun j h2 h3 => ?_⟩⟩
    ·obtain ⟨k, rfl⟩ : ∃ m, k = m + 2 := ⟨k - 2, by omega⟩
     simp only [argosylaw14_small.l0, argosylaw14_small.j1]
     rw [if_pos (by omega), decide_eq_true (by omega : (i : Int) < 70), if_pos rfl, if_pos (by omega), if_pos (by omega), hrd, if_neg (by omega), if_neg (by omega), if_neg (by omega), show wrap64 ((i : Int) + 1) = ((i + 1 : Nat) : Int) by unfold wrap64; omega]
     exact hK k (by omega)
    ·by_cases hj : j = i
     ·subst hj; omega
     ·exact (hb h).2 j h2 (by omega)
  ·refine ⟨decide ((l.length : Int) ≤ 70), ⟨2, fun k hk => ?_⟩, fun h => ?_⟩
   ·obtain ⟨k, rfl⟩ : ∃ m, k = m + 2 := ⟨k - 2, by omega⟩
    simp only [argosylaw14_small.l0, argosylaw14_small.j1]
    rw [if_neg (by omega)]
    simp
   ·have := of_decide_eq_true h
    exact ⟨by omega, fun j h1 h2 => by omega⟩
theorem small_plan {p : List S37} (hl : p.length ≤ 70 ∧ ∀ j (h : j < p.length), 0 ≤ j → p[j].f7.length ≤ 100) : smallP p = true := by
 unfold smallP
 rw [List.all_eq_true]
 intro y hy
 obtain ⟨j, hj, rfl⟩ := List.getElem_of_mem hy
 have := hl.2 j hj (by omega)
 simp only [decide_eq_true_eq]
 omega
theorem small_f (p : List S37) : ∃ b K, (∀ k, K ≤ k → argosylaw14_small.f k p = some b) ∧ (b = true → smallP p = true ∧ p.length ≤ 70) := by
 obtain ⟨b, ⟨K, hK⟩, hb⟩ := small_ev p 70 0 (by omega)
 exact ⟨b, K, fun k hk => hK k hk, fun h => ⟨small_plan (hb h), (hb h).1⟩⟩
theorem lives_ev (k : Nat) (hk : 80 ≤ k) : argosylaw14_lives.f k = some true := by
 obtain ⟨m, rfl⟩ : ∃ m, k = 80 + m := ⟨k - 80, by omega⟩
 exact argosylaw14_lives.up_ m 80 true argosylaw14_lives.at_
theorem small_ok {p : List S37} (hp : smallP p = true) {l : List S59} (hl : l.length ≤ 100) : okArgs p l = true := by
 unfold okArgs
 rw [hp, decide_eq_true (by omega : l.length ≤ 1000000)]
 rfl
section
variable {p : List S37} {l : List S59}
theorem right_in (h : rightB p = true) : InP p := fun i hi h0 => by
 obtain ⟨a, k, h1, h2, h3, h4, h5⟩ := item_in h i hi h0
 have e : (I_ p i).f5 = a := h1
 rw [e, Int.toNat_natCast]
 exact ⟨h3, h5⟩
theorem facts_made (h : factsB p l = true) : MadeAt p l (madeS p l) ∧ rightB p = true ∧ l.length = p.length ∧ 0 < p.length ∧ p.length ≤ 64 := by
 obtain ⟨h1, h2, h3⟩ := (facts_iff p l).1 h
 obtain ⟨h4, -⟩ := right_saga h2
 exact ⟨made_all (shape_few h4).1 (right_in h2), h2, h1, shape_few h4⟩
theorem facts_fine (h : factsB p l = true) (i : Nat) (hi : i < p.length) : fineB (L_ l i) = true ∧ ((I_ p i).f2 = true → L_ l i = ⟨0, 0, 0, false⟩) := by
 obtain ⟨h1, h2, h3⟩ := (facts_iff p l).1 h
 have h4 := h3 i (by omega)
 unfold factOk at h4
 rw [Bool.and_eq_true, Bool.or_eq_true] at h4
 refine ⟨h4.1, fun hs => ?_⟩
 have hs' : (rd_T37 p (i : Int)).f2 = true := hs
 rw [hs'] at h4
 rcases h4.2 with h5 | h5
 ·cases h5
 ·have h6 : zeroB (L_ l i) = true := h5
  generalize L_ l i = x at h6
  obtain ⟨a, b, c, d⟩ := x
  unfold zeroB at h6
  simp at h6
  obtain ⟨rfl, rfl, rfl, rfl⟩ := h6
  rfl
structure Stands (p : List S37) (i a k : Nat) : Prop where
 in_ : (I_ p i).f5 = a
 alt : (I_ p i).f6 = k
 lt : a < i
 few : (k : Int) < (I_ p a).f4
 sub : (I_ p a).f2 = true
theorem stands (h : rightB p = true) (i : Nat) (hi : i < p.length) (h0 : i ≠ 0) : ∃ a k, Stands p i a k ∧ kid p i a k := by
 obtain ⟨a, k, h1, h2, h3, h4, h5⟩ := item_in h i hi h0
 have e1 : (I_ p i).f5 = a := h1
 have e2 : (I_ p i).f6 = k := h2
 exact ⟨a, k, ⟨h1, h2, h3, h4, h5⟩, h0, by rw [e1, Int.toNat_natCast], by rw [e2, Int.toNat_natCast]⟩
theorem kid_stands (h : rightB p = true) {i a k : Nat} (hi : i < p.length) (hk : kid p i a k) : Stands p i a k := by
 obtain ⟨a', k', h1, h2⟩ := stands h i hi hk.1
 have ea : a' = a := h2.2.1.symm.trans hk.2.1
 have ek : k' = k := h2.2.2.symm.trans hk.2.2
 rw [← ea, ← ek]; exact h1
theorem alts_nat (h : rightB p = true) (i : Nat) (hi : i < p.length) : ((I_ p i).f4.toNat : Int) = (I_ p i).f4 ∧ (I_ p i).f4.toNat ≤ 4 := by
 obtain ⟨n, h1, h2⟩ := item_alts h i hi
 have e : (I_ p i).f4 = n := h1
 rw [e, Int.toNat_natCast]
 exact ⟨rfl, h2⟩
variable {s : St} (M : MadeAt p l s)
include M
theorem MadeAt.stepF {i : Nat} (hi : i < p.length) (hs : (I_ p i).f2 = false) : (s.it i).cl = ((L_ l i).f0 == 0 || ((L_ l i).f0 == 3 || (L_ l i).f3)) ∧ (s.it i).tc = ((L_ l i).f0 != 0) ∧ (s.it i).dn = ((L_ l i).f0 == 2 && (L_ l i).f1 == 0) ∧ (s.it i).sp = false := by
 have h := M.step i hi hs
 exact ⟨(congrArg Fl.cl h : (Fl.noHa (s.it i)).cl = _), (congrArg Fl.tc h : (Fl.noHa (s.it i)).tc = _), (congrArg Fl.dn h : (Fl.noHa (s.it i)).dn = _), (congrArg Fl.sp h : (Fl.noHa (s.it i)).sp = _)⟩
theorem MadeAt.sagaF {i : Nat} (hi : i < p.length) (hs : (I_ p i).f2 = true) :
  ((s.it i).sp = true ∧ (s.it i).at_ = ((I_ p i).f4.toNat : Int) - 1 ∧ (s.it i).dn = false ∧ (s.it i).cl = true ∧ ∀ k, k < (I_ p i).f4.toNat → (s.bo i k).fa = true ∧ (s.bo i k).cl = true) ∨
  ((s.it i).sp = false ∧ ∃ j : Nat, (s.it i).at_ = j ∧ j < (I_ p i).f4.toNat ∧ ((s.bo i j).fa = false ∨ (s.bo i j).cl = false) ∧ (s.it i).dn = (s.bo i j).wh ∧ ∀ k, k < j → (s.bo i k).fa = true ∧ (s.bo i k).cl = true) := by
 have h := M.saga i hi hs
 have e1 : (s.it i).sp = _ := (congrArg Fl.sp h : (Fl.noHa (s.it i)).sp = _)
 have e2 : (s.it i).at_ = _ := (congrArg Fl.at_ h : (Fl.noHa (s.it i)).at_ = _)
 have e3 : (s.it i).dn = _ := (congrArg Fl.dn h : (Fl.noHa (s.it i)).dn = _)
 have e4 : (s.it i).cl = _ := (congrArg Fl.cl h : (Fl.noHa (s.it i)).cl = _)
 rw [e1, e2, e3, e4]
 exact sagaS_sp _ _ _
theorem MadeAt.sagaCl {i : Nat} (hi : i < p.length) (hs : (I_ p i).f2 = true) : (s.it i).cl = true ↔ ∀ k, k < (I_ p i).f4.toNat → (s.bo i k).cl = true := by
 have h := M.saga i hi hs
 have e4 : (s.it i).cl = _ := (congrArg Fl.cl h : (Fl.noHa (s.it i)).cl = _)
 rw [e4]
 exact sagaS_cl _ _ _
theorem MadeAt.kidTc (h : rightB p = true) {j a k : Nat} (hj : j < p.length) (hk : kid p j a k) (ht : (s.it j).tc = true) : (s.it a).tc = true :=
 (M.tc a (kid_stands h hj hk).sub).2 ⟨j, hj, hk.1, hk.2.1, ht⟩
theorem MadeAt.idle_clean (h : rightB p = true) : ∀ (d i : Nat), p.length ≤ i + d → i < p.length → (s.it i).tc = false → (s.it i).cl = true
 | 0, i, hd, hi, _ => by omega
 | d + 1, i, hd, hi, ht => by
  cases hs : (I_ p i).f2
  ·obtain ⟨e1, e2, -⟩ := M.stepF hi hs
   rw [e2] at ht
   have : (L_ l i).f0 = 0 := by simpa using ht
   rw [e1, this]; rfl
  ·rw [M.sagaCl hi hs]
   intro k hk
   rw [M.cl]
   intro j hj hkid
   have hst := kid_stands h hj hkid
   refine MadeAt.idle_clean h d j (by have := hst.lt; omega) hj ?_
   cases hjt : (s.it j).tc
   ·rfl
   ·rw [M.kidTc h hj hkid hjt] at ht; cases ht
theorem MadeAt.kidCl (h : rightB p = true) {j a k : Nat} (hj : j < p.length) (hk : kid p j a k) (ha : (s.it a).cl = true) : (s.it j).cl = true := by
 have hst := kid_stands h hj hk
 have hf := alts_nat h a (by have := hst.lt; omega)
 have h1 := (M.sagaCl (by have := hst.lt; omega) hst.sub).1 ha k (by have := hst.few; omega)
 exact (M.cl a k).1 h1 j hj hk
end
theorem stand_cases (f : S59) : (standF f = 0 ∧ f.f0 = 0) ∨ (standF f = 1 ∧ f.f0 = 1) ∨ (standF f = 3 ∧ f.f0 = 3) ∨ (standF f = 2 ∧ f.f0 ≠ 0 ∧ f.f0 ≠ 1 ∧ f.f0 ≠ 3 ∧ f.f1 = 0) ∨ (standF f = 5 ∧ f.f0 ≠ 0 ∧ f.f0 ≠ 1 ∧ f.f0 ≠ 3 ∧ f.f1 ≠ 0 ∧ f.f3 = true) ∨ (standF f = 4 ∧ f.f0 ≠ 0 ∧ f.f0 ≠ 1 ∧ f.f0 ≠ 3 ∧ f.f1 ≠ 0 ∧ f.f3 = false) := by
 unfold standF
 by_cases h0 : f.f0 = 0
 ·exact .inl ⟨by rw [if_pos h0], h0⟩
 rw [if_neg h0]
 by_cases h1 : f.f0 = 1
 ·exact .inr (.inl ⟨by rw [if_pos h1], h1⟩)
 rw [if_neg h1]
 by_cases h3 : f.f0 = 3
 ·exact .inr (.inr (.inl ⟨by rw [if_pos h3], h3⟩))
 rw [if_neg h3]
 by_cases h4 : f.f1 = 0
 ·exact .inr (.inr (.inr (.inl ⟨by rw [if_pos h4], h0, h1, h3, h4⟩)))
 rw [if_neg h4]
 cases h5 : f.f3
 ·exact .inr (.inr (.inr (.inr (.inr ⟨rfl, h0, h1, h3, h4, rfl⟩))))
 ·exact .inr (.inr (.inr (.inr (.inl ⟨rfl, h0, h1, h3, h4, rfl⟩))))
theorem flags_cases (f : Fl) : (flagsF f = 0 ∧ f.tc = false) ∨ (flagsF f = 2 ∧ f.tc = true ∧ f.dn = true) ∨ (flagsF f = 3 ∧ f.tc = true ∧ f.dn = false ∧ f.sp = true) ∨ (flagsF f = 1 ∧ f.tc = true ∧ f.dn = false ∧ f.sp = false ∧ f.ha = false) ∨ (flagsF f = 5 ∧ f.tc = true ∧ f.dn = false ∧ f.sp = false ∧ f.ha = true ∧ f.cl = true) ∨ (flagsF f = 4 ∧ f.tc = true ∧ f.dn = false ∧ f.sp = false ∧ f.ha = true ∧ f.cl = false) := by
 obtain ⟨cl, tc, dn, sp, ha, at_⟩ := f
 unfold flagsF
 cases tc <;> cases dn <;> cases sp <;> cases ha <;> cases cl <;> simp
theorem status_step {p : List S37} {l : List S59} {s : St} {i : Nat} (hs : (I_ p i).f2 = false) : statusB p l s i = standF (L_ l i) := by
 unfold statusB
 have h : (rd_T37 p (i : Int)).f2 = false := hs
 rw [h]; rfl
theorem status_saga {p : List S37} {l : List S59} {s : St} {i : Nat} (hs : (I_ p i).f2 = true) : statusB p l s i = flagsF (s.it i) := by
 unfold statusB
 have h : (rd_T37 p (i : Int)).f2 = true := hs
 rw [h]; rfl
theorem allB_len (p : List S37) (l : List S59) (s : St) : (allB p l s).length = p.length := by unfold allB; simp
theorem allB_rd (p : List S37) (l : List S59) (s : St) {i : Nat} (hi : i < p.length) : rd (allB p l s) (i : Int) = statusB p l s i := by
 unfold rd allB
 rw [Int.toNat_natCast, List.getD_eq_getElem?_getD, List.getElem?_map, List.getElem?_range' (by omega)]
 simp
theorem cleanB_at (p : List S37) (s : St) {i : Nat} (hi : i < p.length) : cleanB p s (i : Int) = (s.it i).cl := by
 unfold cleanB
 rw [decide_eq_true (by omega : (0 : Int) ≤ i), decide_eq_true (by omega : (i : Int) < p.length), Int.toNat_natCast]
 rfl
theorem subB_at (p : List S37) {i : Nat} (hi : i < p.length) : subB p (i : Int) = (I_ p i).f2 := by
 unfold subB
 rw [decide_eq_true (by omega : (0 : Int) ≤ i), decide_eq_true (by omega : (i : Int) < p.length)]
 rfl
theorem w64_next {i : Nat} (h : i ≤ 1000000) : wrap64 ((i : Int) + 1) = ((i + 1 : Nat) : Int) := by unfold wrap64; omega
section
variable {p : List S37} (hp : smallP p = true) {l : List S59} (hl : l.length ≤ 100)
include hp hl
theorem all_ev : state_All.f p l = some (if factsB p l then (allB p l (madeS p l), 0) else ([], 2)) := by unfold state_All.f; rw [if_pos (small_ok hp hl)]
theorem verdict_ev : state_Verdict.f p l = some (if factsB p l then verdictB p l (madeS p l) else 0) := by unfold state_Verdict.f; rw [if_pos (small_ok hp hl)]
theorem at_ev (i : Int) : state_At.f p l i = some (if factsB p l then atB p (madeS p l) i else 0) := by unfold state_At.f; rw [if_pos (small_ok hp hl)]
theorem clean_ev (i : Int) : state_Clean.f p l i = some (if factsB p l then cleanB p (madeS p l) i else false) := by unfold state_Clean.f; rw [if_pos (small_ok hp hl)]
theorem all_yes (h : factsB p l = true) : state_All.f p l = some (allB p l (madeS p l), 0) := by rw [all_ev hp hl, h]; rfl
theorem all_no (h : factsB p l = false) : state_All.f p l = some ([], 2) := by rw [all_ev hp hl, h]; rfl
theorem verdict_no (h : factsB p l = false) : state_Verdict.f p l = some 0 := by rw [verdict_ev hp hl, h]; rfl
theorem at_yes (h : factsB p l = true) (i : Int) : state_At.f p l i = some (atB p (madeS p l) i) := by rw [at_ev hp hl, h]; rfl
theorem clean_yes (h : factsB p l = true) (i : Int) : state_Clean.f p l i = some (cleanB p (madeS p l) i) := by rw [clean_ev hp hl, h]; rfl
end
end Go.Proofs.Ytihpndignekheaa.Pure
end

section
namespace Go.Proofs.Ytihpndignekheaa.Pure
set_option linter.unusedVariables false
open Go.RowKit Go.Proofs.Ytihpndignekheaa.F Go.Proofs.YtihpndignekheaaW.PrintWords Go.Proofs.YtihpndignekheaaW.PrintLast
theorem one_first {p : List S37} {l : List S59} (h : factsB p l = true) {i : Nat} (hi : i < p.length) (x : Int) (c b : Bool) (hx : statusB p l (madeS p l) i = x) (hc : ((madeS p l).it i).cl = c) (hb : (I_ p i).f2 = b) :
  (x = 3 ∧ c = true) ∨ (x = 0 ∧ c = true) ∨ (x = 5 ∧ c = true) ∨ x = 1 ∨ x = 4 ∨ (x = 2 ∧ b = true) ∨ (x = 2 ∧ b = false ∧ c = false) := by
 obtain ⟨M, hr, hln, hn, h64⟩ := facts_made h
 obtain ⟨hf, -⟩ := facts_fine h i hi
 cases b with
 | false =>
  obtain ⟨e1, -⟩ := M.stepF hi hb
  rw [status_step hb] at hx
  rw [hc] at e1
  generalize L_ l i = f at hf hx e1
  obtain ⟨f0, f1, f2, f3⟩ := f
  rw [fine_iff] at hf
  rcases stand_cases ⟨f0, f1, f2, f3⟩ with ⟨k1, k2⟩ | ⟨k1, k2⟩ | ⟨k1, k2⟩ | ⟨k1, k2, k3, k4, k5⟩ | ⟨k1, k2, k3, k4, k5, k6⟩ | ⟨k1, -⟩
  all_goals dsimp only at *
  ·exact .inr (.inl ⟨by omega, by rw [e1, k2]; rfl⟩)
  ·exact .inr (.inr (.inr (.inl (by omega))))
  ·exact .inl ⟨by omega, by rw [e1, k2]; rfl⟩
  ·refine .inr (.inr (.inr (.inr (.inr (.inr ⟨by omega, rfl, ?_⟩)))))
   have h3 : f3 = false := by
    cases f3
    ·rfl
    ·have := hf.2.2.2.2.2.2 rfl; omega
   rw [e1, h3]
   simp [k2, k4]
  ·exact .inr (.inr (.inl ⟨by omega, by rw [e1, k6]; simp⟩))
  ·exact .inr (.inr (.inr (.inr (.inl (by omega)))))
 | true =>
  rw [status_saga hb] at hx
  rcases flags_cases ((madeS p l).it i) with ⟨k1, k2⟩ | ⟨k1, -⟩ | ⟨k1, k2, k3, k4⟩ | ⟨k1, -⟩ | ⟨k1, k2, k3, k4, k5, k6⟩ | ⟨k1, -⟩
  ·exact .inr (.inl ⟨by omega, by rw [← hc]; exact M.idle_clean hr p.length i (by omega) hi k2⟩)
  ·exact .inr (.inr (.inr (.inr (.inr (.inl ⟨by omega, rfl⟩)))))
  ·rcases M.sagaF hi hb with ⟨-, -, -, q4, -⟩ | ⟨q1, -⟩
   ·exact .inl ⟨by omega, by rw [← hc]; exact q4⟩
   ·rw [q1] at k4; cases k4
  ·exact .inr (.inr (.inr (.inl (by omega))))
  ·exact .inr (.inr (.inl ⟨by omega, by rw [← hc]; exact k6⟩))
  ·exact .inr (.inr (.inr (.inr (.inl (by omega)))))
theorem one_in {p : List S37} {l : List S59} (h : factsB p l = true) {i : Nat} (hi : i < p.length) (h0 : i ≠ 0) : ∃ a : Nat, (rd_T37 p (i : Int)).f5 = a ∧ a < i ∧ (statusB p l (madeS p l) a = 3 → ((madeS p l).it i).cl = true) := by
 obtain ⟨M, hr, hln, hn, h64⟩ := facts_made h
 obtain ⟨a, k, hs, hk⟩ := stands hr i hi h0
 refine ⟨a, hs.in_, hs.lt, fun hx => ?_⟩
 rw [status_saga hs.sub] at hx
 have ha : a < p.length := by have := hs.lt; omega
 refine M.kidCl hr hi hk ?_
 rcases flags_cases ((madeS p l).it a) with ⟨k1, k2⟩ | ⟨k1, -⟩ | ⟨k1, k2, k3, k4⟩ | ⟨k1, -⟩ | ⟨k1, k2, k3, k4, k5, k6⟩ | ⟨k1, -⟩
 ·omega
 ·omega
 ·rcases M.sagaF ha hs.sub with ⟨-, -, -, q4, -⟩ | ⟨q1, -⟩
  ·exact q4
  ·rw [q1] at k4; cases k4
 ·omega
 ·omega
 ·omega
theorem one_at {p : List S37} {l : List S59} (h : factsB p l = true) {i : Nat} (hi : i < p.length) (hb : (rd_T37 p (i : Int)).f2 = true) (hx : statusB p l (madeS p l) i = 3) : atB p (madeS p l) (i : Int) = wrap64 ((rd_T37 p (i : Int)).f4 - 1) := by
 obtain ⟨M, hr, hln, hn, h64⟩ := facts_made h
 have hb' : (I_ p i).f2 = true := hb
 have ea : atB p (madeS p l) (i : Int) = ((madeS p l).it i).at_ := by
  unfold atB
  rw [subB_at p hi, hb', Int.toNat_natCast]; rfl
 obtain ⟨f1, f2⟩ := alts_nat hr i hi
 have f1' : ((I_ p i).f4.toNat : Int) = (rd_T37 p (i : Int)).f4 := f1
 rw [status_saga hb'] at hx
 rcases flags_cases ((madeS p l).it i) with ⟨k1, k2⟩ | ⟨k1, -⟩ | ⟨k1, k2, k3, k4⟩ | ⟨k1, -⟩ | ⟨k1, k2, k3, k4, k5, k6⟩ | ⟨k1, -⟩
 ·omega
 ·omega
 ·rcases M.sagaF hi hb' with ⟨-, q2, -⟩ | ⟨q1, -⟩
  ·rw [ea, q2]
   unfold wrap64
   omega
  ·rw [q1] at k4; cases k4
 ·omega
 ·omega
 ·omega
end Go.Proofs.Ytihpndignekheaa.Pure
end

section
namespace Go.Proofs.Ytihpndignekheaa.F
open Go.RowKit Go.Proofs.YtihpndignekheaaW.PrintWords Go.Proofs.YtihpndignekheaaW.PrintLast Go.Proofs.YtihpndignekheaaW.PrintMore
attribute [local go_sem] max2_int min2_int max_two min_two max_three min_three max_four min_four
set_option linter.unusedVariables false
set_option linter.unusedSimpArgs false
def argosylaw14_StateOne.f (k : Nat) (l0_0 : List S37) (l1 : List S59) : Option Bool := some true
open Go.Proofs.Ytihpndignekheaa.Pure in
set_option maxHeartbeats 8000000 in
set_option maxRecDepth 100000 in
theorem argosylaw14_StateOne.calls (k : Nat) (A0_0 : Option Addr) (c0_0 : Nat) (l0_0 : List S37) (A1 : Option Addr) (c1 : Nat) (l1 : List S59) (r : Bool) (w : World) (hr0_0 : Kd.C k37 w A0_0 l0_0.length l0_0) (hc0_0 : l0_0.length ≤ c0_0) (hr1 : Kd.C k59 w A1 l1.length l1) (hc1 : l1.length ≤ c1) (h : argosylaw14_StateOne.f k l0_0 l1 = some r) :
  Calls Try.prog 3 #[.agg #[.slice A0_0 l0_0.length c0_0], .slice A1 l1.length c1] w fun e w' => e = .returned (.bool r) ∧ Below w.heap.size w w' := by
 obtain rfl := Option.some.inj h
 obtain ⟨b, K, hK, hb⟩ := small_f l0_0
 have HB0 := Aside0.mk (below_alloc (Below.refl w.heap.size w) (.cells #[.slice A0_0 l0_0.length c0_0] 24 (0, 0)))
 have HG0 := Aside0.mk (blk_new w (.cells #[.slice A0_0 l0_0.length c0_0] 24 (0, 0)))
 have HP := Aside0.mk hr0_0
 have HL := Aside0.mk hr1
 have HSM := Aside0.mk (fun (W : World) (hb : Below w.heap.size w W) => argosylaw14_small.calls K A0_0 c0_0 l0_0 b W (Kd.C_below hr0_0 hb) hc0_0 (hK K (Nat.le_refl _)))
 have HLV := Aside0.mk (fun (W : World) => argosylaw14_lives.calls 80 true W (lives_ev 80 (by omega)))
 clear h hK
 cases b with
 | false =>
  clear hr0_0 hc0_0 hr1 hc1 hb HP HL
  go_enter Try.func3, Try.ntmps3
  go_wp2_with (first
   | (go_at_call 7; refine (HSM.out _ HB0.out).mono ?_; rintro e w2 ⟨rfl, hb⟩; have HB2 := Aside0.mk (HB0.out.trans (hb.mono HB0.out.size)); clear hb)
   | (go_at_call 8; refine (HLV.out _).mono ?_; rintro e w3 ⟨rfl, hb⟩; have HB3 := Aside0.mk (HB2.out.trans (hb.mono HB2.out.size)); clear hb))
  go_ret
  exact ⟨rfl, HB3.out⟩
 | true =>
  obtain ⟨hsm, h70⟩ := hb rfl
  clear hb
  by_cases hl : (l1.length : Int) > 100
  ·clear hr0_0 hc0_0 hr1 hc1 HP HL hsm h70
   go_enter Try.func3, Try.ntmps3
   go_wp2_with (first
    | (go_at_call 7; refine (HSM.out _ HB0.out).mono ?_; rintro e w2 ⟨rfl, hb⟩; have HB2 := Aside0.mk (HB0.out.trans (hb.mono HB0.out.size)); clear hb)
    | (go_at_call 8; refine (HLV.out _).mono ?_; rintro e w3 ⟨rfl, hb⟩; have HB3 := Aside0.mk (HB2.out.trans (hb.mono HB2.out.size)); clear hb))
   go_ret
   exact ⟨rfl, HB3.out⟩
  ·have hl2 : l1.length ≤ 100 := by omega
   cases hF : factsB l0_0 l1 with
   | false =>
    have HALL := Aside0.mk (fun (W : World) (hb : Below w.heap.size w W) => state_All.calls A0_0 c0_0 l0_0 A1 c1 l1 _ _ W (Kd.C_below hr0_0 hb) hc0_0 (Kd.C_below hr1 hb) hc1 (all_no hsm hl2 hF))
    have HVD := Aside0.mk (fun (W : World) (hb : Below w.heap.size w W) => state_Verdict.calls A0_0 c0_0 l0_0 A1 c1 l1 _ W (Kd.C_below hr0_0 hb) hc0_0 (Kd.C_below hr1 hb) hc1 (verdict_no hsm hl2 hF))
    clear hr0_0 hc0_0 hr1 hc1 HP HL hsm h70
    go_enter Try.func3, Try.ntmps3
    go_wp2_with (first
     | (go_at_call 7; refine (HSM.out _ HB0.out).mono ?_; rintro e w2 ⟨rfl, hb⟩; have HB2 := Aside0.mk (HB0.out.trans (hb.mono HB0.out.size)); have HG2 := Aside0.mk (blk_below HG0.out hb); clear hb; have x0 : w2.cell? ⟨w.heap.size, 0, none⟩ = some (.slice A0_0 l0_0.length c0_0) := (blk_cell HG2.out 0).trans rfl)
     | (go_at_call 9; refine (HALL.out _ HB2.out).mono ?_; rintro e w3 ⟨v3, rfl, hR, hb⟩; have HB3 := Aside0.mk (HB2.out.trans (hb.mono HB2.out.size)); have HG3 := Aside0.mk (blk_below HG2.out hb); obtain ⟨A3, c3, rfl⟩ := Kd.R_slice hR; clear hb hR x0; have x0 : w3.cell? ⟨w.heap.size, 0, none⟩ = some (.slice A0_0 l0_0.length c0_0) := (blk_cell HG3.out 0).trans rfl)
     | (go_at_call 10; refine (HVD.out _ HB3.out).mono ?_; rintro e w4 ⟨rfl, hb⟩; have HB4 := Aside0.mk (HB3.out.trans (hb.mono HB3.out.size)); clear hb)
     | (go_at_call 8; refine (HLV.out _).mono ?_; rintro e w5 ⟨rfl, hb⟩; have HB5 := Aside0.mk (HB4.out.trans (hb.mono HB4.out.size)); clear hb))
    go_ret
    exact ⟨rfl, HB5.out⟩
   | true =>
    have HALL := Aside0.mk (fun (W : World) (hb : Below w.heap.size w W) => state_All.calls A0_0 c0_0 l0_0 A1 c1 l1 _ _ W (Kd.C_below hr0_0 hb) hc0_0 (Kd.C_below hr1 hb) hc1 (all_yes hsm hl2 hF))
    have HCL := Aside0.mk (fun (i : Int) (W : World) (hb : Below w.heap.size w W) => state_Clean.calls A0_0 c0_0 l0_0 A1 c1 l1 i _ W (Kd.C_below hr0_0 hb) hc0_0 (Kd.C_below hr1 hb) hc1 (clean_yes hsm hl2 hF i))
    have HAT := Aside0.mk (fun (i : Int) (W : World) (hb : Below w.heap.size w W) => state_At.calls A0_0 c0_0 l0_0 A1 c1 l1 i _ W (Kd.C_below hr0_0 hb) hc0_0 (Kd.C_below hr1 hb) hc1 (at_yes hsm hl2 hF i))
    have hsz := (facts_made hF).2.2.2
    have hlen := allB_len l0_0 l1 (madeS l0_0 l1)
    have HST := Aside0.mk (fun i (hi : i < l0_0.length) => allB_rd l0_0 l1 (madeS l0_0 l1) hi)
    generalize hS : allB l0_0 l1 (madeS l0_0 l1) = S at HALL hlen HST
    clear hr0_0 hc0_0 hr1 hc1 hsm h70 hS
    have h64 : (l0_0.length : Int) ≤ 64 := by omega
    have HLN := Aside0.mk hlen
    go_enter Try.func3, Try.ntmps3
    go_wp2_with (first
     | (go_at_call 7; refine (HSM.out _ HB0.out).mono ?_; rintro e w2 ⟨rfl, hb⟩; have HB2 := Aside0.mk (HB0.out.trans (hb.mono HB0.out.size)); have HG2 := Aside0.mk (blk_below HG0.out hb); clear hb; have x0 : w2.cell? ⟨w.heap.size, 0, none⟩ = some (.slice A0_0 l0_0.length c0_0) := (blk_cell HG2.out 0).trans rfl)
     | (go_at_call 9; refine (HALL.out _ HB2.out).mono ?_; rintro e w3 ⟨v3, rfl, hR, hb⟩; have HB3 := Aside0.mk (HB2.out.trans (hb.mono HB2.out.size)); have HG3 := Aside0.mk (blk_below HG2.out hb); obtain ⟨A3, c3, rfl⟩ := Kd.R_slice hR; rw [HLN.out]; have HR3 := Aside0.mk (Kd.R_reads' hR).2.2; clear hb hR x0; have x0 : w3.cell? ⟨w.heap.size, 0, none⟩ = some (.slice A0_0 l0_0.length c0_0) := (blk_cell HG3.out 0).trans rfl))
    clear hlen
    go_loopg [7] l0_0.length (fun kq v7 w' => ∃ i : Nat, i + kq = l0_0.length ∧ v7 = .int .i64 i ∧ Aside0 (Below w3.heap.size w3 w'))
    case atStart => exact ⟨0, by omega, rfl, ⟨Below.refl _ _⟩⟩
    case round =>
     obtain ⟨i, hi, rfl, HB⟩ := hrel
     clear x0
     have HBw := Aside0.mk (HB3.out.trans (HB.out.mono HB3.out.size))
     cases gk with
     | zero =>
      obtain rfl : i = l0_0.length := by omega
      go_wp2_with (go_at_call 8; refine (HLV.out _).mono ?_; rintro e w5 ⟨rfl, hb⟩; have HB5 := Aside0.mk (HBw.out.trans (hb.mono HBw.out.size)); clear hb)
      go_ret
      exact ⟨rfl, HB5.out⟩
     | succ d =>
      have x0 : wr.cell? ⟨w.heap.size, 0, none⟩ = some (.slice A0_0 l0_0.length c0_0) := (blk_cell (blk_below HG3.out HB.out) 0).trans rfl
      have hlt : i < l0_0.length := by omega
      have hli : (i : Int) < (l0_0.length : Int) := by omega
      have h0 : (0 : Int) ≤ i := by omega
      have HI := Aside0.mk hi
      clear hi
      obtain ⟨x, hx⟩ : ∃ x, statusB l0_0 l1 (madeS l0_0 l1) i = x := ⟨_, rfl⟩
      obtain ⟨c, hc⟩ : ∃ c, ((madeS l0_0 l1).it i).cl = c := ⟨_, rfl⟩
      obtain ⟨sb, hsb⟩ : ∃ b, (rd_T37 l0_0 (i : Int)).f2 = b := ⟨_, rfl⟩
      have H7 := Aside0.mk (one_first hF hlt x c sb hx hc hsb)
      have HCLi := Aside0.mk (fun (W : World) (hb : Below w.heap.size w W) => HCL.out (i : Int) W hb)
      rw [cleanB_at _ _ hlt, hc] at HCLi
      have hrx := HST.out i hlt
      rw [hx] at hrx
      have HRX := Aside0.mk hrx
      have HIN := Aside0.mk (fun h0 => one_in (i := i) hF hlt h0)
      rw [hc] at HIN
      have HAX := Aside0.mk (fun (hb : sb = true) (h3 : x = 3) => one_at (i := i) hF hlt (by rw [hsb, hb]) (by rw [hx, h3]))
      have HSB := Aside0.mk hsb
      have HLT := Aside0.mk hlt
      clear hrx hx hc hsb hlt
      go_upto_region 12 with (go_at_call 11; refine (HCLi.out _ HBw.out).mono ?_; rintro e w5 ⟨rfl, hb⟩; have HB5 := Aside0.mk (HB.out.trans (hb.mono HB.out.size)); have HBw5 := Aside0.mk (HBw.out.trans (hb.mono HBw.out.size)); have HG5 := Aside0.mk (blk_below (blk_below HG3.out HB.out) hb); clear hb)
      clear x0
      have x0 : w5.cell? ⟨w.heap.size, 0, none⟩ = some (.slice A0_0 l0_0.length c0_0) := (blk_cell HG5.out 0).trans rfl
      obtain ⟨ad, e0, hs0⟩ := Kd.at_int (Kd.C_below HR3.out HB5.out) (i : Int) h0 (by have := HLN.out; omega)
      obtain rfl := e0
      rw [HRX.out, Int.toNat_natCast] at hs0
      obtain ⟨ai, A7, c7, e1, q0, q1, q2, q3, q4, q5, q6, q7, -, -⟩ := at_T37 (Kd.C_below HP.out HBw5.out) (i : Int) h0 hli
      obtain rfl := e1
      rw [Int.toNat_natCast] at q2 q4 q5
      rw [HSB.out] at q2
      clear q0 q1 q3 q6 q7
      go_cut [96] (fun v96 wc => v96 = .bool false ∧ wc = w5)
      case first =>
       have h7 := H7.out
       clear q4 q5
       rcases h7 with ⟨rfl, rfl⟩ | ⟨rfl, rfl⟩ | ⟨rfl, rfl⟩ | rfl | rfl | ⟨rfl, rfl⟩ | ⟨rfl, rfl, rfl⟩
       all_goals
        go_wp2
        go_meet
        case rel => exact ⟨rfl, rfl⟩
      case rest =>
       obtain ⟨rfl, rfl⟩ := hcut
       obtain ⟨z, hz⟩ : ∃ z, (rd_T37 l0_0 (i : Int)).f5 = z := ⟨_, rfl⟩
       have HINz : Aside0 (i ≠ 0 → 0 ≤ z ∧ z < (i : Int) ∧ ∃ y, rd S z = y ∧ (y = 3 → c = true)) := ⟨fun h0 => by
        obtain ⟨a, e5, ha, himp⟩ := HIN.out h0
        have := HLT.out
        rw [hz] at e5
        subst e5
        exact ⟨by omega, by omega, _, HST.out a (by omega), himp⟩⟩
       rw [hz] at q5
       clear hz
       go_upto_region 15 with (fail)
       clear hs0 q2 q5
       go_cut [124] (fun v124 wc2 => v124 = .bool false ∧ wc2 = wc)
       case first =>
        clear q4
        by_cases hz : i = 0
        ·have hng : ¬ (0 : Int) < i := by omega
         clear hz
         go_wp2
         go_meet
         case rel => exact ⟨rfl, rfl⟩
        ·obtain ⟨ha0, ha2, y, hy, himp⟩ := HINz.out hz
         have hpz : (0 : Int) < i := by omega
         have ha1 : ¬ z < 0 := by omega
         have ha3 : ¬ (i : Int) ≤ z := by omega
         have ha4 : z < (l0_0.length : Int) := by omega
         obtain ⟨ad2, e0, hs0⟩ := Kd.at_int (Kd.C_below HR3.out HB5.out) z ha0 (by have := HLN.out; omega)
         obtain rfl := Option.some.inj e0
         rw [hy] at hs0
         clear hz
         by_cases hy3 : y = 3
         ·subst hy3
          obtain rfl := himp rfl
          clear hy himp
          go_wp2
          go_meet
          case rel => exact ⟨rfl, rfl⟩
         ·clear hy himp
          go_wp2
          go_meet
          case rel => exact ⟨rfl, rfl⟩
       case rest =>
        obtain ⟨rfl, rfl⟩ := hcut
        clear q4
        obtain ⟨ad2, e0, hs0⟩ := Kd.at_int (Kd.C_below HR3.out HB5.out) (i : Int) h0 (by have := HLN.out; omega)
        obtain rfl := Option.some.inj e0
        rw [HRX.out, Int.toNat_natCast] at hs0
        obtain ⟨ai2, A72, c72, e1, q0, q1, q2, q3, q4, q5, q6, q7, -, -⟩ := at_T37 (Kd.C_below HP.out HBw5.out) (i : Int) h0 hli
        obtain rfl := Option.some.inj e1
        rw [Int.toNat_natCast] at q2 q4
        rw [HSB.out] at q2
        clear q0 q1 q3 q5 q6 q7
        go_upto_region 17 with (fail)
        have HBF := Aside0.mk HB5.out
        cases sb
        ·clear hs0 q4
         go_region
         go_wp2
         go_roundg d
         case measure => omega
         case rel => exact ⟨i + 1, by have := HI.out; omega, by go_num, ⟨below_drewN HB5.out 1⟩⟩
        ·cases c3 : x == 3
         ·clear q4
          go_region
          go_wp2
          go_roundg d
          case measure => omega
          case rel => exact ⟨i + 1, by have := HI.out; omega, by go_num, ⟨below_drewN HB5.out 1⟩⟩
         ·obtain rfl : x = 3 := by simpa using c3
          clear c3
          have HATi := Aside0.mk (fun (W : World) (hb : Below w.heap.size w W) => HAT.out (i : Int) W hb)
          obtain ⟨n4, hn4, hb4⟩ := item_alts (facts_made hF).2.1 i HLT.out
          have e4 : wrap64 ((n4 : Int) - 1) = (n4 : Int) - 1 := by unfold wrap64; omega
          have hn4i : (n4 : Int) ≤ 4 := by omega
          rw [HAX.out rfl rfl, hn4, e4] at HATi
          rw [hn4] at q4
          have hd : ((n4 : Int) - 1 != IntKind.i64.wrap ((n4 : Int) - 1)) = false := by
           rw [i64_w, e4]; simp
          clear e4 hn4 hb4
          go_region_with (go_at_call 12; refine (HATi.out _ (below_drewN HBw5.out 1)).mono ?_; rintro e w6 ⟨rfl, hb_⟩; have hb := bel_drew_ hb_; have HB6 := Aside0.mk (HB5.out.trans (hb.mono HB5.out.size)); have y0 := (hb.cell (World.block_lt_of_cell? _ _ x0)).trans x0; have y4 := (hb.cell (World.block_lt_of_cell? _ _ q4)).trans q4; clear hb hb_)
          all_goals
           go_wp2
           go_roundg d
           case measure => omega
           case rel => exact ⟨i + 1, by have := HI.out; omega, by go_num, HB6⟩
end Go.Proofs.Ytihpndignekheaa.F
end

section
namespace Go.Proofs.Ytihpndignekheaa.F
open Go.RowKit Go.Proofs.YtihpndignekheaaW.PrintWords Go.Proofs.YtihpndignekheaaW.PrintLast Go.Proofs.YtihpndignekheaaW.PrintMore
open Go.RowKit Go.Deep
section
variable {α β : Type}
structure Opens (P : Program) (t : TypeId) (d : Kd α) (V : α → Prop) : Prop where
 out : ∀ {H : Type} (enc : TypeId × Value → H) (w : World) (base : Nat) (spare : Nat → Bool) (held : Bool) (fuel : Nat) (cs : List Value) (r : DataW H × List MemPlace),
  DataW.trod enc P w base spare held fuel t cs = some r → ∃ x, d.K w x cs ∧ V x
theorem opens_int {P : Program} {t : TypeId} {k : IntKind} (ht : P.underlying t = some (.int k)) : Opens P t (Kd.int k) (fun n => (Lit.int k n).wf = true) := by
 constructor
 intro H enc w base spare held fuel cs r h
 obtain ⟨x, rfl, _, hw⟩ := DataW.trod_int ht h
 exact ⟨x, rfl, hw⟩
theorem opens_bool {P : Program} {t : TypeId} (ht : P.underlying t = some .bool) : Opens P t Kd.bool (fun _ => True) := by
 constructor
 intro H enc w base spare held fuel cs r h
 obtain ⟨x, rfl, _⟩ := DataW.trod_bool ht h
 exact ⟨x, rfl, trivial⟩
theorem opens_string {P : Program} {t : TypeId} (ht : P.underlying t = some .string) : Opens P t Kd.string (fun s => s.size ≤ maxLen) := by
 constructor
 intro H enc w base spare held fuel cs r h
 obtain ⟨x, rfl, _, hm⟩ := DataW.trod_string ht h
 exact ⟨x, rfl, hm⟩
theorem opens_iso {P : Program} {t : TypeId} {d : Kd α} {V : α → Prop} (f : β → α) (g : α → β) (hg : ∀ y, f (g y) = y) (h : Opens P t d V) : Opens P t (Kd.iso d f) (fun x => V (f x)) := by
 constructor
 intro H enc w base spare held fuel cs r hr
 obtain ⟨x, hk, hv⟩ := h.out enc w base spare held fuel cs r hr
 exact ⟨g x, by show d.K w (f (g x)) cs; rw [hg]; exact hk, by show V (f (g x)); rw [hg]; exact hv⟩
theorem add_add_ (a : Addr) (i j : Nat) : (a.add i).add j = a.add (i + j) := by
 unfold Addr.add
 by_cases hi : i = 0 <;> by_cases hj : j = 0 <;> simp [hi, hj, Nat.add_assoc]
theorem opens_slice {P : Program} {t e : TypeId} {d : Kd α} {V : α → Prop} (z : α) (ht : P.underlying t = some (.slice e)) (hc : P.cellsOf e = d.sz) (h : Opens P e d V) :
  Opens P t (Kd.slice e d) (fun xs => xs.length ≤ maxLen ∧ ∀ x ∈ xs, V x) := by
 constructor
 intro H enc w base spare held fuel cs r hr
 haveI : Inhabited α := ⟨z⟩
 rcases open_slice ht hr with ⟨rfl, _⟩ | ⟨a, len, cap, m, n, D, Pl, rfl, hb, hl, hm, hmm, _, hx⟩
 ·exact ⟨[], ⟨none, 0, rfl, Nat.le_refl _, Kd.C_nil d w⟩, Nat.zero_le _, fun x hx => by cases hx⟩
 ·have hlm : len ≤ m := by rw [hmm]; split <;> omega
  obtain ⟨f, hf⟩ := choose_lt (n := len) (p := fun i x => ∃ c, c.length = d.sz ∧ d.K w x c ∧ V x ∧ ∀ j u, c[j]? = some u → w.cell? (a.add (i * d.sz + j)) = some u) (fun i hi => by
   obtain ⟨cs', h1, h2⟩ := hx i (by omega)
   obtain ⟨x, hk, hv⟩ := h.out enc w base spare held n cs' _ h2
   obtain ⟨_, hl', hcell⟩ := World.cells?_some h1
   rw [hc] at hl' hcell
   refine ⟨x, cs', hl', hk, hv, fun j u hu => ?_⟩
   have hj : j < d.sz := by
    rcases Nat.lt_or_ge j d.sz with hj | hj
    ·exact hj
    ·rw [List.getElem?_eq_none (by omega)] at hu; cases hu
   have := hcell j hj
   rw [add_add_] at this
   rw [this, hu])
  have hlen : ((List.range len).map f).length = len := by simp
  refine ⟨(List.range len).map f, ⟨some a, cap, by rw [hlen], by rw [hlen]; exact hl, ?_⟩, by rw [hlen]; omega, ?_⟩
  ·rw [hlen]
   refine ⟨hlen, ?_, fun _ => ⟨a, rfl, fun j p hp => ?_⟩⟩
   ·unfold maxLen at hm; omega
   ·have hj : j < len := by
     have := (List.getElem?_eq_some_iff.1 hp).1
     rwa [hlen] at this
    have hpe : f j = p := by
     rw [List.getElem?_map, List.getElem?_range hj] at hp
     exact Option.some.inj hp
    obtain ⟨c, h1, h2, _, h4⟩ := hf j hj
    rw [hpe] at h2
    exact ⟨c, h1, h2, h4⟩
  ·intro x hx
   obtain ⟨j, hj, rfl⟩ := List.mem_map.1 hx
   obtain ⟨c, _, _, h3, _⟩ := hf j (List.mem_range.1 hj)
   exact h3
structure OpensF (P : Program) (fs : List Field) (off : Nat) (d : Kd α) (V : α → Prop) : Prop where
 out : ∀ {H : Type} (enc : TypeId × Value → H) (w : World) (base : Nat) (spare : Nat → Bool) (held : Bool) (fuel : Nat) (cs : List Value),
  cs.length = off + d.sz → (∀ f ∈ fs, ∃ r, DataW.trod enc P w base spare held fuel f.type ((cs.drop f.offset).take (P.cellsOf f.type)) = some r) → ∃ x, d.K w x (cs.drop off) ∧ V x
theorem opensF_one {P : Program} {f : Field} {off : Nat} {d : Kd α} {V : α → Prop} (ho : f.offset = off) (hc : P.cellsOf f.type = d.sz) (h : Opens P f.type d V) : OpensF P [f] off d V := by
 constructor
 intro H enc w base spare held fuel cs hl hr
 obtain ⟨r, hr⟩ := hr f (List.mem_singleton.2 rfl)
 rw [ho, hc, List.take_of_length_le (by rw [List.length_drop]; omega)] at hr
 exact h.out enc w base spare held fuel _ r hr
theorem opensF_cons {P : Program} {f : Field} {fs : List Field} {off : Nat} {d : Kd α} {d' : Kd β} {V : α → Prop} {V' : β → Prop} (ho : f.offset = off) (hc : P.cellsOf f.type = d.sz) (h : Opens P f.type d V) (h' : OpensF P fs (off + d.sz) d' V') :
  OpensF P (f :: fs) off (Kd.pair d d') (fun x => V x.1 ∧ V' x.2) := by
 constructor
 intro H enc w base spare held fuel cs hl hr
 have hl' : cs.length = off + (d.sz + d'.sz) := hl
 obtain ⟨r, hr1⟩ := hr f (List.mem_cons_self ..)
 rw [ho, hc] at hr1
 obtain ⟨x, hk, hv⟩ := h.out enc w base spare held fuel _ r hr1
 obtain ⟨y, hk', hv'⟩ := h'.out enc w base spare held fuel cs (by omega) (fun g hg => hr g (List.mem_cons_of_mem _ hg))
 refine ⟨(x, y), ⟨(cs.drop off).take d.sz, cs.drop (off + d.sz), ?_, hk, hk'⟩, hv, hv'⟩
 rw [← List.drop_drop, List.take_append_drop]
theorem opens_struct {P : Program} {t : TypeId} {fs : Array Field} {d : Kd α} {V : α → Prop} (ht : P.underlying t = some (.struct fs)) (hc : P.cellsOf t = d.sz) (h : OpensF P fs.toList 0 d V) : Opens P t d V := by
 constructor
 intro H enc w base spare held fuel cs r hr
 obtain ⟨xs, n, _, _, hl, hxl, hx⟩ := DataW.trod_struct ht hr
 obtain ⟨x, hk, hv⟩ := h.out enc w base spare held n cs (by omega) (fun f hf => by
  obtain ⟨i, hi, rfl⟩ := List.mem_iff_getElem.1 hf
  have hi' : i < fs.size := by simpa using hi
  have := hx i fs[i] (by simp [hi'])
  rw [List.getElem?_eq_getElem (by omega)] at this
  exact ⟨_, by simpa using this⟩)
 rw [List.drop_zero] at hk
 exact ⟨x, hk, hv⟩
end
end Go.Proofs.Ytihpndignekheaa.F
end
