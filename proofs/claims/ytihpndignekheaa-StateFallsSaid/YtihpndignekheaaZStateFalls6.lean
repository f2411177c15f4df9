-- Texts of this seat's, joined.
import Derived.Test.YtihpndignekheaaZStateFalls1
import Derived.Test.YtihpndignekheaaZStateFalls5
import Derived.WalkSmall
import Derived.Test.YtihpndignekheaaZStateFalls4
import Derived.Test.YtihpndignekheaaZStateFalls2
import Derived.BigRegion
import Derived.Deep.RegionWith
import Derived.Deep.DeepCutAuto
import Derived.Deep.CutRange
import Derived.Test.YtihpndignekheaaProg
import Derived.Below
import Derived.Deep.Draws
import Derived.Deep.AppendLies
import Derived.Maps.AppendAt
import Derived.OwnWalk
import Derived.Laws.BytesArg
import Derived.Laws.MakeOwn
import Derived.Laws.OwnMore
import Derived.Deep.OwnRows
import Derived.Tactics
import Derived.Lib.ConvBytes
import Derived.Laws.Slices
import Derived.WalkKit
import Derived.KernelRfl
import Derived.RowKit3
import Derived.Deep.LoopGhost
import Derived.Deep.QuietTactic
import Derived.BigQuiet
import Derived.WideLaws
import Derived.Deep.CutBlock
import Derived.Deep.RegionHeld3
import Derived.Laws.Rows
import Derived.Lib.AppendStr
import Derived.ArgAppend
import Derived.Laws.IdiomCopy
import Derived.OrdersHeld
import Derived.Laws.BitsLemmas
import Derived.RowKit
import Derived.Deep.Slices
section
namespace Go.Proofs.Ytihpndignekheaa.F
open Go.RowKit Go.Proofs.YtihpndignekheaaW.PrintWords Go.Proofs.YtihpndignekheaaW.PrintLast Go.Proofs.YtihpndignekheaaW.PrintMore
attribute [local go_sem] max2_int min2_int max_two min_two max_three min_three max_four min_four
set_option linter.unusedVariables false
set_option linter.unusedSimpArgs false
theorem itemB_shape {p : List S37} {i : Nat} {x : S37} (h : itemB p i x = true) : (0 ≤ x.f4 ∧ x.f4 ≤ 4) ∧ (i ≠ 0 → 0 ≤ x.f5 ∧ x.f5 < i ∧ 0 ≤ x.f6 ∧ x.f6 < (rd_T37 p x.f5).f4) ∧ (i = 0 → x.f5 = -1) := by
 unfold itemB at h
 by_cases c1 : x.f4 < 0
 ·rw [if_pos c1] at h; cases h
 rw [if_neg c1] at h
 by_cases c2 : 4 < x.f4
 ·rw [if_pos c2] at h; cases h
 rw [if_neg c2] at h
 by_cases c3 : x.f7.any (strayB p.length) = true
 ·rw [if_pos c3] at h; cases h
 rw [if_neg c3] at h
 refine ⟨by omega, ?_, ?_⟩
 ·intro hz
  rw [if_neg hz] at h
  by_cases c4 : x.f5 < 0
  ·rw [if_pos c4] at h; cases h
  rw [if_neg c4] at h
  by_cases c5 : (i : Int) ≤ x.f5
  ·rw [if_pos c5] at h; cases h
  rw [if_neg c5] at h
  by_cases c6 : x.f6 < 0
  ·rw [if_pos c6] at h; cases h
  rw [if_neg c6] at h
  have := of_decide_eq_true h
  omega
 ·intro hz
  rw [if_pos hz] at h
  exact of_decide_eq_true h
theorem shapedL_of_ {p : List S37} : ∀ (q : List S37) (i : Nat), shapedL p i q = true → ∀ k (hk : k < q.length), itemB p (i + k) q[k] = true
 | [], _, _, k, hk => by simp at hk
 | x :: q, i, h, k, hk => by
  unfold shapedL at h
  rw [Bool.and_eq_true] at h
  cases k with
  | zero => exact h.1
  | succ k =>
   have := shapedL_of_ q (i + 1) h.2 k (by simpa using hk)
   rw [show i + 1 + k = i + (k + 1) from by omega] at this
   simpa using this
theorem rd_at {p : List S37} {i : Nat} (h : i < p.length) : rd_T37 p (i : Int) = p[i] := by
 unfold rd_T37
 rw [Int.toNat_natCast, List.getD_eq_getElem?_getD, List.getElem?_eq_getElem h]
 rfl
theorem shape_item {p : List S37} (h : shapedB p = true) {i : Nat} (hi : i < p.length) : itemB p i (rd_T37 p (i : Int)) = true := by
 unfold shapedB at h
 simp only [Bool.and_eq_true] at h
 have := shapedL_of_ p 0 h.1 i hi
 rw [Nat.zero_add] at this
 rw [rd_at hi]
 exact this
theorem shape_few {p : List S37} (h : shapedB p = true) : 0 < p.length ∧ p.length ≤ 64 := by
 unfold shapedB at h
 simp only [Bool.and_eq_true, decide_eq_true_eq] at h
 exact h.2
theorem shape_of {p : List S37} (h : shapedB p = true) : ShapeP p := by
 refine ⟨(shape_few h).2, fun i hi => ?_⟩
 obtain ⟨h1, h2, -⟩ := itemB_shape (shape_item h hi)
 refine ⟨h1, fun hz => ?_⟩
 obtain ⟨q1, q2, q3, q4⟩ := h2 hz
 refine ⟨q1, q2, q3, ?_⟩
 obtain ⟨j, hj⟩ := Int.eq_ofNat_of_zero_le q1
 have hjl : j < p.length := by omega
 have := (itemB_shape (shape_item h hjl)).1
 rw [hj] at q4
 omega
theorem facts_shape {p : List S37} {l : List S59} (h : factsB p l = true) : l.length = p.length ∧ shapedB p = true := by
 unfold factsB at h
 simp only [Bool.and_eq_true, decide_eq_true_eq] at h
 have h2 := h.2.1
 unfold rightB at h2
 rw [Bool.and_eq_true] at h2
 exact ⟨h.1, h2.1⟩
def SeeP (p : List S37) (Ap : Option Addr) (cp : Nat) (l : List S59) (w : World) (r : Option Nat) (w' : World) : Prop :=
 Below w.heap.size w w' ∧ match r with | some g => factsB p l = true ∧ ∃ Al cl, BdAt w' g p Ap cp l Al cl (madeS p l) | none => factsB p l = false
def ptrV : Option Nat → Value
 | none => .pointer none
 | some g => .pointer (some ⟨g, 0, none⟩)
set_option maxHeartbeats 8000000 in
set_option maxRecDepth 100000 in
theorem see_walk (p : List S37) (Ap : Option Addr) (cp : Nat) (l : List S59) (Al : Option Addr) (cl : Nat) (w : World) (hp : Kd.C k37 w Ap p.length p) (hcp : p.length ≤ cp) (hl : Kd.C k59 w Al l.length l) (hcl : l.length ≤ cl) (hsm : smallP p = true) (hl6 : l.length ≤ 1000000) :
  Calls Try.prog 18 #[.agg #[.slice Ap p.length cp], .slice Al l.length cl] w fun e w' => ∃ r, e = .returned (.tuple #[ptrV r, .int .i64 (if factsB p l then 0 else 2)]) ∧ SeeP p Ap cp l w r w' := by
 have HP := Aside0.mk hp
 have HL := Aside0.mk hl
 have HGA := Aside0.mk (blk_new w (.cells #[.slice Ap p.length cp] 24 (0, 0)))
 have HB0 := Aside0.mk (below_alloc (Below.refl w.heap.size w) (.cells #[.slice Ap p.length cp] 24 (0, 0)))
 have HCK := Aside0.mk (fun (W : World) (hb : Below w.heap.size w W) => fact_Check.calls _ Ap cp p Al cl l _ W (Kd.C_below hp hb) hcp (Kd.C_below hl hb) hcl (fact_check_at p l hsm hl6))
 obtain ⟨v, hv⟩ : ∃ v, factsB p l = v := ⟨_, rfl⟩
 have HV := Aside0.mk hv
 rw [hv] at HCK ⊢
 clear hp hcp hl hcl hsm hl6 hv
 cases v with
 | false =>
  go_enter Try.func18, Try.ntmps18
  go_wp2_with (go_at_call 28; refine (HCK.out _ HB0.out).mono ?_; rintro e w2 ⟨rfl, hb⟩; have HB2 := Aside0.mk (HB0.out.trans (hb.mono HB0.out.size)); clear hb)
  go_ret2
  exact ⟨none, rfl, HB2.out, HV.out⟩
 | true =>
  have HSH := Aside0.mk (facts_shape HV.out)
  have HMD := Aside0.mk (fun (W : World) (hb : Below w.heap.size w W) => made_board_walk p Ap cp l Al cl W (Kd.C_below HP.out hb) (Kd.C_below HL.out hb) HSH.out.1 (shape_of HSH.out.2))
  go_enter Try.func18, Try.ntmps18
  go_wp2_with (first
   | (go_at_call 28; refine (HCK.out _ HB0.out).mono ?_; rintro e w2 ⟨rfl, hb⟩; have HB2 := Aside0.mk (HB0.out.trans (hb.mono HB0.out.size)); have HG2 := Aside0.mk (blk_below HGA.out hb); clear hb; have x0 : w2.cell? ⟨w.heap.size, 0, none⟩ = some (.slice Ap p.length cp) := (blk_cell HG2.out 0).trans rfl)
   | (go_at_call 29; refine (HMD.out _ HB2.out).mono ?_; rintro e w3 ⟨g, rfl, hm⟩; have HM := Aside0.mk hm; clear hm))
  go_ret2
  obtain ⟨q1, q2, A3, c3, q3, q4⟩ := HM.out
  have hb3 := HB2.out.trans (q1.mono HB2.out.size)
  exact ⟨some g, rfl, hb3, HV.out, A3, c3, q3, Kd.C_below HP.out hb3, q4, HSH.out.1, (shape_few HSH.out.2).2⟩
set_option maxHeartbeats 8000000 in
set_option maxRecDepth 100000 in
theorem asked_walk (p : List S37) (Ap : Option Addr) (cp : Nat) (l : List S59) (Al : Option Addr) (cl : Nat) (w : World) (hp : Kd.C k37 w Ap p.length p) (hcp : p.length ≤ cp) (hl : Kd.C k59 w Al l.length l) (hcl : l.length ≤ cl) (hsm : smallP p = true) (hl6 : l.length ≤ 1000000) :
  Calls Try.prog 24 #[.agg #[.slice Ap p.length cp], .slice Al l.length cl] w fun e w' => ∃ r, e = .returned (ptrV r) ∧ SeeP p Ap cp l w r w' := by
 have HB0 := Aside0.mk (below_alloc (Below.refl w.heap.size w) (.cells #[.slice Ap p.length cp] 24 (0, 0)))
 have HSW := Aside0.mk (fun (W : World) (hb : Below w.heap.size w W) => see_walk p Ap cp l Al cl W (Kd.C_below hp hb) hcp (Kd.C_below hl hb) hcl hsm hl6)
 clear hp hcp hl hcl hsm hl6
 go_enter Try.func24, Try.ntmps24
 go_wp2_with (go_at_call 18; refine (HSW.out _ HB0.out).mono ?_; rintro e w2 ⟨r, rfl, hm⟩; have HM := Aside0.mk hm; clear hm)
 all_goals
  go_ret
  exact ⟨r, rfl, HB0.out.trans (HM.out.1.mono HB0.out.size), HM.out.2⟩
def okArgs (p : List S37) (l : List S59) : Bool := smallP p && decide (l.length ≤ 1000000)
def state_All.f (l0_0 : List S37) (l1 : List S59) : Option (List Int × Int) := if okArgs l0_0 l1 then some (if factsB l0_0 l1 then (allB l0_0 l1 (madeS l0_0 l1), 0) else ([], 2)) else none
def state_Verdict.f (l0_0 : List S37) (l1 : List S59) : Option Int := if okArgs l0_0 l1 then some (if factsB l0_0 l1 then verdictB l0_0 l1 (madeS l0_0 l1) else 0) else none
def state_At.f (l0_0 : List S37) (l1 : List S59) (a2 : Int) : Option Int := if okArgs l0_0 l1 then some (if factsB l0_0 l1 then atB l0_0 (madeS l0_0 l1) a2 else 0) else none
def fallB (p : List S37) (s : St) (i a : Int) : Bool := subB p i && (decide (0 ≤ a) && (decide (a < (rd_T37 p i).f4) && ((s.bo i.toNat a.toNat).fa || (s.it i.toNat).ha)))
def state_Falling.f (l0_0 : List S37) (l1 : List S59) (a2 a3 : Int) : Option Bool := if okArgs l0_0 l1 then some (if factsB l0_0 l1 then fallB l0_0 (madeS l0_0 l1) a2 a3 else false) else none
set_option maxHeartbeats 8000000 in
theorem falling_walk {w : World} {g : Nat} {p : List S37} {Ap : Option Addr} {cp : Nat} {l : List S59} {Al : Option Addr} {cl : Nat} {s : St} (h : BdAt w g p Ap cp l Al cl s) (hs : ShapeP p) (i a : Int) : Calls Try.prog 16 #[.pointer (some ⟨g, 0, none⟩), .int .i64 i, .int .i64 a] w fun e w' => e = .returned (.bool (fallB p s i a)) ∧ w' = w := by
 have HS := Aside0.mk (sub_walk h i)
 unfold fallB
 cases hb : subB p i with
 | false =>
  rw [hb] at HS
  clear h hb hs
  go_enter Try.func16, Try.ntmps16
  go_wp2_with (go_at_call 27; refine HS.out.mono ?_; rintro e w2 ⟨rfl, rfl⟩)
  go_ret
  exact ⟨rfl, rfl⟩
 | true =>
  have hx := hb
  unfold subB at hx
  simp only [Bool.and_eq_true, decide_eq_true_eq] at hx
  obtain ⟨n, rfl⟩ := Int.eq_ofNat_of_zero_le hx.1
  have hn : n < p.length := by omega
  have h6 : (n : Int) < 64 := by have := h.few; omega
  have h0 : (0 : Int) ≤ n := by omega
  have h1 : (n : Int) < (p.length : Int) := by omega
  have h4 := (hs.2 n hn).1
  obtain ⟨ad, A7, c7, e0, x0, x1, x2, x3, x4, x5, x6, x7, _, _⟩ := at_T37 h.pl (n : Int) h0 h1
  subst e0
  have y0 : w.cell? ⟨g, 0, none⟩ = some (.slice (some ad) p.length cp) := h.bd.cell 0 (by omega)
  rw [hb] at HS
  obtain ⟨m, hm⟩ : ∃ m, (rd_T37 p (n : Int)).f4 = m := ⟨_, rfl⟩
  rw [hm] at x4 h4 ⊢
  rw [Int.toNat_natCast] at x4
  clear x0 x1 x2 x3 x5 x6 x7 hb hx hm
  by_cases c1 : a < 0
  ·have hd : decide (0 ≤ a) = false := decide_eq_false (by omega)
   clear h
   go_enter Try.func16, Try.ntmps16
   go_wp2_with (go_at_call 27; refine HS.out.mono ?_; rintro e w2 ⟨rfl, rfl⟩)
   go_ret
   exact ⟨by rw [hd]; rfl, rfl⟩
  ·obtain ⟨k, rfl⟩ := Int.eq_ofNat_of_zero_le (Int.not_lt.1 c1)
   have hd : decide ((0 : Int) ≤ k) = true := decide_eq_true (by omega)
   by_cases c2 : (k : Int) ≥ m
   ·have hd2 : decide ((k : Int) < m) = false := decide_eq_false (by omega)
    clear h
    go_enter Try.func16, Try.ntmps16
    go_wp2_with (go_at_call 27; refine HS.out.mono ?_; rintro e w2 ⟨rfl, rfl⟩)
    go_ret
    exact ⟨by rw [hd, hd2]; rfl, rfl⟩
   ·have hd2 : decide ((k : Int) < m) = true := decide_eq_true (by omega)
    have k4 : (k : Int) < 4 := by omega
    have k0 : (0 : Int) ≤ k := by omega
    have z0 : w.cell? ⟨g, 386 + n * 12 + k * 3, none⟩ = some (.bool (s.bo n k).fa) := h.bd.bo n k 0 (by omega) (by omega) (by omega)
    have z1 : w.cell? ⟨g, 2 + n * 6 + 4, none⟩ = some (.bool (s.it n).ha) := h.bd.it n 4 (by omega) (by omega)
    rw [hd, hd2, Int.toNat_natCast, Int.toNat_natCast]
    clear h hd hd2
    obtain ⟨fa, hfa⟩ : ∃ b, (s.bo n k).fa = b := ⟨_, rfl⟩
    rw [hfa] at z0 ⊢
    clear hfa
    cases fa
    all_goals
     go_enter Try.func16, Try.ntmps16
     go_wp2_with (go_at_call 27; refine HS.out.mono ?_; rintro e w2 ⟨rfl, rfl⟩)
     go_ret
     exact ⟨rfl, rfl⟩
theorem SeeP.has {p : List S37} {Ap : Option Addr} {cp : Nat} {l : List S59} {w w' : World} {g : Nat} (h : SeeP p Ap cp l w (some g) w') : factsB p l = true ∧ 0 < p.length ∧ shapedB p = true ∧ ∃ Al cl, BdAt w' g p Ap cp l Al cl (madeS p l) := by
 obtain ⟨h1, h2, h3⟩ := h
 exact ⟨h2, (shape_few (facts_shape h2).2).1, (facts_shape h2).2, h3⟩
theorem SeeP.hasnt {p : List S37} {Ap : Option Addr} {cp : Nat} {l : List S59} {w w' : World} (h : SeeP p Ap cp l w none w') : factsB p l = false := h.2
section
variable {p : List S37} {Ap : Option Addr} {cp : Nat} {l : List S59} {w w' : World} {r : Option Nat}
theorem verdict_ptr (h : SeeP p Ap cp l w r w') : Calls Try.prog 14 #[ptrV r] w' fun e w2 => e = .returned (.int .i64 (if factsB p l then verdictB p l (madeS p l) else 0)) ∧ Below w'.heap.size w' w2 := by
 cases r with
 | none => rw [h.hasnt]; refine (verdict_none w').mono ?_; rintro e w2 ⟨rfl, rfl⟩; exact ⟨rfl, Below.refl _ _⟩
 | some g => obtain ⟨h1, h2, h3, Al, cl, h4⟩ := h.has; rw [h1]; exact verdict_walk h4 h2
theorem at_ptr (h : SeeP p Ap cp l w r w') (i : Int) : Calls Try.prog 15 #[ptrV r, .int .i64 i] w' fun e w2 => e = .returned (.int .i64 (if factsB p l then atB p (madeS p l) i else 0)) ∧ Below w'.heap.size w' w2 := by
 cases r with
 | none => rw [h.hasnt]; refine (at_none i w').mono ?_; rintro e w2 ⟨rfl, rfl⟩; exact ⟨rfl, Below.refl _ _⟩
 | some g => obtain ⟨h1, h2, h3, Al, cl, h4⟩ := h.has; rw [h1]; refine (at_walk h4 h2 i).mono ?_; rintro e w2 ⟨rfl, rfl⟩; exact ⟨rfl, Below.refl _ _⟩
theorem all_ptr (h : SeeP p Ap cp l w r w') : Calls Try.prog 13 #[ptrV r] w' fun e w2 => ∃ v, e = .returned v ∧ Kd.R (Kd.int .i64) 32 w2 w'.heap.size (fun _ => True) v (if factsB p l then allB p l (madeS p l) else []) ∧ Below w'.heap.size w' w2 := by
 cases r with
 | none => rw [h.hasnt]; exact all_none w'
 | some g => obtain ⟨h1, h2, h3, Al, cl, h4⟩ := h.has; rw [h1]; exact all_walk h4
theorem falling_ptr (h : SeeP p Ap cp l w r w') (i a : Int) : Calls Try.prog 16 #[ptrV r, .int .i64 i, .int .i64 a] w' fun e w2 => e = .returned (.bool (if factsB p l then fallB p (madeS p l) i a else false)) ∧ Below w'.heap.size w' w2 := by
 cases r with
 | none => rw [h.hasnt]; refine (falling_none i a w').mono ?_; rintro e w2 ⟨rfl, rfl⟩; exact ⟨rfl, Below.refl _ _⟩
 | some g => obtain ⟨h1, h2, h3, Al, cl, h4⟩ := h.has; rw [h1]; refine (falling_walk h4 (shape_of h3) i a).mono ?_; rintro e w2 ⟨rfl, rfl⟩; exact ⟨rfl, Below.refl _ _⟩
end
section
variable (A0_0 : Option Addr) (c0_0 : Nat) (l0_0 : List S37) (A1 : Option Addr) (c1 : Nat) (l1 : List S59)
theorem state_All.calls (r1 : List Int) (r2 : Int) (w : World) (hr0_0 : Kd.C k37 w A0_0 l0_0.length l0_0) (hc0_0 : l0_0.length ≤ c0_0) (hr1 : Kd.C k59 w A1 l1.length l1) (hc1 : l1.length ≤ c1) (h : state_All.f l0_0 l1 = some (r1, r2)) :
  Calls Try.prog 9 #[.agg #[.slice A0_0 l0_0.length c0_0], .slice A1 l1.length c1] w fun e w' => ∃ v0_ : Value, e = .returned (.tuple #[v0_, .int .i64 r2]) ∧ Kd.R (Kd.int .i64) 32 w' w.heap.size (fun _ => True) v0_ r1 ∧ Below w.heap.size w w' := by
 unfold state_All.f at h
 by_cases hok : okArgs l0_0 l1 = true
 ·rw [if_pos hok] at h
  unfold okArgs at hok
  rw [Bool.and_eq_true, decide_eq_true_eq] at hok
  have HB0 := Aside0.mk (below_alloc (Below.refl w.heap.size w) (.cells #[.slice A0_0 l0_0.length c0_0] 24 (0, 0)))
  have HAS := Aside0.mk (fun (W : World) (hb : Below w.heap.size w W) => see_walk l0_0 A0_0 c0_0 l1 A1 c1 W (Kd.C_below hr0_0 hb) hc0_0 (Kd.C_below hr1 hb) hc1 hok.1 hok.2)
  have h3 := Option.some.inj h
  have H1 : Aside0 ((if factsB l0_0 l1 = true then allB l0_0 l1 (madeS l0_0 l1) else []) = r1) := ⟨(by split <;> rfl : (if factsB l0_0 l1 = true then allB l0_0 l1 (madeS l0_0 l1) else []) = (if factsB l0_0 l1 = true then (allB l0_0 l1 (madeS l0_0 l1), (0 : Int)) else ([], 2)).1).trans (congrArg Prod.fst h3)⟩
  have H2 : Aside0 ((if factsB l0_0 l1 = true then (0 : Int) else 2) = r2) := ⟨(by split <;> rfl : (if factsB l0_0 l1 = true then (0 : Int) else 2) = (if factsB l0_0 l1 = true then (allB l0_0 l1 (madeS l0_0 l1), (0 : Int)) else ([], 2)).2).trans (congrArg Prod.snd h3)⟩
  clear h3
  clear hr0_0 hc0_0 hr1 hc1 hok h
  go_enter Try.func9, Try.ntmps9
  go_wp2_with (first
   | (go_at_call 18; refine (HAS.out _ HB0.out).mono ?_; rw [H2.out]; rintro e w2 ⟨q, rfl, hm⟩; have HM := Aside0.mk hm; clear hm)
   | (go_at_call 13; refine (all_ptr HM.out).mono ?_; rw [H1.out]; rintro e w3 ⟨v, rfl, hR, hb⟩; have HR := Aside0.mk hR; have HB3 := Aside0.mk (HB0.out.trans ((HM.out.1.trans (hb.mono HM.out.1.size)).mono HB0.out.size)); clear hb))
  go_ret2
  exact ⟨v, rfl, Kd.R_lower HR.out (Nat.le_trans HB0.out.size HM.out.1.size), HB3.out⟩
 ·rw [if_neg hok] at h
  cases h
theorem state_Verdict.calls (r : Int) (w : World) (hr0_0 : Kd.C k37 w A0_0 l0_0.length l0_0) (hc0_0 : l0_0.length ≤ c0_0) (hr1 : Kd.C k59 w A1 l1.length l1) (hc1 : l1.length ≤ c1) (h : state_Verdict.f l0_0 l1 = some r) :
  Calls Try.prog 10 #[.agg #[.slice A0_0 l0_0.length c0_0], .slice A1 l1.length c1] w fun e w' => e = .returned (.int .i64 r) ∧ Below w.heap.size w w' := by
 unfold state_Verdict.f at h
 by_cases hok : okArgs l0_0 l1 = true
 ·rw [if_pos hok] at h
  unfold okArgs at hok
  rw [Bool.and_eq_true, decide_eq_true_eq] at hok
  have HB0 := Aside0.mk (below_alloc (Below.refl w.heap.size w) (.cells #[.slice A0_0 l0_0.length c0_0] 24 (0, 0)))
  have HAS := Aside0.mk (fun (W : World) (hb : Below w.heap.size w W) => asked_walk l0_0 A0_0 c0_0 l1 A1 c1 W (Kd.C_below hr0_0 hb) hc0_0 (Kd.C_below hr1 hb) hc1 hok.1 hok.2)
  have HRR := Aside0.mk (Option.some.inj h)
  clear hr0_0 hc0_0 hr1 hc1 hok h
  go_enter Try.func10, Try.ntmps10
  go_wp2_with (first
   | (go_at_call 24; refine (HAS.out _ HB0.out).mono ?_; rintro e w2 ⟨q, rfl, hm⟩; have HM := Aside0.mk hm; clear hm)
   | (go_at_call 14; refine (verdict_ptr HM.out).mono ?_; rw [HRR.out]; rintro e w3 ⟨rfl, hb⟩; have HB3 := Aside0.mk (HB0.out.trans ((HM.out.1.trans (hb.mono HM.out.1.size)).mono HB0.out.size)); clear hb))
  go_ret
  exact ⟨rfl, HB3.out⟩
 ·rw [if_neg hok] at h
  cases h
theorem state_At.calls (a2 : Int) (r : Int) (w : World) (hr0_0 : Kd.C k37 w A0_0 l0_0.length l0_0) (hc0_0 : l0_0.length ≤ c0_0) (hr1 : Kd.C k59 w A1 l1.length l1) (hc1 : l1.length ≤ c1) (h : state_At.f l0_0 l1 a2 = some r) :
  Calls Try.prog 12 #[.agg #[.slice A0_0 l0_0.length c0_0], .slice A1 l1.length c1, .int .i64 a2] w fun e w' => e = .returned (.int .i64 r) ∧ Below w.heap.size w w' := by
 unfold state_At.f at h
 by_cases hok : okArgs l0_0 l1 = true
 ·rw [if_pos hok] at h
  unfold okArgs at hok
  rw [Bool.and_eq_true, decide_eq_true_eq] at hok
  have HB0 := Aside0.mk (below_alloc (Below.refl w.heap.size w) (.cells #[.slice A0_0 l0_0.length c0_0] 24 (0, 0)))
  have HAS := Aside0.mk (fun (W : World) (hb : Below w.heap.size w W) => asked_walk l0_0 A0_0 c0_0 l1 A1 c1 W (Kd.C_below hr0_0 hb) hc0_0 (Kd.C_below hr1 hb) hc1 hok.1 hok.2)
  have HRR := Aside0.mk (Option.some.inj h)
  clear hr0_0 hc0_0 hr1 hc1 hok h
  go_enter Try.func12, Try.ntmps12
  go_wp2_with (first
   | (go_at_call 24; refine (HAS.out _ HB0.out).mono ?_; rintro e w2 ⟨q, rfl, hm⟩; have HM := Aside0.mk hm; clear hm)
   | (go_at_call 15; refine (at_ptr HM.out a2).mono ?_; rw [HRR.out]; rintro e w3 ⟨rfl, hb⟩; have HB3 := Aside0.mk (HB0.out.trans ((HM.out.1.trans (hb.mono HM.out.1.size)).mono HB0.out.size)); clear hb))
  go_ret
  exact ⟨rfl, HB3.out⟩
 ·rw [if_neg hok] at h
  cases h
theorem state_Falling.calls (a2 a3 : Int) (r : Bool) (w : World) (hr0_0 : Kd.C k37 w A0_0 l0_0.length l0_0) (hc0_0 : l0_0.length ≤ c0_0) (hr1 : Kd.C k59 w A1 l1.length l1) (hc1 : l1.length ≤ c1) (h : state_Falling.f l0_0 l1 a2 a3 = some r) :
  Calls Try.prog 20 #[.agg #[.slice A0_0 l0_0.length c0_0], .slice A1 l1.length c1, .int .i64 a2, .int .i64 a3] w fun e w' => e = .returned (.bool r) ∧ Below w.heap.size w w' := by
 unfold state_Falling.f at h
 by_cases hok : okArgs l0_0 l1 = true
 ·rw [if_pos hok] at h
  unfold okArgs at hok
  rw [Bool.and_eq_true, decide_eq_true_eq] at hok
  have HB0 := Aside0.mk (below_alloc (Below.refl w.heap.size w) (.cells #[.slice A0_0 l0_0.length c0_0] 24 (0, 0)))
  have HAS := Aside0.mk (fun (W : World) (hb : Below w.heap.size w W) => asked_walk l0_0 A0_0 c0_0 l1 A1 c1 W (Kd.C_below hr0_0 hb) hc0_0 (Kd.C_below hr1 hb) hc1 hok.1 hok.2)
  have HRR := Aside0.mk (Option.some.inj h)
  clear hr0_0 hc0_0 hr1 hc1 hok h
  go_enter Try.func20, Try.ntmps20
  go_wp2_with (first
   | (go_at_call 24; refine (HAS.out _ HB0.out).mono ?_; rintro e w2 ⟨q, rfl, hm⟩; have HM := Aside0.mk hm; clear hm)
   | (go_at_call 16; refine (falling_ptr HM.out a2 a3).mono ?_; rw [HRR.out]; rintro e w3 ⟨rfl, hb⟩; have HB3 := Aside0.mk (HB0.out.trans ((HM.out.1.trans (hb.mono HM.out.1.size)).mono HB0.out.size)); clear hb))
  go_ret
  exact ⟨rfl, HB3.out⟩
 ·rw [if_neg hok] at h
  cases h
end
end Go.Proofs.Ytihpndignekheaa.F
end

section
namespace Go.Proofs.Ytihpndignekheaa.F
open Go.RowKit Go.Proofs.YtihpndignekheaaW.PrintWords Go.Proofs.YtihpndignekheaaW.PrintLast Go.Proofs.YtihpndignekheaaW.PrintMore
attribute [local go_sem] max2_int min2_int max_two min_two max_three min_three max_four min_four
set_option linter.unusedVariables false
set_option linter.unusedSimpArgs false
def argosylaw14_is.l0 : Nat → List Int → List Int → Int → Option (Bool)
 | 0, _, _, _ => none
 | k + 1, x0, x1, x5 => if x5 < (x0.length : Int) then (if 0 ≤ x5 then (if x5 < (x1.length : Int) then (if (rd x0 x5) = (rd x1 x5) then (argosylaw14_is.l0 k x0 x1 (wrap64 (x5 + 1))) else (some false)) else (none)) else (none)) else (some true)
def argosylaw14_is.f (k : Nat) (l0 : List Int) (l1 : List Int) : Option (Bool) := if (l0.length : Int) = (l1.length : Int) then (argosylaw14_is.l0 k l0 l1 0) else (some false)
theorem argosylaw14_is.mono_l : ∀ k, (∀ y0 y1 y2, LeO (argosylaw14_is.l0 k y0 y1 y2) (argosylaw14_is.l0 (k + 1) y0 y1 y2))
 | 0 => fun _ _ _ r h => by simp [argosylaw14_is.l0] at h
 | k + 1 => by
  have ih0 := argosylaw14_is.mono_l k
  ·intro y0 y1 y2
   unfold argosylaw14_is.l0
   repeat' first
   | (with_reducible exact ih0 _ _ _)
   | (with_reducible exact LeO.refl _)
   | (with_reducible exact LeO.none _)
   | (with_reducible refine LeO.ite ?_ ?_)
   | (with_reducible refine LeO.bind ?_ (fun _ => ?_))
   | exact ih0 _ _ _
   | exact LeO.none _
   | refine LeO.ite ?_ ?_
   | refine LeO.bind ?_ (fun _ => ?_)
theorem argosylaw14_is.mono : ∀ a0 a1 k, LeO (argosylaw14_is.f k a0 a1) (argosylaw14_is.f (k + 1) a0 a1) := by
 intro a0 a1 k
 have ih0 := argosylaw14_is.mono_l k
 unfold argosylaw14_is.f
 repeat' first
   | (with_reducible exact ih0 _ _ _)
   | (with_reducible exact LeO.refl _)
   | (with_reducible exact LeO.none _)
   | (with_reducible refine LeO.ite ?_ ?_)
   | (with_reducible refine LeO.bind ?_ (fun _ => ?_))
   | exact ih0 _ _ _
   | exact LeO.none _
   | refine LeO.ite ?_ ?_
   | refine LeO.bind ?_ (fun _ => ?_)
set_option maxHeartbeats 8000000 in
set_option maxRecDepth 100000 in
theorem argosylaw14_is.calls (k : Nat) (A0 : Option Addr) (c0 : Nat) (l0 : List Int) (A1 : Option Addr) (c1 : Nat) (l1 : List Int) (r : Bool) (w : World) (hr0 : Kd.C (Kd.int .i64) w A0 l0.length l0) (hc0 : l0.length ≤ c0) (hr1 : Kd.C (Kd.int .i64) w A1 l1.length l1) (hc1 : l1.length ≤ c1) (h : argosylaw14_is.f k l0 l1 = some r) :
  Calls Try.prog 19 #[.slice A0 l0.length c0, .slice A1 l1.length c1] w fun e w' => e = .returned (.bool r) ∧ Drawn0 w w' := by
 have HR0 := Aside0.mk hr0
 have HC0 := Aside0.mk hc0
 clear hr0 hc0
 have HR1 := Aside0.mk hr1
 have HC1 := Aside0.mk hc1
 clear hr1 hc1
 have H : (if (l0.length : Int) = (l1.length : Int) then (argosylaw14_is.l0 k l0 l1 0) else (some false)) = some r := h
 clear h
 by_cases c3 : (l0.length : Int) = (l1.length : Int)
 ·rw [if_pos c3] at H
  have c3b0 : ((l0.length : Int) == (l1.length : Int)) = true := beq_iff_eq.mpr c3
  have c3b1 : ((l0.length : Int) != (l1.length : Int)) = false := bne_eq_false_iff_eq.mpr c3
  have c3b2 : (l0.length == l1.length) = true := by first | simpa using c3 | (simp at c3 ⊢; omega)
  clear c3
  have H' := Aside0.mk H
  clear H
  go_enter Try.func19, Try.ntmps19
  go_wp2
  repeat (go_quiet (fail); try go_wp2)
  go_loopg [5] k (fun kq v5 w' => ∃ (x5_1 : Int), v5 = .int .i64 x5_1 ∧ Aside0 (argosylaw14_is.l0 kq l0 l1 x5_1 = some r) ∧ Aside0 (kq ≤ k) ∧ Drawn0 w w')
  case atStart => exact ⟨(0), (by first | rfl | (simp; done) | (simp [*]; done)), H', ⟨Nat.le_refl _⟩, by repeat (first | exact Drawn0.refl _ | apply Drawn0.step)⟩
  case round =>
   clear H'
   try clear c1
   try clear p2
   try clear c3
   try clear c3b0
   try clear c3b1
   try clear c3b2
   obtain ⟨x5_1, rfl, HA, HK1, ⟨m1, rfl⟩⟩ := hrel
   cases gk with
   | zero => exact absurd HA.out (by simp [argosylaw14_is.l0])
   | succ k1 =>
    have H := HA.out
    clear HA
    simp only [argosylaw14_is.l0] at H
    by_cases c4 : x5_1 < (l0.length : Int)
    ·rw [if_pos c4] at H
     have c4b0 : decide (x5_1 < (l0.length : Int)) = true := decide_eq_true c4
     clear c4
     by_cases c5 : 0 ≤ x5_1
     ·rw [if_pos c5] at H
      have c5b0 : decide (0 ≤ x5_1) = true := decide_eq_true c5
      clear c5
      by_cases c6 : x5_1 < (l1.length : Int)
      ·rw [if_pos c6] at H
       have c6b0 : decide (x5_1 < (l1.length : Int)) = true := decide_eq_true c6
       clear c6
       by_cases c7 : (rd l0 x5_1) = (rd l1 x5_1)
       ·rw [if_pos c7] at H
        have c7b0 : ((rd l0 x5_1) == (rd l1 x5_1)) = true := beq_iff_eq.mpr c7
        have c7b1 : ((rd l0 x5_1) != (rd l1 x5_1)) = false := bne_eq_false_iff_eq.mpr c7
        clear c7
        have H' := Aside0.mk H
        clear H
        have p142 : 0 ≤ (x5_1 : Int) := of_decide_eq_true (by first | (with_reducible assumption) | assumption)
        have q142 : x5_1 < (l0.length : Int) := of_decide_eq_true (by first | (with_reducible assumption) | assumption)
        obtain ⟨ad142, e142, hx142_0⟩ := Kd.at_int HR0.out x5_1 p142 q142
        cases e142
        replace p142 := eq_true p142
        replace q142 := eq_true q142
        have p143 : 0 ≤ (x5_1 : Int) := of_decide_eq_true (by first | (with_reducible assumption) | assumption)
        have q143 : x5_1 < (l1.length : Int) := of_decide_eq_true (by first | (with_reducible assumption) | assumption)
        obtain ⟨ad143, e143, hx143_0⟩ := Kd.at_int HR1.out x5_1 p143 q143
        cases e143
        replace p143 := eq_true p143
        replace q143 := eq_true q143
        go_wp2
        repeat (go_quiet (fail); try go_wp2)
        go_roundg k1
        case measure => have := HK1.out; omega
        case rel => exact ⟨(wrap64 (x5_1 + 1)), (by first | rfl | (simp; done) | (simp [*]; done)), H', ⟨by have := HK1.out; omega⟩, by repeat (first | exact Drawn0.refl _ | apply Drawn0.step)⟩
       ·rw [if_neg c7] at H
        have c7b0 : ((rd l0 x5_1) == (rd l1 x5_1)) = false := beq_eq_false_iff_ne.mpr c7
        have c7b1 : ((rd l0 x5_1) != (rd l1 x5_1)) = true := bne_iff_ne.mpr c7
        obtain rfl := Option.some.inj H
        have p142 : 0 ≤ (x5_1 : Int) := of_decide_eq_true (by first | (with_reducible assumption) | assumption)
        have q142 : x5_1 < (l0.length : Int) := of_decide_eq_true (by first | (with_reducible assumption) | assumption)
        obtain ⟨ad142, e142, hx142_0⟩ := Kd.at_int HR0.out x5_1 p142 q142
        cases e142
        replace p142 := eq_true p142
        replace q142 := eq_true q142
        have p143 : 0 ≤ (x5_1 : Int) := of_decide_eq_true (by first | (with_reducible assumption) | assumption)
        have q143 : x5_1 < (l1.length : Int) := of_decide_eq_true (by first | (with_reducible assumption) | assumption)
        obtain ⟨ad143, e143, hx143_0⟩ := Kd.at_int HR1.out x5_1 p143 q143
        cases e143
        replace p143 := eq_true p143
        replace q143 := eq_true q143
        go_wp2
        repeat (go_quiet (fail); try go_wp2)
        go_ret
        exact ⟨by first | rfl | (simp; done) | (simp [*]; done), by repeat (first | exact Drawn0.refl _ | apply Drawn0.step)⟩
      ·rw [if_neg c6] at H
       exact absurd H (by simp)
     ·rw [if_neg c5] at H
      exact absurd H (by simp)
    ·rw [if_neg c4] at H
     have c4b0 : decide (x5_1 < (l0.length : Int)) = false := decide_eq_false c4
     clear c4
     obtain rfl := Option.some.inj H
     go_wp2
     repeat (go_quiet (fail); try go_wp2)
     go_ret
     exact ⟨by first | rfl | (simp; done) | (simp [*]; done), by repeat (first | exact Drawn0.refl _ | apply Drawn0.step)⟩
 ·rw [if_neg c3] at H
  have c3b0 : ((l0.length : Int) == (l1.length : Int)) = false := beq_eq_false_iff_ne.mpr c3
  have c3b1 : ((l0.length : Int) != (l1.length : Int)) = true := bne_iff_ne.mpr c3
  have c3b2 : (l0.length == l1.length) = false := by first | simpa using c3 | (simp at c3 ⊢; omega)
  obtain rfl := Option.some.inj H
  go_enter Try.func19, Try.ntmps19
  go_wp2
  repeat (go_quiet (fail); try go_wp2)
  go_ret
  exact ⟨by first | rfl | (simp; done) | (simp [*]; done), by repeat (first | exact Drawn0.refl _ | apply Drawn0.step)⟩
end Go.Proofs.Ytihpndignekheaa.F
end

section
namespace Go.Proofs.Ytihpndignekheaa.F
open Go.RowKit Go.Proofs.YtihpndignekheaaW.PrintWords Go.Proofs.YtihpndignekheaaW.PrintLast Go.Proofs.YtihpndignekheaaW.PrintMore
attribute [local go_sem] max2_int min2_int max_two min_two max_three min_three max_four min_four
set_option linter.unusedVariables false
set_option linter.unusedSimpArgs false
def argosylaw14_either.f : Option (List S37) := (plan_Make.f (⟨#[116]⟩ : ByteArray) ([⟨[⟨⟨#[97]⟩, ⟨#[120]⟩, [], false, false, []⟩]⟩, ⟨[⟨⟨#[98]⟩, ⟨#[121]⟩, [], false, false, []⟩]⟩] : List BodyK)).bind fun bt => some bt.1
def Stop3_ (p : Prop) : Prop := p
theorem stop3_ {p : Prop} (h : Stop3_ p) : p := h
theorem rows2_ {W : World} {g : Nat} {A3 A5 : Option Addr} {c3 c5 : Nat} {x y : S79} (hg : W.heap[g]? = some (.cells #[.slice A3 1 c3, .slice A5 1 c5] 82 (0, 0))) (l3 : 1 ≤ c3) (h3 : Kd.C k79 W A3 1 [x]) (l5 : 1 ≤ c5) (h5 : Kd.C k79 W A5 1 [y]) :
  Kd.C k82 W (some ⟨g, 0, none⟩) 2 ([⟨[x]⟩, ⟨[y]⟩] : List S82) := by
 refine ⟨rfl, by omega, fun _ => ⟨_, rfl, fun j p hj => ?_⟩⟩
 match j, hj with
 | 0, hj =>
  obtain rfl := Option.some.inj hj
  refine ⟨[.slice A3 1 c3], rfl, k82_mk W _ l3 h3, fun i u hu => ?_⟩
  match i, hu with
  | 0, hu => obtain rfl := Option.some.inj hu; exact (blk_cell hg 0).trans rfl
 | 1, hj =>
  obtain rfl := Option.some.inj hj
  refine ⟨[.slice A5 1 c5], rfl, k82_mk W _ l5 h5, fun i u hu => ?_⟩
  match i, hu with
  | 0, hu => obtain rfl := Option.some.inj hu; exact (blk_cell hg 1).trans rfl
set_option maxHeartbeats 8000000 in
set_option maxRecDepth 100000 in
theorem argosylaw14_either.calls (r : List S37) (w : World) (h : argosylaw14_either.f = some r) :
  Calls Try.prog 23 #[] w fun e w' => ∃ v0_ : Value, e = .returned (.agg #[v0_]) ∧ Kd.N k37 37 w' w.heap.size (fun k_ => (w.heap.size ≤ k_)) v0_ r ∧ Below w.heap.size w w' := by
 obtain ⟨⟨t1, t2⟩, A1_, H⟩ := Option.bind_eq_some_iff.mp h
 have A1 := Aside0.mk A1_
 obtain rfl := Option.some.inj H
 clear h A1_ H
 have HB := Aside0.mk (Below.refl w.heap.size w)
 have hu := Try.underlying24
 have hu2 := Try.underlying82
 have hu3 := Try.underlying79
 go_enter Try.func23, Try.ntmps23
 go_wp2_with (first
  | ((with_reducible refine gate_dst (N := 0) rfl ?_); refine box_event ?hg (N := 0) ?hd (cs := #[.slice none 0 0]) (t := 24) ?hr ?_; (case hd => rfl); (case hg => rfl); (case hr => first | (go_simp; done) | (go_simp; rfl)); intro g0 hg w2 hbox hb; have K0 := Aside0.mk hbox; have n0_ := Aside0.mk (below_step (by repeat (first | (with_reducible first | exact HB.out | apply pw_below_drewN | apply below_drew1) | exact HB.out)) hb); have G0 := Aside0.mk (by rw [hg]; exact (below_size (by repeat (first | (with_reducible first | exact HB.out | apply pw_below_drewN | apply below_drew1) | exact HB.out))) : w.heap.size ≤ g0); clear HB; have HB := n0_; clear n0_ hbox hb hg)
  | ((with_reducible refine gate_dst (N := 6) rfl ?_); refine Kd.N_lit k79 _ 79 ?hg (N' := 6) ?hd (xs := ([⟨⟨#[97]⟩, ⟨#[120]⟩, [], false, false, []⟩] : List S79)) (inner := [.string ⟨#[97]⟩, .string ⟨#[120]⟩, .slice none 0 0, .bool false, .bool false, .slice none 0 0]) (ok := fun _ => True) (okp := fun _ => True) ?hr ?hp (fun _ hk => hk) trivial (Below.refl _ _) (Nat.le_refl _) (by simp) ?_; (case hd => rfl); (case hg => rfl); (case hr => first | (go_simp; done) | (go_simp; rfl)); (case hp => exact (Reps.c6 (show Kd.FK k79 _ _ (⟨⟨#[97]⟩, ⟨#[120]⟩, [], false, false, []⟩ : S79) [.string ⟨#[97]⟩, .string ⟨#[120]⟩, .slice none 0 0, .bool false, .bool false, .slice none 0 0] from (k79_mkF _ _ (⟨⟨#[97]⟩, ⟨#[120]⟩, [], false, false, []⟩ : S79) (Nat.le_refl _) (Kd.F_nil _ _ _) (Nat.le_refl _) (Kd.F_nil _ _ _))) (Reps.none _ _))); intro v3 w3 ho hb hg_ hnew_; clear hg_ hnew_; obtain ⟨A3, c3, rfl⟩ := Kd.N_slice ho; have C3 := Aside0.mk (Kd.N_reads' ho); have n0_ := Aside0.mk (below_step (by repeat (first | (with_reducible first | exact HB.out | apply pw_below_drewN | apply below_drew1) | exact HB.out)) hb); have n1_ := Aside0.mk (blk_below (g := g0) (o := .cells #[.slice none 0 0] 24 (0, 0)) (by (with_reducible repeat (first | refine blk_drewN ?_ _ | refine blk_drew ?_)); exact K0.out) hb); clear HB K0; have HB := n0_; have K0 := n1_; have HC := Aside0.mk (Below.refl w3.heap.size w3); clear n0_ n1_ ho hb)
  | ((with_reducible refine gate_dst (N := 1) rfl ?_); refine box_event ?hg (N := 1) ?hd (cs := #[.slice none 0 0]) (t := 82) ?hr ?_; (case hd => rfl); (case hg => rfl); (case hr => first | (go_simp; done) | (go_simp; rfl)); intro g1 hg w4 hbox hb; have K1 := Aside0.mk hbox; have n0_ := Aside0.mk (below_step (by repeat (first | (with_reducible first | exact HB.out | apply pw_below_drewN | apply below_drew1) | exact HB.out)) hb); have n1_ := Aside0.mk (below_step (by repeat (first | (with_reducible first | exact HC.out | apply pw_below_drewN | apply below_drew1) | exact HC.out)) hb); have n2_ := Aside0.mk (blk_below (g := g0) (o := .cells #[.slice none 0 0] 24 (0, 0)) (by (with_reducible repeat (first | refine blk_drewN ?_ _ | refine blk_drew ?_)); exact K0.out) hb); have G1 := Aside0.mk (by rw [hg]; exact (below_size (by repeat (first | (with_reducible first | exact HC.out | apply pw_below_drewN | apply below_drew1) | exact HC.out))) : w3.heap.size ≤ g1); have G1' := Aside0.mk (by rw [hg]; exact (below_size (by repeat (first | (with_reducible first | exact HB.out | apply pw_below_drewN | apply below_drew1) | exact HB.out))) : w.heap.size ≤ g1); have N01 := Aside0.mk (by rw [hg]; exact Nat.ne_of_lt (blk_lt (g := g0) (o := .cells #[.slice none 0 0] 24 (0, 0)) (by (with_reducible repeat (first | refine blk_drewN ?_ _ | refine blk_drew ?_)); exact K0.out)) : g0 ≠ g1); clear HB HC K0; have HB := n0_; have HC := n1_; have K0 := n2_; clear n0_ n1_ n2_ hbox hb hg; have hz1 : w4.cell? ⟨g1, 0, none⟩ = some (.slice none 0 0) := (blk_cell K1.out 0).trans rfl; have hf1 := blk_frozen K1.out 0)
  | ((with_reducible refine gate_dst (N := 9) rfl ?_); clear hz1 hf1; refine Kd.N_lit k79 _ 79 ?hg (N' := 9) ?hd (xs := ([⟨⟨#[98]⟩, ⟨#[121]⟩, [], false, false, []⟩] : List S79)) (inner := [.string ⟨#[98]⟩, .string ⟨#[121]⟩, .slice none 0 0, .bool false, .bool false, .slice none 0 0]) (ok := fun _ => True) (okp := fun _ => True) ?hr ?hp (fun _ hk => hk) trivial (Below.refl _ _) (Nat.le_refl _) (by simp) ?_; (case hd => rfl); (case hg => rfl); (case hr => first | (go_simp; done) | (go_simp; rfl)); (case hp => exact (Reps.c6 (show Kd.FK k79 _ _ (⟨⟨#[98]⟩, ⟨#[121]⟩, [], false, false, []⟩ : S79) [.string ⟨#[98]⟩, .string ⟨#[121]⟩, .slice none 0 0, .bool false, .bool false, .slice none 0 0] from (k79_mkF _ _ (⟨⟨#[98]⟩, ⟨#[121]⟩, [], false, false, []⟩ : S79) (Nat.le_refl _) (Kd.F_nil _ _ _) (Nat.le_refl _) (Kd.F_nil _ _ _))) (Reps.none _ _))); intro v5 w5 ho hb hg_ hnew_; clear hg_ hnew_; obtain ⟨A5, c5, rfl⟩ := Kd.N_slice ho; have C5 := Aside0.mk (Kd.N_reads' ho); have n0_ := Aside0.mk (below_step (by repeat (first | (with_reducible first | exact HB.out | apply pw_below_drewN | apply below_drew1 | refine below_set ?_ G1'.out) | exact HB.out)) hb); have n1_ := Aside0.mk (below_step (by repeat (first | (with_reducible first | exact HC.out | apply pw_below_drewN | apply below_drew1 | refine below_set ?_ G1.out) | exact HC.out)) hb); have n2_ := Aside0.mk (blk_below (g := g0) (o := .cells #[.slice none 0 0] 24 (0, 0)) (by (with_reducible repeat (first | refine blk_drewN ?_ _ | refine blk_drew ?_)); refine blk_far ?_ N01.out _; (with_reducible repeat (first | refine blk_drewN ?_ _ | refine blk_drew ?_)); exact K0.out) hb); have n3_ := Aside0.mk (blk_below (g := g1) (o := .cells #[.slice A3 1 c3] 82 (0, 0)) (by (with_reducible repeat (first | refine blk_drewN ?_ _ | refine blk_drew ?_)); refine blk_put (cs := #[.slice none 0 0]) ?_ 0 _ rfl; (with_reducible repeat (first | refine blk_drewN ?_ _ | refine blk_drew ?_)); exact K1.out) hb); clear HB HC K0 K1; have HB := n0_; have HC := n1_; have K0 := n2_; have K1 := n3_; have HD := Aside0.mk (Below.refl w5.heap.size w5); clear n0_ n1_ n2_ n3_ ho hb)
  | ((with_reducible refine gate_dst (N := 2) rfl ?_); refine box_event ?hg (N := 2) ?hd (cs := #[.slice none 0 0]) (t := 82) ?hr ?_; (case hd => rfl); (case hg => rfl); (case hr => first | (go_simp; done) | (go_simp; rfl)); intro g2 hg w6 hbox hb; have K2 := Aside0.mk hbox; have n0_ := Aside0.mk (below_step (by repeat (first | (with_reducible first | exact HB.out | apply pw_below_drewN | apply below_drew1) | exact HB.out)) hb); have n1_ := Aside0.mk (below_step (by repeat (first | (with_reducible first | exact HC.out | apply pw_below_drewN | apply below_drew1) | exact HC.out)) hb); have n4_ := Aside0.mk (below_step (by repeat (first | (with_reducible first | exact HD.out | apply pw_below_drewN | apply below_drew1) | exact HD.out)) hb); have n2_ := Aside0.mk (blk_below (g := g0) (o := .cells #[.slice none 0 0] 24 (0, 0)) (by (with_reducible repeat (first | refine blk_drewN ?_ _ | refine blk_drew ?_)); exact K0.out) hb); have n3_ := Aside0.mk (blk_below (g := g1) (o := .cells #[.slice A3 1 c3] 82 (0, 0)) (by (with_reducible repeat (first | refine blk_drewN ?_ _ | refine blk_drew ?_)); exact K1.out) hb); have G2 := Aside0.mk (by rw [hg]; exact (below_size (by repeat (first | (with_reducible first | exact HD.out | apply pw_below_drewN | apply below_drew1) | exact HD.out))) : w5.heap.size ≤ g2); have G2' := Aside0.mk (by rw [hg]; exact (below_size (by repeat (first | (with_reducible first | exact HB.out | apply pw_below_drewN | apply below_drew1) | exact HB.out))) : w.heap.size ≤ g2); have G2c := Aside0.mk (by rw [hg]; exact (below_size (by repeat (first | (with_reducible first | exact HC.out | apply pw_below_drewN | apply below_drew1) | exact HC.out))) : w3.heap.size ≤ g2); have N02 := Aside0.mk (by rw [hg]; exact Nat.ne_of_lt (blk_lt (g := g0) (o := .cells #[.slice none 0 0] 24 (0, 0)) (by (with_reducible repeat (first | refine blk_drewN ?_ _ | refine blk_drew ?_)); exact K0.out)) : g0 ≠ g2); have N12 := Aside0.mk (by rw [hg]; exact Nat.ne_of_lt (blk_lt (g := g1) (o := .cells #[.slice A3 1 c3] 82 (0, 0)) (by (with_reducible repeat (first | refine blk_drewN ?_ _ | refine blk_drew ?_)); exact K1.out)) : g1 ≠ g2); clear HB HC HD K0 K1; have HB := n0_; have HC := n1_; have HD := n4_; have K0 := n2_; have K1 := n3_; clear n0_ n1_ n2_ n3_ n4_ hbox hb hg; have hz2 : w6.cell? ⟨g2, 0, none⟩ = some (.slice none 0 0) := (blk_cell K2.out 0).trans rfl; have hf2 := blk_frozen K2.out 0; have hz1 : w6.cell? ⟨g1, 0, none⟩ = some (.slice A3 1 c3) := (blk_cell K1.out 0).trans rfl; have hn12 := N12.out; have hn21 := N12.out.symm)
  | (go_at_call 33; refine stop3_ ?_))
 unfold Stop3_
 have hBW := below_alloc (below_set HB.out G2'.out (v := .slice A5 1 c5) (j := 0)) (.cells #[.slice A3 1 c3, .slice A5 1 c5] 82 (0, 0))
 have hCW := below_alloc (below_set HC.out G2c.out (v := .slice A5 1 c5) (j := 0)) (.cells #[.slice A3 1 c3, .slice A5 1 c5] 82 (0, 0))
 have hDW := below_alloc (below_set HD.out G2.out (v := .slice A5 1 c5) (j := 0)) (.cells #[.slice A3 1 c3, .slice A5 1 c5] 82 (0, 0))
 have hKW : (((w6.setCell ⟨g2, 0, none⟩ (.slice A5 1 c5)).alloc (.cells #[.slice A3 1 c3, .slice A5 1 c5] 82 (0, 0))).heap[g0]?) = some (.cells #[.slice none 0 0] 24 (0, 0)) := blk_alloc (blk_far K0.out N02.out _) _
 refine (plan_Make.calls (⟨#[116]⟩ : ByteArray) _ _ ([⟨[⟨⟨#[97]⟩, ⟨#[120]⟩, [], false, false, []⟩]⟩, ⟨[⟨⟨#[98]⟩, ⟨#[121]⟩, [], false, false, []⟩]⟩] : List BodyK) t1 t2 _ (rows2_ (by have h_ := blk_new (w6.setCell ⟨g2, 0, none⟩ (.slice A5 1 c5)) (.cells #[.slice A3 1 c3, .slice A5 1 c5] 82 (0, 0)); rwa [World.size_setCell] at h_) C3.out.2.1 (Kd.C_below C3.out.2.2 hCW) C5.out.2.1 (Kd.C_below C5.out.2.2 hDW)) (Nat.le_refl _) A1.out).mono ?_
 rintro e w7 ⟨v7, rfl, ho, hb⟩
 have HB7 := Aside0.mk (hBW.trans (hb.mono hBW.size))
 have K7 := Aside0.mk (blk_below hKW hb)
 have G7 := Aside0.mk (blk_lt K7.out)
 obtain ⟨A7, c7, rfl⟩ := Kd.N_slice ho
 have HN := Aside0.mk (Kd.N_lower (Kd.N_mono (ok' := fun k_ => w.heap.size ≤ k_ ∧ k_ ≠ g0) ho (fun k_ hk_ => ⟨Nat.le_trans hBW.size hk_, fun e => by have := blk_lt hKW; omega⟩)) hBW.size)
 clear hBW hCW hDW hKW hb ho hz1 hz2 hf2 hn12 hn21
 go_wp2_with ((with_reducible refine gate_dst (N := 3) rfl ?_); refine stop3_ ?_)
 unfold Stop3_
 refine box_event ?hg (N := 3) ?hd (cs := #[.slice none 0 0]) (t := 24) ?hr ?_
 (case hd => rfl)
 (case hg => rfl)
 (case hr => first | (go_simp; done) | (go_simp; rfl))
 intro g3 hg w8 hbox hb
 have K8 := Aside0.mk (blk_below K7.out hb)
 have K3 := Aside0.mk hbox
 have HB8 := Aside0.mk (below_step HB7.out hb)
 have G3 : Aside0 (w.heap.size ≤ g3) := ⟨by rw [hg]; exact HB7.out.size⟩
 have HN8 := Aside0.mk (Kd.N_below (Kd.N_elderB HN.out g3 (Nat.le_of_eq hg.symm)) hb)
 have hn0 : g0 ≠ g3 := by rw [hg]; exact Nat.ne_of_lt G7.out
 have hn0' : g3 ≠ g0 := hn0.symm
 have NB := Aside0.mk hn0
 clear hbox hb hg
 have hz3 : w8.cell? ⟨g3, 0, none⟩ = some (.slice none 0 0) := (blk_cell K3.out 0).trans rfl
 have hf3 := blk_frozen K3.out 0
 have hz0 : w8.cell? ⟨g0, 0, none⟩ = some (.slice none 0 0) := (blk_cell K8.out 0).trans rfl
 have hf0 := blk_frozen K8.out 0
 go_wp2
 refine bodyPost_ret (results_cell_row rfl _ _ g0 24 #[.slice A7 t1.length c7] (0, 0) _ rfl (by (with_reducible repeat (first | refine blk_drewN ?_ _ | refine blk_drew ?_ | refine blk_alloc ?_ _)); refine blk_put (cs := #[.slice none 0 0]) ?_ 0 _ rfl; (with_reducible repeat (first | refine blk_drewN ?_ _ | refine blk_drew ?_ | refine blk_alloc ?_ _)); refine blk_far ?_ NB.out _; (with_reducible repeat (first | refine blk_drewN ?_ _ | refine blk_drew ?_ | refine blk_alloc ?_ _)); exact K8.out) Try.underlying24 rfl (by kernel_rfl)) rfl ?_
 exact ⟨_, rfl, by (with_reducible repeat (first | apply Kd.N_alloc | apply Kd.N_drewN | apply Kd.N_drew)); exact Kd.N_mono (Kd.N_far (p := ⟨g0, 0, none⟩) (Kd.N_far (p := ⟨g3, 0, none⟩) (Kd.N_mono HN8.out (fun k_ hk => (⟨hk.1, hk.2⟩ : _ ∧ k_ ≠ g3))) (fun k_ hk => hk.2) (.slice A7 t1.length c7)) (fun _ hk => hk.1.2) (.slice A7 t1.length c7)) (fun _ hk => hk.1.1), by repeat (first | (with_reducible first | exact HB8.out | apply below_alloc | apply pw_below_drewN | apply below_drew1 | refine below_set ?_ G0.out | refine below_set ?_ G3.out) | exact HB8.out)⟩
end Go.Proofs.Ytihpndignekheaa.F
end

section
namespace Go.Proofs.Ytihpndignekheaa.F
open Go.RowKit Go.Proofs.YtihpndignekheaaW.PrintWords Go.Proofs.YtihpndignekheaaW.PrintLast Go.Proofs.YtihpndignekheaaW.PrintMore
attribute [local go_sem] max2_int min2_int max_two min_two max_three min_three max_four min_four
set_option linter.unusedVariables false
set_option linter.unusedSimpArgs false
def argosylaw14_lives.f (k : Nat)  : Option (Bool) := (argosylaw14_either.f).bind fun t144 => (if 3 ≤ 8796093022208 then ((some (List.replicate 3 z59 : List (S59))).bind fun y148 => ((some (([(⟨0, 0, 0, false⟩ : S59), (⟨3, 0, 0, false⟩ : S59), (⟨0, 0, 0, false⟩ : S59)] : List (S59)) : List (S59))).bind fun y151 => ((state_All.f t144 y148).bind fun bt160 => ((state_All.f t144 y151).bind fun bt164 => ((argosylaw14_is.f k bt160.1 (([0, 0, 0] : List Int))).bind fun t171 => (if t171 = true then (if bt160.2 = 0 then ((argosylaw14_is.f k bt164.1 (([1, 3, 0] : List Int))).bind fun t175 => (if t175 = true then (if bt164.2 = 0 then ((state_At.f t144 y151 0).bind fun t176 => (if t176 = 1 then ((state_Verdict.f t144 (([(⟨0, 0, 0, false⟩ : S59), (⟨3, 0, 0, false⟩ : S59), (⟨3, 0, 0, false⟩ : S59)] : List (S59)))).bind fun t177 => (if t177 = 3 then ((state_Verdict.f t144 (([(⟨0, 0, 0, false⟩ : S59), (⟨3, 0, 0, false⟩ : S59), (⟨2, 0, 0, false⟩ : S59)] : List (S59)))).bind fun t178 => (if t178 = 2 then ((state_Verdict.f t144 y148).bind fun t179 => (if t179 = 1 then ((state_Falling.f t144 y151 0 0).bind fun t180 => (some t180)) else (some false))) else (some false))) else (some false))) else (some false))) else (some false)) else (some false))) else (some false)) else (some false))))))) else (none))
theorem argosylaw14_lives.mono : ∀ k, LeO (argosylaw14_lives.f k ) (argosylaw14_lives.f (k + 1) ) := by
 intro  k
 unfold argosylaw14_lives.f
 repeat' first
   | (with_reducible exact argosylaw14_is.mono _ _ _)
   | (with_reducible exact LeO.refl _)
   | (with_reducible exact LeO.none _)
   | (with_reducible refine LeO.ite ?_ ?_)
   | (with_reducible refine LeO.bind ?_ (fun _ => ?_))
   | exact argosylaw14_is.mono _ _ _
   | exact LeO.none _
   | refine LeO.ite ?_ ?_
   | refine LeO.bind ?_ (fun _ => ?_)
set_option maxHeartbeats 8000000 in
set_option maxRecDepth 100000 in
theorem argosylaw14_lives.calls_ (k : Nat)  (r : Bool) (w : World) (hr0 : r = true) (h : argosylaw14_lives.f k  = some r) :
  Calls Try.prog 8 #[] w fun e w' => e = .returned (.bool r) ∧ Below w.heap.size w w' := by
 have HR0 := Aside0.mk hr0
 clear hr0
 have hu24 := Try.underlying24
 have hu59 := Try.underlying59
 have HB := Aside0.mk (Below.refl w.heap.size w)
 have H : ((argosylaw14_either.f).bind fun t144 => (if 3 ≤ 8796093022208 then ((some (List.replicate 3 z59 : List (S59))).bind fun y148 => ((some (([(⟨0, 0, 0, false⟩ : S59), (⟨3, 0, 0, false⟩ : S59), (⟨0, 0, 0, false⟩ : S59)] : List (S59)) : List (S59))).bind fun y151 => ((state_All.f t144 y148).bind fun bt160 => ((state_All.f t144 y151).bind fun bt164 => ((argosylaw14_is.f k bt160.1 (([0, 0, 0] : List Int))).bind fun t171 => (if t171 = true then (if bt160.2 = 0 then ((argosylaw14_is.f k bt164.1 (([1, 3, 0] : List Int))).bind fun t175 => (if t175 = true then (if bt164.2 = 0 then ((state_At.f t144 y151 0).bind fun t176 => (if t176 = 1 then ((state_Verdict.f t144 (([(⟨0, 0, 0, false⟩ : S59), (⟨3, 0, 0, false⟩ : S59), (⟨3, 0, 0, false⟩ : S59)] : List (S59)))).bind fun t177 => (if t177 = 3 then ((state_Verdict.f t144 (([(⟨0, 0, 0, false⟩ : S59), (⟨3, 0, 0, false⟩ : S59), (⟨2, 0, 0, false⟩ : S59)] : List (S59)))).bind fun t178 => (if t178 = 2 then ((state_Verdict.f t144 y148).bind fun t179 => (if t179 = 1 then ((state_Falling.f t144 y151 0 0).bind fun t180 => (some t180)) else (some false))) else (some false))) else (some false))) else (some false))) else (some false)) else (some false))) else (some false)) else (some false))))))) else (none))) = some r := h
 clear h
 replace H := Option.bind_eq_some_iff.mp H
 obtain ⟨t144, A10, H⟩ := H
 replace H : (if 3 ≤ 8796093022208 then ((some (List.replicate 3 z59 : List (S59))).bind fun y148 => ((some (([(⟨0, 0, 0, false⟩ : S59), (⟨3, 0, 0, false⟩ : S59), (⟨0, 0, 0, false⟩ : S59)] : List (S59)) : List (S59))).bind fun y151 => ((state_All.f t144 y148).bind fun bt160 => ((state_All.f t144 y151).bind fun bt164 => ((argosylaw14_is.f k bt160.1 (([0, 0, 0] : List Int))).bind fun t171 => (if t171 = true then (if bt160.2 = 0 then ((argosylaw14_is.f k bt164.1 (([1, 3, 0] : List Int))).bind fun t175 => (if t175 = true then (if bt164.2 = 0 then ((state_At.f t144 y151 0).bind fun t176 => (if t176 = 1 then ((state_Verdict.f t144 (([(⟨0, 0, 0, false⟩ : S59), (⟨3, 0, 0, false⟩ : S59), (⟨3, 0, 0, false⟩ : S59)] : List (S59)))).bind fun t177 => (if t177 = 3 then ((state_Verdict.f t144 (([(⟨0, 0, 0, false⟩ : S59), (⟨3, 0, 0, false⟩ : S59), (⟨2, 0, 0, false⟩ : S59)] : List (S59)))).bind fun t178 => (if t178 = 2 then ((state_Verdict.f t144 y148).bind fun t179 => (if t179 = 1 then ((state_Falling.f t144 y151 0 0).bind fun t180 => (some t180)) else (some false))) else (some false))) else (some false))) else (some false))) else (some false)) else (some false))) else (some false)) else (some false))))))) else (none)) = some r := H
 have A1 := Aside0.mk A10
 clear A10
 by_cases c2 : 3 ≤ 8796093022208
 ·rw [if_pos c2] at H
  have c2b0 := eq_true c2
  have c2b1 : decide (3 ≤ 8796093022208) = true := decide_eq_true c2
  clear c2
  obtain ⟨y148, hy148⟩ : ∃ y_ : List (S59), y_ = (List.replicate 3 z59) := ⟨_, rfl⟩
  replace H : ((some (([(⟨0, 0, 0, false⟩ : S59), (⟨3, 0, 0, false⟩ : S59), (⟨0, 0, 0, false⟩ : S59)] : List (S59)) : List (S59))).bind fun y151 => ((state_All.f t144 y148).bind fun bt160 => ((state_All.f t144 y151).bind fun bt164 => ((argosylaw14_is.f k bt160.1 (([0, 0, 0] : List Int))).bind fun t171 => (if t171 = true then (if bt160.2 = 0 then ((argosylaw14_is.f k bt164.1 (([1, 3, 0] : List Int))).bind fun t175 => (if t175 = true then (if bt164.2 = 0 then ((state_At.f t144 y151 0).bind fun t176 => (if t176 = 1 then ((state_Verdict.f t144 (([(⟨0, 0, 0, false⟩ : S59), (⟨3, 0, 0, false⟩ : S59), (⟨3, 0, 0, false⟩ : S59)] : List (S59)))).bind fun t177 => (if t177 = 3 then ((state_Verdict.f t144 (([(⟨0, 0, 0, false⟩ : S59), (⟨3, 0, 0, false⟩ : S59), (⟨2, 0, 0, false⟩ : S59)] : List (S59)))).bind fun t178 => (if t178 = 2 then ((state_Verdict.f t144 y148).bind fun t179 => (if t179 = 1 then ((state_Falling.f t144 y151 0 0).bind fun t180 => (some t180)) else (some false))) else (some false))) else (some false))) else (some false))) else (some false)) else (some false))) else (some false)) else (some false)))))) = some r := by first | (rw [hy148]; with_reducible exact H) | (have H2_ := (Option.bind_some _ _).symm.trans H; rw [hy148]; with_reducible exact H2_) | (have H2_ := (Option.bind_some _ _).symm.trans H; with_reducible exact H2_) | with_reducible exact H | (rw [hy148]; exact H) | exact H
  have Ny148 := Aside0.mk hy148
  clear hy148
  obtain ⟨y151, hy151⟩ : ∃ y_ : List (S59), y_ = (([(⟨0, 0, 0, false⟩ : S59), (⟨3, 0, 0, false⟩ : S59), (⟨0, 0, 0, false⟩ : S59)] : List (S59))) := ⟨_, rfl⟩
  replace H : ((state_All.f t144 y148).bind fun bt160 => ((state_All.f t144 y151).bind fun bt164 => ((argosylaw14_is.f k bt160.1 (([0, 0, 0] : List Int))).bind fun t171 => (if t171 = true then (if bt160.2 = 0 then ((argosylaw14_is.f k bt164.1 (([1, 3, 0] : List Int))).bind fun t175 => (if t175 = true then (if bt164.2 = 0 then ((state_At.f t144 y151 0).bind fun t176 => (if t176 = 1 then ((state_Verdict.f t144 (([(⟨0, 0, 0, false⟩ : S59), (⟨3, 0, 0, false⟩ : S59), (⟨3, 0, 0, false⟩ : S59)] : List (S59)))).bind fun t177 => (if t177 = 3 then ((state_Verdict.f t144 (([(⟨0, 0, 0, false⟩ : S59), (⟨3, 0, 0, false⟩ : S59), (⟨2, 0, 0, false⟩ : S59)] : List (S59)))).bind fun t178 => (if t178 = 2 then ((state_Verdict.f t144 y148).bind fun t179 => (if t179 = 1 then ((state_Falling.f t144 y151 0 0).bind fun t180 => (some t180)) else (some false))) else (some false))) else (some false))) else (some false))) else (some false)) else (some false))) else (some false)) else (some false))))) = some r := by first | (rw [hy151]; with_reducible exact H) | (have H2_ := (Option.bind_some _ _).symm.trans H; rw [hy151]; with_reducible exact H2_) | (have H2_ := (Option.bind_some _ _).symm.trans H; with_reducible exact H2_) | with_reducible exact H | (rw [hy151]; exact H) | exact H
  have Ny151 := Aside0.mk hy151
  clear hy151
  obtain ⟨y154, hy154⟩ : ∃ y_ : List (S59), y_ = (([(⟨0, 0, 0, false⟩ : S59), (⟨3, 0, 0, false⟩ : S59), (⟨3, 0, 0, false⟩ : S59)] : List (S59))) := ⟨_, rfl⟩
  replace H : ((state_All.f t144 y148).bind fun bt160 => ((state_All.f t144 y151).bind fun bt164 => ((argosylaw14_is.f k bt160.1 (([0, 0, 0] : List Int))).bind fun t171 => (if t171 = true then (if bt160.2 = 0 then ((argosylaw14_is.f k bt164.1 (([1, 3, 0] : List Int))).bind fun t175 => (if t175 = true then (if bt164.2 = 0 then ((state_At.f t144 y151 0).bind fun t176 => (if t176 = 1 then ((state_Verdict.f t144 y154).bind fun t177 => (if t177 = 3 then ((state_Verdict.f t144 (([(⟨0, 0, 0, false⟩ : S59), (⟨3, 0, 0, false⟩ : S59), (⟨2, 0, 0, false⟩ : S59)] : List (S59)))).bind fun t178 => (if t178 = 2 then ((state_Verdict.f t144 y148).bind fun t179 => (if t179 = 1 then ((state_Falling.f t144 y151 0 0).bind fun t180 => (some t180)) else (some false))) else (some false))) else (some false))) else (some false))) else (some false)) else (some false))) else (some false)) else (some false))))) = some r := by first | (rw [hy154]; with_reducible exact H) | (have H2_ := (Option.bind_some _ _).symm.trans H; rw [hy154]; with_reducible exact H2_) | (have H2_ := (Option.bind_some _ _).symm.trans H; with_reducible exact H2_) | with_reducible exact H | (rw [hy154]; exact H) | exact H
  have Ny154 := Aside0.mk hy154
  clear hy154
  obtain ⟨y157, hy157⟩ : ∃ y_ : List (S59), y_ = (([(⟨0, 0, 0, false⟩ : S59), (⟨3, 0, 0, false⟩ : S59), (⟨2, 0, 0, false⟩ : S59)] : List (S59))) := ⟨_, rfl⟩
  replace H : ((state_All.f t144 y148).bind fun bt160 => ((state_All.f t144 y151).bind fun bt164 => ((argosylaw14_is.f k bt160.1 (([0, 0, 0] : List Int))).bind fun t171 => (if t171 = true then (if bt160.2 = 0 then ((argosylaw14_is.f k bt164.1 (([1, 3, 0] : List Int))).bind fun t175 => (if t175 = true then (if bt164.2 = 0 then ((state_At.f t144 y151 0).bind fun t176 => (if t176 = 1 then ((state_Verdict.f t144 y154).bind fun t177 => (if t177 = 3 then ((state_Verdict.f t144 y157).bind fun t178 => (if t178 = 2 then ((state_Verdict.f t144 y148).bind fun t179 => (if t179 = 1 then ((state_Falling.f t144 y151 0 0).bind fun t180 => (some t180)) else (some false))) else (some false))) else (some false))) else (some false))) else (some false)) else (some false))) else (some false)) else (some false))))) = some r := by first | (rw [hy157]; with_reducible exact H) | (have H2_ := (Option.bind_some _ _).symm.trans H; rw [hy157]; with_reducible exact H2_) | (have H2_ := (Option.bind_some _ _).symm.trans H; with_reducible exact H2_) | with_reducible exact H | (rw [hy157]; exact H) | exact H
  have Ny157 := Aside0.mk hy157
  clear hy157
  replace H := Option.bind_eq_some_iff.mp H
  obtain ⟨⟨t160, t163⟩, A30, H⟩ := H
  replace H : ((state_All.f t144 y151).bind fun bt164 => ((argosylaw14_is.f k t160 (([0, 0, 0] : List Int))).bind fun t171 => (if t171 = true then (if t163 = 0 then ((argosylaw14_is.f k bt164.1 (([1, 3, 0] : List Int))).bind fun t175 => (if t175 = true then (if bt164.2 = 0 then ((state_At.f t144 y151 0).bind fun t176 => (if t176 = 1 then ((state_Verdict.f t144 y154).bind fun t177 => (if t177 = 3 then ((state_Verdict.f t144 y157).bind fun t178 => (if t178 = 2 then ((state_Verdict.f t144 y148).bind fun t179 => (if t179 = 1 then ((state_Falling.f t144 y151 0 0).bind fun t180 => (some t180)) else (some false))) else (some false))) else (some false))) else (some false))) else (some false)) else (some false))) else (some false)) else (some false)))) = some r := H
  have A3 := Aside0.mk A30
  clear A30
  replace H := Option.bind_eq_some_iff.mp H
  obtain ⟨⟨t164, t167⟩, A40, H⟩ := H
  replace H : ((argosylaw14_is.f k t160 (([0, 0, 0] : List Int))).bind fun t171 => (if t171 = true then (if t163 = 0 then ((argosylaw14_is.f k t164 (([1, 3, 0] : List Int))).bind fun t175 => (if t175 = true then (if t167 = 0 then ((state_At.f t144 y151 0).bind fun t176 => (if t176 = 1 then ((state_Verdict.f t144 y154).bind fun t177 => (if t177 = 3 then ((state_Verdict.f t144 y157).bind fun t178 => (if t178 = 2 then ((state_Verdict.f t144 y148).bind fun t179 => (if t179 = 1 then ((state_Falling.f t144 y151 0 0).bind fun t180 => (some t180)) else (some false))) else (some false))) else (some false))) else (some false))) else (some false)) else (some false))) else (some false)) else (some false))) = some r := H
  have A4 := Aside0.mk A40
  clear A40
  obtain ⟨y168, hy168⟩ : ∃ y_ : List Int, y_ = (([0, 0, 0] : List Int)) := ⟨_, rfl⟩
  replace H : ((argosylaw14_is.f k t160 y168).bind fun t171 => (if t171 = true then (if t163 = 0 then ((argosylaw14_is.f k t164 (([1, 3, 0] : List Int))).bind fun t175 => (if t175 = true then (if t167 = 0 then ((state_At.f t144 y151 0).bind fun t176 => (if t176 = 1 then ((state_Verdict.f t144 y154).bind fun t177 => (if t177 = 3 then ((state_Verdict.f t144 y157).bind fun t178 => (if t178 = 2 then ((state_Verdict.f t144 y148).bind fun t179 => (if t179 = 1 then ((state_Falling.f t144 y151 0 0).bind fun t180 => (some t180)) else (some false))) else (some false))) else (some false))) else (some false))) else (some false)) else (some false))) else (some false)) else (some false))) = some r := by first | (rw [hy168]; with_reducible exact H) | (have H2_ := (Option.bind_some _ _).symm.trans H; rw [hy168]; with_reducible exact H2_) | (have H2_ := (Option.bind_some _ _).symm.trans H; with_reducible exact H2_) | with_reducible exact H | (rw [hy168]; exact H) | exact H
  have Ny168 := Aside0.mk hy168
  clear hy168
  replace H := Option.bind_eq_some_iff.mp H
  obtain ⟨t171, A50, H⟩ := H
  replace H : (if t171 = true then (if t163 = 0 then ((argosylaw14_is.f k t164 (([1, 3, 0] : List Int))).bind fun t175 => (if t175 = true then (if t167 = 0 then ((state_At.f t144 y151 0).bind fun t176 => (if t176 = 1 then ((state_Verdict.f t144 y154).bind fun t177 => (if t177 = 3 then ((state_Verdict.f t144 y157).bind fun t178 => (if t178 = 2 then ((state_Verdict.f t144 y148).bind fun t179 => (if t179 = 1 then ((state_Falling.f t144 y151 0 0).bind fun t180 => (some t180)) else (some false))) else (some false))) else (some false))) else (some false))) else (some false)) else (some false))) else (some false)) else (some false)) = some r := H
  have A5 := Aside0.mk A50
  clear A50
  by_cases c6 : t171 = true
  ·subst c6
   have H1 : (if t163 = 0 then ((argosylaw14_is.f k t164 (([1, 3, 0] : List Int))).bind fun t175 => (if t175 = true then (if t167 = 0 then ((state_At.f t144 y151 0).bind fun t176 => (if t176 = 1 then ((state_Verdict.f t144 y154).bind fun t177 => (if t177 = 3 then ((state_Verdict.f t144 y157).bind fun t178 => (if t178 = 2 then ((state_Verdict.f t144 y148).bind fun t179 => (if t179 = 1 then ((state_Falling.f t144 y151 0 0).bind fun t180 => (some t180)) else (some false))) else (some false))) else (some false))) else (some false))) else (some false)) else (some false))) else (some false)) = some r := by rw [if_pos rfl] at H; exact H
   clear H
   have H := H1
   clear H1
   by_cases c7 : t163 = 0
   ·rw [if_pos c7] at H
    have c7b0 : (t163 == 0) = true := beq_iff_eq.mpr c7
    have c7b1 : (t163 != 0) = false := bne_eq_false_iff_eq.mpr c7
    clear c7
    obtain ⟨y172, hy172⟩ : ∃ y_ : List Int, y_ = (([1, 3, 0] : List Int)) := ⟨_, rfl⟩
    replace H : ((argosylaw14_is.f k t164 y172).bind fun t175 => (if t175 = true then (if t167 = 0 then ((state_At.f t144 y151 0).bind fun t176 => (if t176 = 1 then ((state_Verdict.f t144 y154).bind fun t177 => (if t177 = 3 then ((state_Verdict.f t144 y157).bind fun t178 => (if t178 = 2 then ((state_Verdict.f t144 y148).bind fun t179 => (if t179 = 1 then ((state_Falling.f t144 y151 0 0).bind fun t180 => (some t180)) else (some false))) else (some false))) else (some false))) else (some false))) else (some false)) else (some false))) = some r := by first | (rw [hy172]; with_reducible exact H) | (have H2_ := (Option.bind_some _ _).symm.trans H; rw [hy172]; with_reducible exact H2_) | (have H2_ := (Option.bind_some _ _).symm.trans H; with_reducible exact H2_) | with_reducible exact H | (rw [hy172]; exact H) | exact H
    have Ny172 := Aside0.mk hy172
    clear hy172
    replace H := Option.bind_eq_some_iff.mp H
    obtain ⟨t175, A80, H⟩ := H
    replace H : (if t175 = true then (if t167 = 0 then ((state_At.f t144 y151 0).bind fun t176 => (if t176 = 1 then ((state_Verdict.f t144 y154).bind fun t177 => (if t177 = 3 then ((state_Verdict.f t144 y157).bind fun t178 => (if t178 = 2 then ((state_Verdict.f t144 y148).bind fun t179 => (if t179 = 1 then ((state_Falling.f t144 y151 0 0).bind fun t180 => (some t180)) else (some false))) else (some false))) else (some false))) else (some false))) else (some false)) else (some false)) = some r := H
    have A8 := Aside0.mk A80
    clear A80
    by_cases c9 : t175 = true
    ·subst c9
     have H1 : (if t167 = 0 then ((state_At.f t144 y151 0).bind fun t176 => (if t176 = 1 then ((state_Verdict.f t144 y154).bind fun t177 => (if t177 = 3 then ((state_Verdict.f t144 y157).bind fun t178 => (if t178 = 2 then ((state_Verdict.f t144 y148).bind fun t179 => (if t179 = 1 then ((state_Falling.f t144 y151 0 0).bind fun t180 => (some t180)) else (some false))) else (some false))) else (some false))) else (some false))) else (some false)) = some r := by rw [if_pos rfl] at H; exact H
     clear H
     have H := H1
     clear H1
     by_cases c10 : t167 = 0
     ·rw [if_pos c10] at H
      have c10b0 : (t167 == 0) = true := beq_iff_eq.mpr c10
      have c10b1 : (t167 != 0) = false := bne_eq_false_iff_eq.mpr c10
      clear c10
      replace H := Option.bind_eq_some_iff.mp H
      obtain ⟨t176, A110, H⟩ := H
      replace H : (if t176 = 1 then ((state_Verdict.f t144 y154).bind fun t177 => (if t177 = 3 then ((state_Verdict.f t144 y157).bind fun t178 => (if t178 = 2 then ((state_Verdict.f t144 y148).bind fun t179 => (if t179 = 1 then ((state_Falling.f t144 y151 0 0).bind fun t180 => (some t180)) else (some false))) else (some false))) else (some false))) else (some false)) = some r := H
      have A11 := Aside0.mk A110
      clear A110
      by_cases c12 : t176 = 1
      ·rw [if_pos c12] at H
       have c12b0 : (t176 == 1) = true := beq_iff_eq.mpr c12
       have c12b1 : (t176 != 1) = false := bne_eq_false_iff_eq.mpr c12
       clear c12
       replace H := Option.bind_eq_some_iff.mp H
       obtain ⟨t177, A130, H⟩ := H
       replace H : (if t177 = 3 then ((state_Verdict.f t144 y157).bind fun t178 => (if t178 = 2 then ((state_Verdict.f t144 y148).bind fun t179 => (if t179 = 1 then ((state_Falling.f t144 y151 0 0).bind fun t180 => (some t180)) else (some false))) else (some false))) else (some false)) = some r := H
       have A13 := Aside0.mk A130
       clear A130
       by_cases c14 : t177 = 3
       ·rw [if_pos c14] at H
        have c14b0 : (t177 == 3) = true := beq_iff_eq.mpr c14
        have c14b1 : (t177 != 3) = false := bne_eq_false_iff_eq.mpr c14
        clear c14
        replace H := Option.bind_eq_some_iff.mp H
        obtain ⟨t178, A150, H⟩ := H
        replace H : (if t178 = 2 then ((state_Verdict.f t144 y148).bind fun t179 => (if t179 = 1 then ((state_Falling.f t144 y151 0 0).bind fun t180 => (some t180)) else (some false))) else (some false)) = some r := H
        have A15 := Aside0.mk A150
        clear A150
        by_cases c16 : t178 = 2
        ·rw [if_pos c16] at H
         have c16b0 : (t178 == 2) = true := beq_iff_eq.mpr c16
         have c16b1 : (t178 != 2) = false := bne_eq_false_iff_eq.mpr c16
         clear c16
         replace H := Option.bind_eq_some_iff.mp H
         obtain ⟨t179, A170, H⟩ := H
         replace H : (if t179 = 1 then ((state_Falling.f t144 y151 0 0).bind fun t180 => (some t180)) else (some false)) = some r := H
         have A17 := Aside0.mk A170
         clear A170
         by_cases c18 : t179 = 1
         ·rw [if_pos c18] at H
          have c18b0 : (t179 == 1) = true := beq_iff_eq.mpr c18
          have c18b1 : (t179 != 1) = false := bne_eq_false_iff_eq.mpr c18
          clear c18
          replace H := Option.bind_eq_some_iff.mp H
          obtain ⟨t180, A190, H⟩ := H
          replace H : (some t180) = some r := H
          have A19 := Aside0.mk A190
          clear A190
          obtain rfl := Option.some.inj H
          go_enter Try.func8, Try.ntmps8
          go_wp2_with (first | ((with_reducible refine gate_callee (f := 23) rfl ?_); refine goesL_ (some 10) rfl rfl Try.func23 (by kernel_rfl) rfl #[] rfl (by (try simp only [List.map_toArray, List.map_cons, List.map_nil]); first | done | rfl | (simp only [List.length_drop, List.length_take]; rfl)) ?_; (with_reducible refine (argosylaw14_either.calls  t144 _ A1.out).mono ?_); rintro e w20 ⟨v145, rfl, ho0, hb⟩; refine ⟨_, rfl, ?_⟩; have n0_ := Aside0.mk (Kd.N_lower (Kd.N_mono (ok' := fun k_ => True) ho0 (fun k_ hk_ => trivial)) (below_size (by repeat (first | (with_reducible first | exact HB.out | apply below_alloc | apply pw_below_drewN | apply below_drew1) | exact HB.out)))); have n1_ := Aside0.mk (below_step (by repeat (first | (with_reducible first | exact HB.out | apply below_alloc | apply pw_below_drewN | apply below_drew1) | exact HB.out)) hb); clear HB; have HO146 := n0_; have HB := n1_; clear n0_ n1_; (try clear hb); (try clear hb2); (try clear hk); (try clear hi); (try clear ho0)) | ((with_reducible refine gate_dst (N := 1) rfl ?_); (try (refine gate_guard (by rfl) ?_; dsimp only)); refine box_event ?hg (N := 1) ?hd (cs := #[.slice none 0 0]) (t := 24) ?hr ?_; (case hd => rfl); (case hg => rfl); (case hr => first | (go_simp; done) | (go_simp; rfl)); intro gb147 hg w21 hbox hb; have n0_ := Aside0.mk (Kd.N_below (Kd.N_elderB (by (with_reducible repeat (first | apply Kd.N_alloc | apply Kd.N_drewN | apply Kd.N_drew)); exact HO146.out) gb147 (Nat.le_of_eq hg.symm)) hb); have n1_ := Aside0.mk (below_step (by repeat (first | (with_reducible first | exact HB.out | apply below_alloc | apply pw_below_drewN | apply below_drew1) | exact HB.out)) hb); have n2_ := Aside0.mk (hbox); have n3_ := Aside0.mk ((by rw [hg]; exact (below_size (by repeat (first | (with_reducible first | exact HB.out | apply below_alloc | apply pw_below_drewN | apply below_drew1) | exact HB.out))) : w.heap.size ≤ gb147)); have n4_ := Aside0.mk ((by rw [hg]; exact (below_size (by repeat (first | (with_reducible first | exact HB.out | apply below_alloc | apply pw_below_drewN | apply below_drew1) | exact HB.out))) : w.heap.size ≤ gb147)); clear HO146; clear HB; have HO146 := n0_; have HB := n1_; have BK147 := n2_; have GW147 := n3_; have GE147 := n4_; clear n0_ n1_ n2_ n3_ n4_; clear hb hbox hg; obtain ⟨Ao22, co22, eo22⟩ := Kd.N_slice HO146.out; subst eo22; have hcz23_0 : w21.cell? ⟨gb147, 0, none⟩ = some (.slice none 0 0) := (blk_cell BK147.out 0).trans rfl; have hfz23_0 := blk_frozen BK147.out 0) | ((with_reducible refine gate_dst (N := 11) rfl ?_); (try (refine gate_guard (by rfl) ?_; dsimp only)); refine Kd.R_make k59 _ 59 rfl (N := 11) rfl 25 _ _ rfl 3 rfl rfl Try.underlying25 (.agg #[(.int .i64 0), (.int .i64 0), (.int .i64 0), (.bool false)]) 32 info59 rfl (by decide) (by omega) z59 (ok := fun _ => True) (okp := fun _ => True) (k59_mkM _ _ _ z59 ) (fun _ hk => hk) trivial (by omega) (by omega) (Below.refl _ _) (Nat.le_refl _) ?_; intro v149 w24 ho25 hb hg_ hnew_; clear hg_ hnew_; (first | rw [← Ny148.out] at ho25 | (simp only [Int.reduceToNat] at ho25; rw [← Ny148.out] at ho25)); have n0_ := Aside0.mk (Kd.N_elder' (by (with_reducible repeat (first | apply Kd.N_alloc | apply Kd.N_drewN | apply Kd.N_drew)); exact (Kd.N_mono (Kd.N_far (p := ⟨gb147, 0, none⟩) (Kd.N_mono HO146.out (fun k_ hk => (⟨hk, hk.2⟩ : _ ∧ k_ ≠ gb147))) (fun _ hk => hk.2) (.slice Ao22 t144.length co22)) (fun _ h_ => h_.1))) (Kd.R_base ho25) hb); have n1_ := Aside0.mk (Kd.R_lower ho25 (below_size (by repeat (first | (with_reducible first | exact HB.out | apply below_alloc | apply pw_below_drewN | apply below_drew1 | refine below_set ?_ GE147.out) | exact HB.out)))); have n2_ := Aside0.mk (blk_below (g := gb147) (o := .cells #[.slice Ao22 t144.length co22] 24 (0, 0)) (by (with_reducible repeat (first | refine blk_drewN ?_ _ | refine blk_drew ?_ | refine blk_alloc ?_ _)); refine blk_put (cs := #[.slice none 0 0]) ?_ 0 _ rfl; (with_reducible repeat (first | refine blk_drewN ?_ _ | refine blk_drew ?_ | refine blk_alloc ?_ _)); exact BK147.out) hb); have n3_ := Aside0.mk (below_step (by repeat (first | (with_reducible first | exact HB.out | apply below_alloc | apply pw_below_drewN | apply below_drew1 | refine below_set ?_ GE147.out) | exact HB.out)) hb); clear HO146; clear BK147; clear HB; have HO146 := n0_; have HO150 := n1_; have BK147 := n2_; have HB := n3_; clear n0_ n1_ n2_ n3_; clear hb ho25) | ((with_reducible refine gate_dst (N := 15) rfl ?_); (try (refine gate_guard (by rfl) ?_; dsimp only)); refine Kd.R_lit k59 _ 59 ?hg (N := 15) ?hd (xs := ([(⟨0, 0, 0, false⟩ : S59), (⟨3, 0, 0, false⟩ : S59), (⟨0, 0, 0, false⟩ : S59)] : List (S59))) (inner := [.int .i64 0, .int .i64 0, .int .i64 0, .bool false, .int .i64 3, .int .i64 0, .int .i64 0, .bool false, .int .i64 0, .int .i64 0, .int .i64 0, .bool false]) (ok := fun _ => True) (okp := fun _ => True) ?hr ?hp (fun _ hk => hk) trivial (Below.refl _ _) (Nat.le_refl _) (by simp) ?_; (case hd => rfl); (case hg => rfl); (case hr => first | (go_simp; done) | (go_simp; rfl)); (case hp => exact (Reps.c4 (show Kd.M k59 _ _ _ (⟨0, 0, 0, false⟩ : S59) [.int .i64 0, .int .i64 0, .int .i64 0, .bool false] from (k59_mkM _ _ _ (⟨0, 0, 0, false⟩ : S59) )) (Reps.c4 (show Kd.M k59 _ _ _ (⟨3, 0, 0, false⟩ : S59) [.int .i64 3, .int .i64 0, .int .i64 0, .bool false] from (k59_mkM _ _ _ (⟨3, 0, 0, false⟩ : S59) )) (Reps.c4 (show Kd.M k59 _ _ _ (⟨0, 0, 0, false⟩ : S59) [.int .i64 0, .int .i64 0, .int .i64 0, .bool false] from (k59_mkM _ _ _ (⟨0, 0, 0, false⟩ : S59) )) (Reps.none _ _))))); intro v152 w26 ho27 hb hg_ hnew_; clear hg_ hnew_; (first | rw [← Ny151.out] at ho27 | (simp only [Int.reduceToNat] at ho27; rw [← Ny151.out] at ho27)); have n0_ := Aside0.mk (Kd.N_elder' (by (with_reducible repeat (first | apply Kd.N_alloc | apply Kd.N_drewN | apply Kd.N_drew)); exact HO146.out) (Kd.R_base ho27) hb); have n1_ := Aside0.mk (Kd.R_elder' (by (with_reducible repeat (first | apply Kd.R_alloc | apply Kd.R_drewN | apply Kd.R_drew)); exact HO150.out) (Kd.R_base ho27) hb); have n2_ := Aside0.mk (Kd.R_lower (Kd.R_new' ho27 (Kd.R_lt (by (with_reducible repeat (first | apply Kd.R_alloc | apply Kd.R_drewN | apply Kd.R_drew)); exact HO150.out))) (below_size (by repeat (first | (with_reducible first | exact HB.out | apply below_alloc | apply pw_below_drewN | apply below_drew1 | refine below_set ?_ GE147.out) | exact HB.out)))); have n3_ := Aside0.mk (blk_below (g := gb147) (o := .cells #[.slice Ao22 t144.length co22] 24 (0, 0)) (by (with_reducible repeat (first | refine blk_drewN ?_ _ | refine blk_drew ?_ | refine blk_alloc ?_ _)); exact BK147.out) hb); have n4_ := Aside0.mk (below_step (by repeat (first | (with_reducible first | exact HB.out | apply below_alloc | apply pw_below_drewN | apply below_drew1 | refine below_set ?_ GE147.out) | exact HB.out)) hb); clear HO146; clear HO150; clear BK147; clear HB; have HO146 := n0_; have HO150 := n1_; have HO153 := n2_; have BK147 := n3_; have HB := n4_; clear n0_ n1_ n2_ n3_ n4_; clear hb ho27) | ((with_reducible refine gate_dst (N := 19) rfl ?_); (try (refine gate_guard (by rfl) ?_; dsimp only)); refine Kd.R_lit k59 _ 59 ?hg (N := 19) ?hd (xs := ([(⟨0, 0, 0, false⟩ : S59), (⟨3, 0, 0, false⟩ : S59), (⟨3, 0, 0, false⟩ : S59)] : List (S59))) (inner := [.int .i64 0, .int .i64 0, .int .i64 0, .bool false, .int .i64 3, .int .i64 0, .int .i64 0, .bool false, .int .i64 3, .int .i64 0, .int .i64 0, .bool false]) (ok := fun _ => True) (okp := fun _ => True) ?hr ?hp (fun _ hk => hk) trivial (Below.refl _ _) (Nat.le_refl _) (by simp) ?_; (case hd => rfl); (case hg => rfl); (case hr => first | (go_simp; done) | (go_simp; rfl)); (case hp => exact (Reps.c4 (show Kd.M k59 _ _ _ (⟨0, 0, 0, false⟩ : S59) [.int .i64 0, .int .i64 0, .int .i64 0, .bool false] from (k59_mkM _ _ _ (⟨0, 0, 0, false⟩ : S59) )) (Reps.c4 (show Kd.M k59 _ _ _ (⟨3, 0, 0, false⟩ : S59) [.int .i64 3, .int .i64 0, .int .i64 0, .bool false] from (k59_mkM _ _ _ (⟨3, 0, 0, false⟩ : S59) )) (Reps.c4 (show Kd.M k59 _ _ _ (⟨3, 0, 0, false⟩ : S59) [.int .i64 3, .int .i64 0, .int .i64 0, .bool false] from (k59_mkM _ _ _ (⟨3, 0, 0, false⟩ : S59) )) (Reps.none _ _))))); intro v155 w28 ho29 hb hg_ hnew_; clear hg_ hnew_; (first | rw [← Ny154.out] at ho29 | (simp only [Int.reduceToNat] at ho29; rw [← Ny154.out] at ho29)); have n0_ := Aside0.mk (Kd.N_elder' (by (with_reducible repeat (first | apply Kd.N_alloc | apply Kd.N_drewN | apply Kd.N_drew)); exact HO146.out) (Kd.R_base ho29) hb); have n1_ := Aside0.mk (Kd.R_elder' (by (with_reducible repeat (first | apply Kd.R_alloc | apply Kd.R_drewN | apply Kd.R_drew)); exact HO150.out) (Kd.R_base ho29) hb); have n2_ := Aside0.mk (Kd.R_elder' (by (with_reducible repeat (first | apply Kd.R_alloc | apply Kd.R_drewN | apply Kd.R_drew)); exact HO153.out) (Kd.R_base ho29) hb); have n3_ := Aside0.mk (Kd.R_lower (Kd.R_new' (Kd.R_new' ho29 (Kd.R_lt (by (with_reducible repeat (first | apply Kd.R_alloc | apply Kd.R_drewN | apply Kd.R_drew)); exact HO150.out))) (Kd.R_lt (by (with_reducible repeat (first | apply Kd.R_alloc | apply Kd.R_drewN | apply Kd.R_drew)); exact HO153.out))) (below_size (by repeat (first | (with_reducible first | exact HB.out | apply below_alloc | apply pw_below_drewN | apply below_drew1 | refine below_set ?_ GE147.out) | exact HB.out)))); have n4_ := Aside0.mk (blk_below (g := gb147) (o := .cells #[.slice Ao22 t144.length co22] 24 (0, 0)) (by (with_reducible repeat (first | refine blk_drewN ?_ _ | refine blk_drew ?_ | refine blk_alloc ?_ _)); exact BK147.out) hb); have n5_ := Aside0.mk (below_step (by repeat (first | (with_reducible first | exact HB.out | apply below_alloc | apply pw_below_drewN | apply below_drew1 | refine below_set ?_ GE147.out) | exact HB.out)) hb); clear HO146; clear HO150; clear HO153; clear BK147; clear HB; have HO146 := n0_; have HO150 := n1_; have HO153 := n2_; have HO156 := n3_; have BK147 := n4_; have HB := n5_; clear n0_ n1_ n2_ n3_ n4_ n5_; clear hb ho29) | ((with_reducible refine gate_dst (N := 23) rfl ?_); (try (refine gate_guard (by rfl) ?_; dsimp only)); refine Kd.R_lit k59 _ 59 ?hg (N := 23) ?hd (xs := ([(⟨0, 0, 0, false⟩ : S59), (⟨3, 0, 0, false⟩ : S59), (⟨2, 0, 0, false⟩ : S59)] : List (S59))) (inner := [.int .i64 0, .int .i64 0, .int .i64 0, .bool false, .int .i64 3, .int .i64 0, .int .i64 0, .bool false, .int .i64 2, .int .i64 0, .int .i64 0, .bool false]) (ok := fun _ => True) (okp := fun _ => True) ?hr ?hp (fun _ hk => hk) trivial (Below.refl _ _) (Nat.le_refl _) (by simp) ?_; (case hd => rfl); (case hg => rfl); (case hr => first | (go_simp; done) | (go_simp; rfl)); (case hp => exact (Reps.c4 (show Kd.M k59 _ _ _ (⟨0, 0, 0, false⟩ : S59) [.int .i64 0, .int .i64 0, .int .i64 0, .bool false] from (k59_mkM _ _ _ (⟨0, 0, 0, false⟩ : S59) )) (Reps.c4 (show Kd.M k59 _ _ _ (⟨3, 0, 0, false⟩ : S59) [.int .i64 3, .int .i64 0, .int .i64 0, .bool false] from (k59_mkM _ _ _ (⟨3, 0, 0, false⟩ : S59) )) (Reps.c4 (show Kd.M k59 _ _ _ (⟨2, 0, 0, false⟩ : S59) [.int .i64 2, .int .i64 0, .int .i64 0, .bool false] from (k59_mkM _ _ _ (⟨2, 0, 0, false⟩ : S59) )) (Reps.none _ _))))); intro v158 w30 ho31 hb hg_ hnew_; clear hg_ hnew_; (first | rw [← Ny157.out] at ho31 | (simp only [Int.reduceToNat] at ho31; rw [← Ny157.out] at ho31)); have n0_ := Aside0.mk (Kd.N_elder' (by (with_reducible repeat (first | apply Kd.N_alloc | apply Kd.N_drewN | apply Kd.N_drew)); exact HO146.out) (Kd.R_base ho31) hb); have n1_ := Aside0.mk (Kd.R_elder' (by (with_reducible repeat (first | apply Kd.R_alloc | apply Kd.R_drewN | apply Kd.R_drew)); exact HO150.out) (Kd.R_base ho31) hb); have n2_ := Aside0.mk (Kd.R_elder' (by (with_reducible repeat (first | apply Kd.R_alloc | apply Kd.R_drewN | apply Kd.R_drew)); exact HO153.out) (Kd.R_base ho31) hb); have n3_ := Aside0.mk (Kd.R_elder' (by (with_reducible repeat (first | apply Kd.R_alloc | apply Kd.R_drewN | apply Kd.R_drew)); exact HO156.out) (Kd.R_base ho31) hb); have n4_ := Aside0.mk (Kd.R_lower (Kd.R_new' (Kd.R_new' (Kd.R_new' ho31 (Kd.R_lt (by (with_reducible repeat (first | apply Kd.R_alloc | apply Kd.R_drewN | apply Kd.R_drew)); exact HO150.out))) (Kd.R_lt (by (with_reducible repeat (first | apply Kd.R_alloc | apply Kd.R_drewN | apply Kd.R_drew)); exact HO153.out))) (Kd.R_lt (by (with_reducible repeat (first | apply Kd.R_alloc | apply Kd.R_drewN | apply Kd.R_drew)); exact HO156.out))) (below_size (by repeat (first | (with_reducible first | exact HB.out | apply below_alloc | apply pw_below_drewN | apply below_drew1 | refine below_set ?_ GE147.out) | exact HB.out)))); have n5_ := Aside0.mk (blk_below (g := gb147) (o := .cells #[.slice Ao22 t144.length co22] 24 (0, 0)) (by (with_reducible repeat (first | refine blk_drewN ?_ _ | refine blk_drew ?_ | refine blk_alloc ?_ _)); exact BK147.out) hb); have n6_ := Aside0.mk (below_step (by repeat (first | (with_reducible first | exact HB.out | apply below_alloc | apply pw_below_drewN | apply below_drew1 | refine below_set ?_ GE147.out) | exact HB.out)) hb); clear HO146; clear HO150; clear HO153; clear HO156; clear BK147; clear HB; have HO146 := n0_; have HO150 := n1_; have HO153 := n2_; have HO156 := n3_; have HO159 := n4_; have BK147 := n5_; have HB := n6_; clear n0_ n1_ n2_ n3_ n4_ n5_ n6_; clear hb ho31; have hcz32_0 : w30.cell? ⟨gb147, 0, none⟩ = some (.slice Ao22 t144.length co22) := (blk_cell BK147.out 0).trans rfl; have hfz32_0 := blk_frozen BK147.out 0; obtain ⟨Ao33, co33, eo33⟩ := Kd.R_slice HO150.out; subst eo33) | ((with_reducible refine gate_callee (f := 9) rfl ?_); refine goesL_ (some 27) rfl rfl Try.func9 (by kernel_rfl) rfl #[.agg #[.slice Ao22 t144.length co22], .slice Ao33 y148.length co33] rfl (by (try simp only [List.map_toArray, List.map_cons, List.map_nil]); first | done | rfl | (simp only [List.length_drop, List.length_take]; rfl)) ?_; (with_reducible refine (state_All.calls _ _ t144 _ _ y148 t160 t163 _ ?side1 ?side2 ?side3 ?side4 A3.out).mono ?_); (case side1 => repeat (first | exact (Kd.N_reads' HO146.out).2.2 | (with_reducible refine Kd.C_alloc ?_ _) | (with_reducible refine Kd.C_drewN ?_ _) | (with_reducible refine Kd.C_drew ?_))); (case side2 => exact (Kd.N_reads' HO146.out).2.1); (case side3 => repeat (first | exact (Kd.R_reads' HO150.out).2.2 | (with_reducible refine Kd.C_alloc ?_ _) | (with_reducible refine Kd.C_drewN ?_ _) | (with_reducible refine Kd.C_drew ?_))); (case side4 => exact (Kd.R_reads' HO150.out).2.1); rintro e w34 ⟨v161, rfl, ho0, hb⟩; refine ⟨_, rfl, ?_⟩; have n0_ := Aside0.mk (Kd.N_elder' (by (with_reducible repeat (first | apply Kd.N_alloc | apply Kd.N_drewN | apply Kd.N_drew)); exact HO146.out) (Kd.R_base ho0) hb); have n1_ := Aside0.mk (Kd.R_below (by (with_reducible repeat (first | apply Kd.R_alloc | apply Kd.R_drewN | apply Kd.R_drew)); exact HO150.out) hb); have n2_ := Aside0.mk (Kd.R_below (by (with_reducible repeat (first | apply Kd.R_alloc | apply Kd.R_drewN | apply Kd.R_drew)); exact HO153.out) hb); have n3_ := Aside0.mk (Kd.R_below (by (with_reducible repeat (first | apply Kd.R_alloc | apply Kd.R_drewN | apply Kd.R_drew)); exact HO156.out) hb); have n4_ := Aside0.mk (Kd.R_below (by (with_reducible repeat (first | apply Kd.R_alloc | apply Kd.R_drewN | apply Kd.R_drew)); exact HO159.out) hb); have n5_ := Aside0.mk (Kd.R_lower ho0 (below_size (by repeat (first | (with_reducible first | exact HB.out | apply below_alloc | apply pw_below_drewN | apply below_drew1 | refine below_set ?_ GE147.out) | exact HB.out)))); have n6_ := Aside0.mk (blk_below (g := gb147) (o := .cells #[.slice Ao22 t144.length co22] 24 (0, 0)) (by (with_reducible repeat (first | refine blk_drewN ?_ _ | refine blk_drew ?_ | refine blk_alloc ?_ _)); exact BK147.out) hb); have n7_ := Aside0.mk (below_step (by repeat (first | (with_reducible first | exact HB.out | apply below_alloc | apply pw_below_drewN | apply below_drew1 | refine below_set ?_ GE147.out) | exact HB.out)) hb); clear HO146; clear HO150; clear HO153; clear HO156; clear HO159; clear BK147; clear HB; have HO146 := n0_; have HO150 := n1_; have HO153 := n2_; have HO156 := n3_; have HO159 := n4_; have HO162 := n5_; have BK147 := n6_; have HB := n7_; clear n0_ n1_ n2_ n3_ n4_ n5_ n6_ n7_; (try clear hb); (try clear hb2); (try clear hk); (try clear hi); (try clear ho0); have hcz35_0 : w34.cell? ⟨gb147, 0, none⟩ = some (.slice Ao22 t144.length co22) := (blk_cell BK147.out 0).trans rfl; have hfz35_0 := blk_frozen BK147.out 0; obtain ⟨Ao36, co36, eo36⟩ := Kd.R_slice HO153.out; subst eo36) | ((with_reducible refine gate_callee (f := 9) rfl ?_); refine goesL_ (some 33) rfl rfl Try.func9 (by kernel_rfl) rfl #[.agg #[.slice Ao22 t144.length co22], .slice Ao36 y151.length co36] rfl (by (try simp only [List.map_toArray, List.map_cons, List.map_nil]); first | done | rfl | (simp only [List.length_drop, List.length_take]; rfl)) ?_; (with_reducible refine (state_All.calls _ _ t144 _ _ y151 t164 t167 _ ?side1 ?side2 ?side3 ?side4 A4.out).mono ?_); (case side1 => repeat (first | exact (Kd.N_reads' HO146.out).2.2 | (with_reducible refine Kd.C_alloc ?_ _) | (with_reducible refine Kd.C_drewN ?_ _) | (with_reducible refine Kd.C_drew ?_))); (case side2 => exact (Kd.N_reads' HO146.out).2.1); (case side3 => repeat (first | exact (Kd.R_reads' HO153.out).2.2 | (with_reducible refine Kd.C_alloc ?_ _) | (with_reducible refine Kd.C_drewN ?_ _) | (with_reducible refine Kd.C_drew ?_))); (case side4 => exact (Kd.R_reads' HO153.out).2.1); rintro e w37 ⟨v165, rfl, ho0, hb⟩; refine ⟨_, rfl, ?_⟩; have n0_ := Aside0.mk (Kd.N_elder' (by (with_reducible repeat (first | apply Kd.N_alloc | apply Kd.N_drewN | apply Kd.N_drew)); exact HO146.out) (Kd.R_base ho0) hb); have n1_ := Aside0.mk (Kd.R_below (by (with_reducible repeat (first | apply Kd.R_alloc | apply Kd.R_drewN | apply Kd.R_drew)); exact HO150.out) hb); have n2_ := Aside0.mk (Kd.R_below (by (with_reducible repeat (first | apply Kd.R_alloc | apply Kd.R_drewN | apply Kd.R_drew)); exact HO153.out) hb); have n3_ := Aside0.mk (Kd.R_below (by (with_reducible repeat (first | apply Kd.R_alloc | apply Kd.R_drewN | apply Kd.R_drew)); exact HO156.out) hb); have n4_ := Aside0.mk (Kd.R_below (by (with_reducible repeat (first | apply Kd.R_alloc | apply Kd.R_drewN | apply Kd.R_drew)); exact HO159.out) hb); have n5_ := Aside0.mk (Kd.R_elder' (by (with_reducible repeat (first | apply Kd.R_alloc | apply Kd.R_drewN | apply Kd.R_drew)); exact HO162.out) (Kd.R_base ho0) hb); have n6_ := Aside0.mk (Kd.R_lower (Kd.R_new' ho0 (Kd.R_lt (by (with_reducible repeat (first | apply Kd.R_alloc | apply Kd.R_drewN | apply Kd.R_drew)); exact HO162.out))) (below_size (by repeat (first | (with_reducible first | exact HB.out | apply below_alloc | apply pw_below_drewN | apply below_drew1 | refine below_set ?_ GE147.out) | exact HB.out)))); have n7_ := Aside0.mk (blk_below (g := gb147) (o := .cells #[.slice Ao22 t144.length co22] 24 (0, 0)) (by (with_reducible repeat (first | refine blk_drewN ?_ _ | refine blk_drew ?_ | refine blk_alloc ?_ _)); exact BK147.out) hb); have n8_ := Aside0.mk (below_step (by repeat (first | (with_reducible first | exact HB.out | apply below_alloc | apply pw_below_drewN | apply below_drew1 | refine below_set ?_ GE147.out) | exact HB.out)) hb); clear HO146; clear HO150; clear HO153; clear HO156; clear HO159; clear HO162; clear BK147; clear HB; have HO146 := n0_; have HO150 := n1_; have HO153 := n2_; have HO156 := n3_; have HO159 := n4_; have HO162 := n5_; have HO166 := n6_; have BK147 := n7_; have HB := n8_; clear n0_ n1_ n2_ n3_ n4_ n5_ n6_ n7_ n8_; (try clear hb); (try clear hb2); (try clear hk); (try clear hi); (try clear ho0)) | ((with_reducible refine gate_dst (N := 37) rfl ?_); (try (refine gate_guard (by rfl) ?_; dsimp only)); refine Kd.R_lit (Kd.int .i64) _ 32 ?hg (N := 37) ?hd (xs := ([0, 0, 0] : List Int)) (inner := [.int .i64 0, .int .i64 0, .int .i64 0]) (ok := fun _ => True) (okp := fun _ => True) ?hr ?hp (fun _ hk => hk) trivial (Below.refl _ _) (Nat.le_refl _) (by simp) ?_; (case hd => rfl); (case hg => rfl); (case hr => first | (go_simp; done) | (go_simp; rfl)); (case hp => exact (Reps.one (show Kd.M (Kd.int .i64) _ _ _ 0 [.int .i64 0] from rfl) (Reps.one (show Kd.M (Kd.int .i64) _ _ _ 0 [.int .i64 0] from rfl) (Reps.one (show Kd.M (Kd.int .i64) _ _ _ 0 [.int .i64 0] from rfl) (Reps.none _ _))))); intro v169 w38 ho39 hb hg_ hnew_; clear hg_ hnew_; (first | rw [← Ny168.out] at ho39 | (simp only [Int.reduceToNat] at ho39; rw [← Ny168.out] at ho39)); have n0_ := Aside0.mk (Kd.N_elder' (by (with_reducible repeat (first | apply Kd.N_alloc | apply Kd.N_drewN | apply Kd.N_drew)); exact HO146.out) (Kd.R_base ho39) hb); have n1_ := Aside0.mk (Kd.R_below (by (with_reducible repeat (first | apply Kd.R_alloc | apply Kd.R_drewN | apply Kd.R_drew)); exact HO150.out) hb); have n2_ := Aside0.mk (Kd.R_below (by (with_reducible repeat (first | apply Kd.R_alloc | apply Kd.R_drewN | apply Kd.R_drew)); exact HO153.out) hb); have n3_ := Aside0.mk (Kd.R_below (by (with_reducible repeat (first | apply Kd.R_alloc | apply Kd.R_drewN | apply Kd.R_drew)); exact HO156.out) hb); have n4_ := Aside0.mk (Kd.R_below (by (with_reducible repeat (first | apply Kd.R_alloc | apply Kd.R_drewN | apply Kd.R_drew)); exact HO159.out) hb); have n5_ := Aside0.mk (Kd.R_elder' (by (with_reducible repeat (first | apply Kd.R_alloc | apply Kd.R_drewN | apply Kd.R_drew)); exact HO162.out) (Kd.R_base ho39) hb); have n6_ := Aside0.mk (Kd.R_elder' (by (with_reducible repeat (first | apply Kd.R_alloc | apply Kd.R_drewN | apply Kd.R_drew)); exact HO166.out) (Kd.R_base ho39) hb); have n7_ := Aside0.mk (Kd.R_lower (Kd.R_new' (Kd.R_new' ho39 (Kd.R_lt (by (with_reducible repeat (first | apply Kd.R_alloc | apply Kd.R_drewN | apply Kd.R_drew)); exact HO162.out))) (Kd.R_lt (by (with_reducible repeat (first | apply Kd.R_alloc | apply Kd.R_drewN | apply Kd.R_drew)); exact HO166.out))) (below_size (by repeat (first | (with_reducible first | exact HB.out | apply below_alloc | apply pw_below_drewN | apply below_drew1 | refine below_set ?_ GE147.out) | exact HB.out)))); have n8_ := Aside0.mk (blk_below (g := gb147) (o := .cells #[.slice Ao22 t144.length co22] 24 (0, 0)) (by (with_reducible repeat (first | refine blk_drewN ?_ _ | refine blk_drew ?_ | refine blk_alloc ?_ _)); exact BK147.out) hb); have n9_ := Aside0.mk (below_step (by repeat (first | (with_reducible first | exact HB.out | apply below_alloc | apply pw_below_drewN | apply below_drew1 | refine below_set ?_ GE147.out) | exact HB.out)) hb); clear HO146; clear HO150; clear HO153; clear HO156; clear HO159; clear HO162; clear HO166; clear BK147; clear HB; have HO146 := n0_; have HO150 := n1_; have HO153 := n2_; have HO156 := n3_; have HO159 := n4_; have HO162 := n5_; have HO166 := n6_; have HO170 := n7_; have BK147 := n8_; have HB := n9_; clear n0_ n1_ n2_ n3_ n4_ n5_ n6_ n7_ n8_ n9_; clear hb ho39; obtain ⟨Ao40, co40, eo40⟩ := Kd.R_slice HO162.out; subst eo40; obtain ⟨Ao41, co41, eo41⟩ := Kd.R_slice HO170.out; subst eo41) | ((with_reducible refine gate_callee (f := 19) rfl ?_); refine goesL_ (some 38) rfl rfl Try.func19 (by kernel_rfl) rfl #[.slice Ao40 t160.length co40, .slice Ao41 y168.length co41] rfl (by (try simp only [List.map_toArray, List.map_cons, List.map_nil]); first | done | rfl | (simp only [List.length_drop, List.length_take]; rfl)) ?_; (with_reducible refine (argosylaw14_is.calls k _ _ t160 _ _ y168 true _ ?side1 ?side2 ?side3 ?side4 A5.out).mono ?_); (case side1 => repeat (first | exact (Kd.R_reads' HO162.out).2.2 | (with_reducible refine Kd.C_alloc ?_ _) | (with_reducible refine Kd.C_drewN ?_ _) | (with_reducible refine Kd.C_drew ?_))); (case side2 => exact (Kd.R_reads' HO162.out).2.1); (case side3 => repeat (first | exact (Kd.R_reads' HO170.out).2.2 | (with_reducible refine Kd.C_alloc ?_ _) | (with_reducible refine Kd.C_drewN ?_ _) | (with_reducible refine Kd.C_drew ?_))); (case side4 => exact (Kd.R_reads' HO170.out).2.1); rintro e w' ⟨rfl, ⟨nd, rfl⟩⟩; refine ⟨_, rfl, ?_⟩) | ((with_reducible refine gate_dst (N := 45) rfl ?_); (try (refine gate_guard (by rfl) ?_; dsimp only)); refine Kd.R_lit (Kd.int .i64) _ 32 ?hg (N := 45) ?hd (xs := ([1, 3, 0] : List Int)) (inner := [.int .i64 1, .int .i64 3, .int .i64 0]) (ok := fun _ => True) (okp := fun _ => True) ?hr ?hp (fun _ hk => hk) trivial (Below.refl _ _) (Nat.le_refl _) (by simp) ?_; (case hd => rfl); (case hg => rfl); (case hr => first | (go_simp; done) | (go_simp; rfl)); (case hp => exact (Reps.one (show Kd.M (Kd.int .i64) _ _ _ 1 [.int .i64 1] from rfl) (Reps.one (show Kd.M (Kd.int .i64) _ _ _ 3 [.int .i64 3] from rfl) (Reps.one (show Kd.M (Kd.int .i64) _ _ _ 0 [.int .i64 0] from rfl) (Reps.none _ _))))); intro v173 w42 ho43 hb hg_ hnew_; clear hg_ hnew_; (first | rw [← Ny172.out] at ho43 | (simp only [Int.reduceToNat] at ho43; rw [← Ny172.out] at ho43)); have n0_ := Aside0.mk (Kd.N_elder' (by (with_reducible repeat (first | apply Kd.N_alloc | apply Kd.N_drewN | apply Kd.N_drew)); exact HO146.out) (Kd.R_base ho43) hb); have n1_ := Aside0.mk (Kd.R_below (by (with_reducible repeat (first | apply Kd.R_alloc | apply Kd.R_drewN | apply Kd.R_drew)); exact HO150.out) hb); have n2_ := Aside0.mk (Kd.R_below (by (with_reducible repeat (first | apply Kd.R_alloc | apply Kd.R_drewN | apply Kd.R_drew)); exact HO153.out) hb); have n3_ := Aside0.mk (Kd.R_below (by (with_reducible repeat (first | apply Kd.R_alloc | apply Kd.R_drewN | apply Kd.R_drew)); exact HO156.out) hb); have n4_ := Aside0.mk (Kd.R_below (by (with_reducible repeat (first | apply Kd.R_alloc | apply Kd.R_drewN | apply Kd.R_drew)); exact HO159.out) hb); have n5_ := Aside0.mk (Kd.R_elder' (by (with_reducible repeat (first | apply Kd.R_alloc | apply Kd.R_drewN | apply Kd.R_drew)); exact HO162.out) (Kd.R_base ho43) hb); have n6_ := Aside0.mk (Kd.R_elder' (by (with_reducible repeat (first | apply Kd.R_alloc | apply Kd.R_drewN | apply Kd.R_drew)); exact HO166.out) (Kd.R_base ho43) hb); have n7_ := Aside0.mk (Kd.R_elder' (by (with_reducible repeat (first | apply Kd.R_alloc | apply Kd.R_drewN | apply Kd.R_drew)); exact HO170.out) (Kd.R_base ho43) hb); have n8_ := Aside0.mk (Kd.R_lower (Kd.R_new' (Kd.R_new' (Kd.R_new' ho43 (Kd.R_lt (by (with_reducible repeat (first | apply Kd.R_alloc | apply Kd.R_drewN | apply Kd.R_drew)); exact HO162.out))) (Kd.R_lt (by (with_reducible repeat (first | apply Kd.R_alloc | apply Kd.R_drewN | apply Kd.R_drew)); exact HO166.out))) (Kd.R_lt (by (with_reducible repeat (first | apply Kd.R_alloc | apply Kd.R_drewN | apply Kd.R_drew)); exact HO170.out))) (below_size (by repeat (first | (with_reducible first | exact HB.out | apply below_alloc | apply pw_below_drewN | apply below_drew1 | refine below_set ?_ GE147.out) | exact HB.out)))); have n9_ := Aside0.mk (blk_below (g := gb147) (o := .cells #[.slice Ao22 t144.length co22] 24 (0, 0)) (by (with_reducible repeat (first | refine blk_drewN ?_ _ | refine blk_drew ?_ | refine blk_alloc ?_ _)); exact BK147.out) hb); have n10_ := Aside0.mk (below_step (by repeat (first | (with_reducible first | exact HB.out | apply below_alloc | apply pw_below_drewN | apply below_drew1 | refine below_set ?_ GE147.out) | exact HB.out)) hb); clear HO146; clear HO150; clear HO153; clear HO156; clear HO159; clear HO162; clear HO166; clear HO170; clear BK147; clear HB; have HO146 := n0_; have HO150 := n1_; have HO153 := n2_; have HO156 := n3_; have HO159 := n4_; have HO162 := n5_; have HO166 := n6_; have HO170 := n7_; have HO174 := n8_; have BK147 := n9_; have HB := n10_; clear n0_ n1_ n2_ n3_ n4_ n5_ n6_ n7_ n8_ n9_ n10_; clear hb ho43; obtain ⟨Ao44, co44, eo44⟩ := Kd.R_slice HO166.out; subst eo44; obtain ⟨Ao45, co45, eo45⟩ := Kd.R_slice HO174.out; subst eo45) | (go_at_call 19; (with_reducible refine (argosylaw14_is.calls k _ _ t164 _ _ y172 true _ ?side1 ?side2 ?side3 ?side4 A8.out).mono ?_); (case side1 => repeat (first | exact (Kd.R_reads' HO166.out).2.2 | (with_reducible refine Kd.C_alloc ?_ _) | (with_reducible refine Kd.C_drewN ?_ _) | (with_reducible refine Kd.C_drew ?_))); (case side2 => exact (Kd.R_reads' HO166.out).2.1); (case side3 => repeat (first | exact (Kd.R_reads' HO174.out).2.2 | (with_reducible refine Kd.C_alloc ?_ _) | (with_reducible refine Kd.C_drewN ?_ _) | (with_reducible refine Kd.C_drew ?_))); (case side4 => exact (Kd.R_reads' HO174.out).2.1); rintro e w' ⟨rfl, ⟨nd, rfl⟩⟩; have hcz46_0 : w42.cell? ⟨gb147, 0, none⟩ = some (.slice Ao22 t144.length co22) := (blk_cell BK147.out 0).trans rfl; have hfz46_0 := blk_frozen BK147.out 0) | (go_at_call 12; (with_reducible refine (state_At.calls _ _ t144 _ _ y151 0 t176 _ ?side1 ?side2 ?side3 ?side4 A11.out).mono ?_); (case side1 => repeat (first | exact (Kd.N_reads' HO146.out).2.2 | (with_reducible refine Kd.C_alloc ?_ _) | (with_reducible refine Kd.C_drewN ?_ _) | (with_reducible refine Kd.C_drew ?_))); (case side2 => exact (Kd.N_reads' HO146.out).2.1); (case side3 => repeat (first | exact (Kd.R_reads' HO153.out).2.2 | (with_reducible refine Kd.C_alloc ?_ _) | (with_reducible refine Kd.C_drewN ?_ _) | (with_reducible refine Kd.C_drew ?_))); (case side4 => exact (Kd.R_reads' HO153.out).2.1); rintro e w47 ⟨rfl, hb⟩; have n0_ := Aside0.mk (Kd.N_below (by (with_reducible repeat (first | apply Kd.N_alloc | apply Kd.N_drewN | apply Kd.N_drew)); exact HO146.out) hb); have n1_ := Aside0.mk (Kd.R_below (by (with_reducible repeat (first | apply Kd.R_alloc | apply Kd.R_drewN | apply Kd.R_drew)); exact HO150.out) hb); have n2_ := Aside0.mk (Kd.R_below (by (with_reducible repeat (first | apply Kd.R_alloc | apply Kd.R_drewN | apply Kd.R_drew)); exact HO153.out) hb); have n3_ := Aside0.mk (Kd.R_below (by (with_reducible repeat (first | apply Kd.R_alloc | apply Kd.R_drewN | apply Kd.R_drew)); exact HO156.out) hb); have n4_ := Aside0.mk (Kd.R_below (by (with_reducible repeat (first | apply Kd.R_alloc | apply Kd.R_drewN | apply Kd.R_drew)); exact HO159.out) hb); have n5_ := Aside0.mk (Kd.R_below (by (with_reducible repeat (first | apply Kd.R_alloc | apply Kd.R_drewN | apply Kd.R_drew)); exact HO162.out) hb); have n6_ := Aside0.mk (Kd.R_below (by (with_reducible repeat (first | apply Kd.R_alloc | apply Kd.R_drewN | apply Kd.R_drew)); exact HO166.out) hb); have n7_ := Aside0.mk (Kd.R_below (by (with_reducible repeat (first | apply Kd.R_alloc | apply Kd.R_drewN | apply Kd.R_drew)); exact HO170.out) hb); have n8_ := Aside0.mk (Kd.R_below (by (with_reducible repeat (first | apply Kd.R_alloc | apply Kd.R_drewN | apply Kd.R_drew)); exact HO174.out) hb); have n9_ := Aside0.mk (blk_below (g := gb147) (o := .cells #[.slice Ao22 t144.length co22] 24 (0, 0)) (by (with_reducible repeat (first | refine blk_drewN ?_ _ | refine blk_drew ?_ | refine blk_alloc ?_ _)); exact BK147.out) hb); have n10_ := Aside0.mk (below_step (by repeat (first | (with_reducible first | exact HB.out | apply below_alloc | apply pw_below_drewN | apply below_drew1 | refine below_set ?_ GE147.out) | exact HB.out)) hb); clear HO146; clear HO150; clear HO153; clear HO156; clear HO159; clear HO162; clear HO166; clear HO170; clear HO174; clear BK147; clear HB; have HO146 := n0_; have HO150 := n1_; have HO153 := n2_; have HO156 := n3_; have HO159 := n4_; have HO162 := n5_; have HO166 := n6_; have HO170 := n7_; have HO174 := n8_; have BK147 := n9_; have HB := n10_; clear n0_ n1_ n2_ n3_ n4_ n5_ n6_ n7_ n8_ n9_ n10_; (try clear hb); (try clear hb2); (try clear hk); (try clear hi); have hcz48_0 : w47.cell? ⟨gb147, 0, none⟩ = some (.slice Ao22 t144.length co22) := (blk_cell BK147.out 0).trans rfl; have hfz48_0 := blk_frozen BK147.out 0; obtain ⟨Ao49, co49, eo49⟩ := Kd.R_slice HO156.out; subst eo49) | (go_at_call 10; (with_reducible refine (state_Verdict.calls _ _ t144 _ _ y154 t177 _ ?side1 ?side2 ?side3 ?side4 A13.out).mono ?_); (case side1 => repeat (first | exact (Kd.N_reads' HO146.out).2.2 | (with_reducible refine Kd.C_alloc ?_ _) | (with_reducible refine Kd.C_drewN ?_ _) | (with_reducible refine Kd.C_drew ?_))); (case side2 => exact (Kd.N_reads' HO146.out).2.1); (case side3 => repeat (first | exact (Kd.R_reads' HO156.out).2.2 | (with_reducible refine Kd.C_alloc ?_ _) | (with_reducible refine Kd.C_drewN ?_ _) | (with_reducible refine Kd.C_drew ?_))); (case side4 => exact (Kd.R_reads' HO156.out).2.1); rintro e w50 ⟨rfl, hb⟩; have n0_ := Aside0.mk (Kd.N_below (by (with_reducible repeat (first | apply Kd.N_alloc | apply Kd.N_drewN | apply Kd.N_drew)); exact HO146.out) hb); have n1_ := Aside0.mk (Kd.R_below (by (with_reducible repeat (first | apply Kd.R_alloc | apply Kd.R_drewN | apply Kd.R_drew)); exact HO150.out) hb); have n2_ := Aside0.mk (Kd.R_below (by (with_reducible repeat (first | apply Kd.R_alloc | apply Kd.R_drewN | apply Kd.R_drew)); exact HO153.out) hb); have n3_ := Aside0.mk (Kd.R_below (by (with_reducible repeat (first | apply Kd.R_alloc | apply Kd.R_drewN | apply Kd.R_drew)); exact HO156.out) hb); have n4_ := Aside0.mk (Kd.R_below (by (with_reducible repeat (first | apply Kd.R_alloc | apply Kd.R_drewN | apply Kd.R_drew)); exact HO159.out) hb); have n5_ := Aside0.mk (Kd.R_below (by (with_reducible repeat (first | apply Kd.R_alloc | apply Kd.R_drewN | apply Kd.R_drew)); exact HO162.out) hb); have n6_ := Aside0.mk (Kd.R_below (by (with_reducible repeat (first | apply Kd.R_alloc | apply Kd.R_drewN | apply Kd.R_drew)); exact HO166.out) hb); have n7_ := Aside0.mk (Kd.R_below (by (with_reducible repeat (first | apply Kd.R_alloc | apply Kd.R_drewN | apply Kd.R_drew)); exact HO170.out) hb); have n8_ := Aside0.mk (Kd.R_below (by (with_reducible repeat (first | apply Kd.R_alloc | apply Kd.R_drewN | apply Kd.R_drew)); exact HO174.out) hb); have n9_ := Aside0.mk (blk_below (g := gb147) (o := .cells #[.slice Ao22 t144.length co22] 24 (0, 0)) (by (with_reducible repeat (first | refine blk_drewN ?_ _ | refine blk_drew ?_ | refine blk_alloc ?_ _)); exact BK147.out) hb); have n10_ := Aside0.mk (below_step (by repeat (first | (with_reducible first | exact HB.out | apply below_alloc | apply pw_below_drewN | apply below_drew1 | refine below_set ?_ GE147.out) | exact HB.out)) hb); clear HO146; clear HO150; clear HO153; clear HO156; clear HO159; clear HO162; clear HO166; clear HO170; clear HO174; clear BK147; clear HB; have HO146 := n0_; have HO150 := n1_; have HO153 := n2_; have HO156 := n3_; have HO159 := n4_; have HO162 := n5_; have HO166 := n6_; have HO170 := n7_; have HO174 := n8_; have BK147 := n9_; have HB := n10_; clear n0_ n1_ n2_ n3_ n4_ n5_ n6_ n7_ n8_ n9_ n10_; (try clear hb); (try clear hb2); (try clear hk); (try clear hi); have hcz51_0 : w50.cell? ⟨gb147, 0, none⟩ = some (.slice Ao22 t144.length co22) := (blk_cell BK147.out 0).trans rfl; have hfz51_0 := blk_frozen BK147.out 0; obtain ⟨Ao52, co52, eo52⟩ := Kd.R_slice HO159.out; subst eo52) | (go_at_call 10; (with_reducible refine (state_Verdict.calls _ _ t144 _ _ y157 t178 _ ?side1 ?side2 ?side3 ?side4 A15.out).mono ?_); (case side1 => repeat (first | exact (Kd.N_reads' HO146.out).2.2 | (with_reducible refine Kd.C_alloc ?_ _) | (with_reducible refine Kd.C_drewN ?_ _) | (with_reducible refine Kd.C_drew ?_))); (case side2 => exact (Kd.N_reads' HO146.out).2.1); (case side3 => repeat (first | exact (Kd.R_reads' HO159.out).2.2 | (with_reducible refine Kd.C_alloc ?_ _) | (with_reducible refine Kd.C_drewN ?_ _) | (with_reducible refine Kd.C_drew ?_))); (case side4 => exact (Kd.R_reads' HO159.out).2.1); rintro e w53 ⟨rfl, hb⟩; have n0_ := Aside0.mk (Kd.N_below (by (with_reducible repeat (first | apply Kd.N_alloc | apply Kd.N_drewN | apply Kd.N_drew)); exact HO146.out) hb); have n1_ := Aside0.mk (Kd.R_below (by (with_reducible repeat (first | apply Kd.R_alloc | apply Kd.R_drewN | apply Kd.R_drew)); exact HO150.out) hb); have n2_ := Aside0.mk (Kd.R_below (by (with_reducible repeat (first | apply Kd.R_alloc | apply Kd.R_drewN | apply Kd.R_drew)); exact HO153.out) hb); have n3_ := Aside0.mk (Kd.R_below (by (with_reducible repeat (first | apply Kd.R_alloc | apply Kd.R_drewN | apply Kd.R_drew)); exact HO156.out) hb); have n4_ := Aside0.mk (Kd.R_below (by (with_reducible repeat (first | apply Kd.R_alloc | apply Kd.R_drewN | apply Kd.R_drew)); exact HO159.out) hb); have n5_ := Aside0.mk (Kd.R_below (by (with_reducible repeat (first | apply Kd.R_alloc | apply Kd.R_drewN | apply Kd.R_drew)); exact HO162.out) hb); have n6_ := Aside0.mk (Kd.R_below (by (with_reducible repeat (first | apply Kd.R_alloc | apply Kd.R_drewN | apply Kd.R_drew)); exact HO166.out) hb); have n7_ := Aside0.mk (Kd.R_below (by (with_reducible repeat (first | apply Kd.R_alloc | apply Kd.R_drewN | apply Kd.R_drew)); exact HO170.out) hb); have n8_ := Aside0.mk (Kd.R_below (by (with_reducible repeat (first | apply Kd.R_alloc | apply Kd.R_drewN | apply Kd.R_drew)); exact HO174.out) hb); have n9_ := Aside0.mk (blk_below (g := gb147) (o := .cells #[.slice Ao22 t144.length co22] 24 (0, 0)) (by (with_reducible repeat (first | refine blk_drewN ?_ _ | refine blk_drew ?_ | refine blk_alloc ?_ _)); exact BK147.out) hb); have n10_ := Aside0.mk (below_step (by repeat (first | (with_reducible first | exact HB.out | apply below_alloc | apply pw_below_drewN | apply below_drew1 | refine below_set ?_ GE147.out) | exact HB.out)) hb); clear HO146; clear HO150; clear HO153; clear HO156; clear HO159; clear HO162; clear HO166; clear HO170; clear HO174; clear BK147; clear HB; have HO146 := n0_; have HO150 := n1_; have HO153 := n2_; have HO156 := n3_; have HO159 := n4_; have HO162 := n5_; have HO166 := n6_; have HO170 := n7_; have HO174 := n8_; have BK147 := n9_; have HB := n10_; clear n0_ n1_ n2_ n3_ n4_ n5_ n6_ n7_ n8_ n9_ n10_; (try clear hb); (try clear hb2); (try clear hk); (try clear hi); have hcz54_0 : w53.cell? ⟨gb147, 0, none⟩ = some (.slice Ao22 t144.length co22) := (blk_cell BK147.out 0).trans rfl; have hfz54_0 := blk_frozen BK147.out 0) | (go_at_call 10; (with_reducible refine (state_Verdict.calls _ _ t144 _ _ y148 t179 _ ?side1 ?side2 ?side3 ?side4 A17.out).mono ?_); (case side1 => repeat (first | exact (Kd.N_reads' HO146.out).2.2 | (with_reducible refine Kd.C_alloc ?_ _) | (with_reducible refine Kd.C_drewN ?_ _) | (with_reducible refine Kd.C_drew ?_))); (case side2 => exact (Kd.N_reads' HO146.out).2.1); (case side3 => repeat (first | exact (Kd.R_reads' HO150.out).2.2 | (with_reducible refine Kd.C_alloc ?_ _) | (with_reducible refine Kd.C_drewN ?_ _) | (with_reducible refine Kd.C_drew ?_))); (case side4 => exact (Kd.R_reads' HO150.out).2.1); rintro e w55 ⟨rfl, hb⟩; have n0_ := Aside0.mk (Kd.N_below (by (with_reducible repeat (first | apply Kd.N_alloc | apply Kd.N_drewN | apply Kd.N_drew)); exact HO146.out) hb); have n1_ := Aside0.mk (Kd.R_below (by (with_reducible repeat (first | apply Kd.R_alloc | apply Kd.R_drewN | apply Kd.R_drew)); exact HO150.out) hb); have n2_ := Aside0.mk (Kd.R_below (by (with_reducible repeat (first | apply Kd.R_alloc | apply Kd.R_drewN | apply Kd.R_drew)); exact HO153.out) hb); have n3_ := Aside0.mk (Kd.R_below (by (with_reducible repeat (first | apply Kd.R_alloc | apply Kd.R_drewN | apply Kd.R_drew)); exact HO156.out) hb); have n4_ := Aside0.mk (Kd.R_below (by (with_reducible repeat (first | apply Kd.R_alloc | apply Kd.R_drewN | apply Kd.R_drew)); exact HO159.out) hb); have n5_ := Aside0.mk (Kd.R_below (by (with_reducible repeat (first | apply Kd.R_alloc | apply Kd.R_drewN | apply Kd.R_drew)); exact HO162.out) hb); have n6_ := Aside0.mk (Kd.R_below (by (with_reducible repeat (first | apply Kd.R_alloc | apply Kd.R_drewN | apply Kd.R_drew)); exact HO166.out) hb); have n7_ := Aside0.mk (Kd.R_below (by (with_reducible repeat (first | apply Kd.R_alloc | apply Kd.R_drewN | apply Kd.R_drew)); exact HO170.out) hb); have n8_ := Aside0.mk (Kd.R_below (by (with_reducible repeat (first | apply Kd.R_alloc | apply Kd.R_drewN | apply Kd.R_drew)); exact HO174.out) hb); have n9_ := Aside0.mk (blk_below (g := gb147) (o := .cells #[.slice Ao22 t144.length co22] 24 (0, 0)) (by (with_reducible repeat (first | refine blk_drewN ?_ _ | refine blk_drew ?_ | refine blk_alloc ?_ _)); exact BK147.out) hb); have n10_ := Aside0.mk (below_step (by repeat (first | (with_reducible first | exact HB.out | apply below_alloc | apply pw_below_drewN | apply below_drew1 | refine below_set ?_ GE147.out) | exact HB.out)) hb); clear HO146; clear HO150; clear HO153; clear HO156; clear HO159; clear HO162; clear HO166; clear HO170; clear HO174; clear BK147; clear HB; have HO146 := n0_; have HO150 := n1_; have HO153 := n2_; have HO156 := n3_; have HO159 := n4_; have HO162 := n5_; have HO166 := n6_; have HO170 := n7_; have HO174 := n8_; have BK147 := n9_; have HB := n10_; clear n0_ n1_ n2_ n3_ n4_ n5_ n6_ n7_ n8_ n9_ n10_; (try clear hb); (try clear hb2); (try clear hk); (try clear hi); have hcz56_0 : w55.cell? ⟨gb147, 0, none⟩ = some (.slice Ao22 t144.length co22) := (blk_cell BK147.out 0).trans rfl; have hfz56_0 := blk_frozen BK147.out 0) | (go_at_call 20; (with_reducible refine (state_Falling.calls _ _ t144 _ _ y151 0 0 t180 _ ?side1 ?side2 ?side3 ?side4 A19.out).mono ?_); (case side1 => repeat (first | exact (Kd.N_reads' HO146.out).2.2 | (with_reducible refine Kd.C_alloc ?_ _) | (with_reducible refine Kd.C_drewN ?_ _) | (with_reducible refine Kd.C_drew ?_))); (case side2 => exact (Kd.N_reads' HO146.out).2.1); (case side3 => repeat (first | exact (Kd.R_reads' HO153.out).2.2 | (with_reducible refine Kd.C_alloc ?_ _) | (with_reducible refine Kd.C_drewN ?_ _) | (with_reducible refine Kd.C_drew ?_))); (case side4 => exact (Kd.R_reads' HO153.out).2.1); rintro e w57 ⟨rfl, hb⟩; have n0_ := Aside0.mk (Kd.N_below (by (with_reducible repeat (first | apply Kd.N_alloc | apply Kd.N_drewN | apply Kd.N_drew)); exact HO146.out) hb); have n1_ := Aside0.mk (Kd.R_below (by (with_reducible repeat (first | apply Kd.R_alloc | apply Kd.R_drewN | apply Kd.R_drew)); exact HO150.out) hb); have n2_ := Aside0.mk (Kd.R_below (by (with_reducible repeat (first | apply Kd.R_alloc | apply Kd.R_drewN | apply Kd.R_drew)); exact HO153.out) hb); have n3_ := Aside0.mk (Kd.R_below (by (with_reducible repeat (first | apply Kd.R_alloc | apply Kd.R_drewN | apply Kd.R_drew)); exact HO156.out) hb); have n4_ := Aside0.mk (Kd.R_below (by (with_reducible repeat (first | apply Kd.R_alloc | apply Kd.R_drewN | apply Kd.R_drew)); exact HO159.out) hb); have n5_ := Aside0.mk (Kd.R_below (by (with_reducible repeat (first | apply Kd.R_alloc | apply Kd.R_drewN | apply Kd.R_drew)); exact HO162.out) hb); have n6_ := Aside0.mk (Kd.R_below (by (with_reducible repeat (first | apply Kd.R_alloc | apply Kd.R_drewN | apply Kd.R_drew)); exact HO166.out) hb); have n7_ := Aside0.mk (Kd.R_below (by (with_reducible repeat (first | apply Kd.R_alloc | apply Kd.R_drewN | apply Kd.R_drew)); exact HO170.out) hb); have n8_ := Aside0.mk (Kd.R_below (by (with_reducible repeat (first | apply Kd.R_alloc | apply Kd.R_drewN | apply Kd.R_drew)); exact HO174.out) hb); have n9_ := Aside0.mk (blk_below (g := gb147) (o := .cells #[.slice Ao22 t144.length co22] 24 (0, 0)) (by (with_reducible repeat (first | refine blk_drewN ?_ _ | refine blk_drew ?_ | refine blk_alloc ?_ _)); exact BK147.out) hb); have n10_ := Aside0.mk (below_step (by repeat (first | (with_reducible first | exact HB.out | apply below_alloc | apply pw_below_drewN | apply below_drew1 | refine below_set ?_ GE147.out) | exact HB.out)) hb); clear HO146; clear HO150; clear HO153; clear HO156; clear HO159; clear HO162; clear HO166; clear HO170; clear HO174; clear BK147; clear HB; have HO146 := n0_; have HO150 := n1_; have HO153 := n2_; have HO156 := n3_; have HO159 := n4_; have HO162 := n5_; have HO166 := n6_; have HO170 := n7_; have HO174 := n8_; have BK147 := n9_; have HB := n10_; clear n0_ n1_ n2_ n3_ n4_ n5_ n6_ n7_ n8_ n9_ n10_; (try clear hb); (try clear hb2); (try clear hk); (try clear hi)))
          go_ret
          exact ⟨by first | rfl | (simp [errW_none, errW_some] <;> rfl) | (simp [*, errW_none, errW_some] <;> rfl), by repeat (first | (with_reducible first | exact HB.out | apply below_alloc | apply pw_below_drewN | apply below_drew1 | refine below_set ?_ GE147.out) | exact HB.out)⟩
         ·rw [if_neg c18] at H
          have c18b0 : (t179 == 1) = false := beq_eq_false_iff_ne.mpr c18
          have c18b1 : (t179 != 1) = true := bne_iff_ne.mpr c18
          obtain rfl := Option.some.inj H
          exact absurd HR0.out (by decide)
        ·rw [if_neg c16] at H
         have c16b0 : (t178 == 2) = false := beq_eq_false_iff_ne.mpr c16
         have c16b1 : (t178 != 2) = true := bne_iff_ne.mpr c16
         obtain rfl := Option.some.inj H
         exact absurd HR0.out (by decide)
       ·rw [if_neg c14] at H
        have c14b0 : (t177 == 3) = false := beq_eq_false_iff_ne.mpr c14
        have c14b1 : (t177 != 3) = true := bne_iff_ne.mpr c14
        obtain rfl := Option.some.inj H
        exact absurd HR0.out (by decide)
      ·rw [if_neg c12] at H
       have c12b0 : (t176 == 1) = false := beq_eq_false_iff_ne.mpr c12
       have c12b1 : (t176 != 1) = true := bne_iff_ne.mpr c12
       obtain rfl := Option.some.inj H
       exact absurd HR0.out (by decide)
     ·rw [if_neg c10] at H
      have c10b0 : (t167 == 0) = false := beq_eq_false_iff_ne.mpr c10
      have c10b1 : (t167 != 0) = true := bne_iff_ne.mpr c10
      obtain rfl := Option.some.inj H
      exact absurd HR0.out (by decide)
    ·replace c9 := Bool.eq_false_iff.mpr c9
     subst c9
     have H1 : (some false) = some r := by rw [if_neg (show ¬ (false = true) by decide)] at H; exact H
     clear H
     have H := H1
     clear H1
     obtain rfl := Option.some.inj H
     exact absurd HR0.out (by decide)
   ·rw [if_neg c7] at H
    have c7b0 : (t163 == 0) = false := beq_eq_false_iff_ne.mpr c7
    have c7b1 : (t163 != 0) = true := bne_iff_ne.mpr c7
    obtain rfl := Option.some.inj H
    exact absurd HR0.out (by decide)
  ·replace c6 := Bool.eq_false_iff.mpr c6
   subst c6
   have H1 : (some false) = some r := by rw [if_neg (show ¬ (false = true) by decide)] at H; exact H
   clear H
   have H := H1
   clear H1
   obtain rfl := Option.some.inj H
   exact absurd HR0.out (by decide)
 ·rw [if_neg c2] at H
  exact absurd H (by simp)
theorem argosylaw14_lives.at_ : argosylaw14_lives.f 80 = some true := by decide +kernel
theorem argosylaw14_lives.up_ : ∀ (m k : Nat) (r : Bool), argosylaw14_lives.f k = some r → argosylaw14_lives.f (k + m) = some r
 | 0, _, _, h => h
 | m + 1, k, r, h => argosylaw14_lives.mono _ _ (argosylaw14_lives.up_ m k r h)
theorem argosylaw14_lives.only_ {k : Nat} {r : Bool} (h : argosylaw14_lives.f k = some r) : r = true := by
 have a := argosylaw14_lives.up_ 80 k r h
 have b := argosylaw14_lives.up_ k 80 true argosylaw14_lives.at_
 rw [Nat.add_comm] at b
 exact Option.some.inj (a.symm.trans b)
theorem argosylaw14_lives.calls (k : Nat)  (r : Bool) (w : World) (h : argosylaw14_lives.f k  = some r) :
  Calls Try.prog 8 #[] w fun e w' => e = .returned (.bool r) ∧ Below w.heap.size w w' := argosylaw14_lives.calls_ k r w (argosylaw14_lives.only_ h) h
end Go.Proofs.Ytihpndignekheaa.F
end

section
namespace Go.Proofs.Ytihpndignekheaa.Pure
set_option linter.unusedVariables false
open Go.RowKit Go.Proofs.Ytihpndignekheaa.F Go.Proofs.YtihpndignekheaaW.PrintWords Go.Proofs.YtihpndignekheaaW.PrintLast
theorem w64f (x : Int) (h : -9223372036854775808 ≤ x ∧ x ≤ 9223372036854775807) : wrap64 x = x := by unfold wrap64; omega
theorem fine_iff (a b c : Int) (d : Bool) : fineB ⟨a, b, c, d⟩ = true ↔ (0 ≤ a ∧ a ≤ 3 ∧ 0 ≤ c ∧ c ≤ 3 ∧ (b = c ∨ b = c + 1) ∧ (b > 0 → a = 2) ∧ (d = true → b > c)) := by
 unfold fineB
 simp only [Bool.and_eq_true, Bool.or_eq_true, decide_eq_true_eq, Bool.not_eq_true', decide_eq_false_iff_not]
 constructor
 ·rintro ⟨⟨⟨⟨⟨⟨h1, h2⟩, h3⟩, h4⟩, h5⟩, h6⟩, h7⟩
  refine ⟨h1, h2, h3, h4, h5, fun h => ?_, fun h => ?_⟩
  ·rcases h6 with h6 | h6
   ·exact absurd h h6
   ·exact h6
  ·rcases h7 with h7 | h7
   ·rw [h] at h7; cases h7
   ·exact h7
 ·rintro ⟨h1, h2, h3, h4, h5, h6, h7⟩
  refine ⟨⟨⟨⟨⟨⟨h1, h2⟩, h3⟩, h4⟩, h5⟩, ?_⟩, ?_⟩
  ·by_cases h : b > 0
   ·exact .inr (h6 h)
   ·exact .inl h
  ·cases d
   ·exact .inl rfl
   ·exact .inr (h7 rfl)
theorem event_kinds {k it t : Int} {s : List Int} (h : eventB k it t s = true) : (k = 1 ∨ k = 2 ∨ k = 3 ∨ k = 4 ∨ k = 5 ∨ k = 6) ∧ 0 ≤ t ∧ t ≤ 3 := by
 unfold eventB at h
 split at h
 ·simp at h; omega
 ·split at h
  ·simp at h; omega
  ·simp at h
theorem known_law (a b c : Int) (d : Bool) (t k : Int) (hk : (k = 1 ∨ k = 2 ∨ k = 3 ∨ k = 4 ∨ k = 5 ∨ k = 6) ∧ 0 ≤ t ∧ t ≤ 3) (hf : fineB ⟨a, b, c, d⟩ = true) (h2 : (knownF ⟨a, b, c, d⟩ t k).2 = true) :
  fineB (knownF ⟨a, b, c, d⟩ t k).1 = true ∧ (knownF (knownF ⟨a, b, c, d⟩ t k).1 t k).2 = false ∧ ¬ (knownF ⟨a, b, c, d⟩ t k).1 = ⟨a, b, c, d⟩ := by
 rw [fine_iff] at hf
 obtain ⟨f1, f2, f3, f4, f5, f6, f7⟩ := hf
 have w1 : wrap64 (b + 1) = b + 1 := w64f _ (by omega)
 have w2 : wrap64 (c + 1) = c + 1 := w64f _ (by omega)
 have w3 : wrap64 (c + 1 + 1) = c + 1 + 1 := w64f _ (by omega)
 obtain ⟨hk, t0, t3⟩ := hk
 rcases hk with rfl | rfl | rfl | rfl | rfl | rfl
 ·simp only [knownF, if_true] at h2 ⊢
  have : a = 0 := by simpa using h2
  subst this
  refine ⟨by rw [fine_iff]; simp, by decide, fun h => ?_⟩
  injection h; omega
 ·simp only [knownF, if_true] at h2 ⊢
  have : a = 1 := by simpa using h2
  subst this
  refine ⟨by rw [fine_iff]; simp, by decide, fun h => ?_⟩
  injection h; omega
 ·simp only [knownF, if_true] at h2 ⊢
  have : a = 1 := by simpa using h2
  subst this
  refine ⟨by rw [fine_iff]; simp, by decide, fun h => ?_⟩
  injection h; omega
 ·simp [knownF, w1] at h2 ⊢
  obtain ⟨⟨⟨h3, h4⟩, h5⟩, h6⟩ := h2
  subst h4
  refine ⟨?_, ?_⟩
  ·rw [fine_iff]; refine ⟨f1, f2, f3, f4, ?_, fun _ => h3, fun h => by cases h⟩; omega
  ·exact ⟨fun _ _ h => by omega, by omega⟩
 ·simp [knownF, w2] at h2 ⊢
  obtain ⟨⟨h3, h4⟩, h5⟩ := h2
  subst h4
  first
  | (rw [fine_iff]; refine ⟨f1, f2, f3, f4, f5, f6, fun _ => ?_⟩; omega)
  | (refine ⟨?_, ?_⟩ <;> first | (rw [fine_iff]; refine ⟨f1, f2, f3, f4, f5, f6, fun _ => ?_⟩; omega) | simp)
 ·simp [knownF, w2, w3] at h2 ⊢
  obtain ⟨⟨⟨h3, h4⟩, h5⟩, h6⟩ := h2
  subst h4
  refine ⟨?_, ?_⟩
  ·rw [fine_iff]; refine ⟨f1, f2, ?_, ?_, ?_, f6, fun h => by cases h⟩ <;> omega
  ·omega
theorem apply_ok {p : List S37} {l : List S59} {k it t : Int} {s : List Int} (h : (applyL p l k it t s).2 = 0) :
  factsB p l = true ∧ eventB k it t s = true ∧ (0 < it ∧ it < (l.length : Int)) ∧ (rd_T37 p it).f2 = false ∧ (knownF (rd_T59 l it) t k).2 = true ∧ (applyL p l k it t s).1 = l.set it.toNat (knownF (rd_T59 l it) t k).1 := by
 unfold applyL at h ⊢
 by_cases h1 : factsB p l = true
 ·rw [if_pos h1] at h ⊢
  by_cases h2 : eventB k it t s = true
  ·by_cases h3 : (l.length : Int) ≤ it
   ·have hx : applyB p l k it t s = (14, l) := by unfold applyB; rw [if_pos h2, if_pos h3]
    rw [hx] at h; simp at h
   ·by_cases h4 : (rd_T37 p it).f2 = true
    ·have hx : applyB p l k it t s = (14, l) := by unfold applyB; rw [if_pos h2, if_neg h3, if_pos h4]
     rw [hx] at h; simp at h
    ·by_cases h5 : (knownF (rd_T59 l it) t k).2 = true
     ·have hx : applyB p l k it t s = (0, l.set it.toNat (knownF (rd_T59 l it) t k).1) := by unfold applyB; rw [if_pos h2, if_neg h3, if_neg h4, if_pos h5]
      rw [hx]
      exact ⟨h1, h2, ⟨(eventB_item h2).1, by omega⟩, by simpa using h4, h5, rfl⟩
     ·have hx : applyB p l k it t s = (14, l) := by unfold applyB; rw [if_pos h2, if_neg h3, if_neg h4, if_neg h5]
      rw [hx] at h; simp at h
  ·have hx : applyB p l k it t s = (2, l) := by unfold applyB; rw [if_neg h2]
   rw [hx] at h; simp at h
 ·rw [if_neg h1] at h; simp at h
theorem rd_set (l : List S59) (n : Nat) (x : S59) (j : Nat) (hn : n < l.length) : rd_T59 (l.set n x) (j : Int) = if n = j then x else rd_T59 l (j : Int) := by
 unfold rd_T59
 rw [Int.toNat_natCast, List.getD_eq_getElem?_getD, List.getD_eq_getElem?_getD, List.getElem?_set]
 split
 ·first | rfl | (rw [if_pos (by omega)]; rfl)
 ·rfl
theorem facts_iff (p : List S37) (l : List S59) : factsB p l = true ↔ (l.length = p.length ∧ rightB p = true ∧ ∀ j, j < l.length → factOk p l j = true) := by
 unfold factsB
 simp only [Bool.and_eq_true, decide_eq_true_eq, List.all_eq_true, List.mem_range'_1]
 constructor
 ·rintro ⟨h1, h2, h3⟩; exact ⟨h1, h2, fun j hj => h3 j (by omega)⟩
 ·rintro ⟨h1, h2, h3⟩; exact ⟨h1, h2, fun j hj => h3 j (by omega)⟩
theorem apply_law {p : List S37} {l : List S59} {k it t : Int} {s : List Int} (h : (applyL p l k it t s).2 = 0) :
  factsB p (applyL p l k it t s).1 = true ∧ (applyL p (applyL p l k it t s).1 k it t s).2 = 14 ∧ (applyL p l k it t s).1.length = l.length ∧ ∀ j : Nat, j < l.length → (rd_T59 (applyL p l k it t s).1 (j : Int) = rd_T59 l (j : Int) ↔ ¬ (j : Int) = it) := by
 obtain ⟨h1, h2, ⟨h3, h4⟩, h5, h6, h7⟩ := apply_ok h
 obtain ⟨n, rfl⟩ := Int.eq_ofNat_of_zero_le (Int.le_of_lt h3)
 rw [Int.toNat_natCast] at h7
 rw [h7]
 obtain ⟨f1, f2, f3⟩ := (facts_iff p l).1 h1
 have hn : n < l.length := by omega
 have hok := f3 n hn
 unfold factOk at hok
 rw [h5, Bool.and_eq_true] at hok
 have hkn : ∀ x : S59, fineB x = true → (knownF x t k).2 = true → fineB (knownF x t k).1 = true ∧ (knownF (knownF x t k).1 t k).2 = false ∧ ¬ (knownF x t k).1 = x := fun ⟨a, b, c, d⟩ hx hy => known_law a b c d t k (event_kinds h2) hx hy
 obtain ⟨g1, g2, g3⟩ := hkn _ hok.1 h6
 have hF : factsB p (l.set n (knownF (rd_T59 l (n : Int)) t k).1) = true := by
  rw [facts_iff]
  refine ⟨by rw [List.length_set]; exact f1, f2, fun j hj => ?_⟩
  rw [List.length_set] at hj
  unfold factOk
  rw [rd_set _ _ _ _ hn]
  by_cases hnj : n = j
  ·subst hnj
   rw [if_pos rfl, h5, g1]; rfl
  ·rw [if_neg hnj]
   exact f3 j hj
 refine ⟨hF, ?_, by rw [List.length_set], fun j hj => ?_⟩
 ·have hx : applyB p (l.set n (knownF (rd_T59 l (n : Int)) t k).1) k n t s = (14, l.set n (knownF (rd_T59 l (n : Int)) t k).1) := by
   unfold applyB
   rw [if_pos h2, if_neg (by rw [List.length_set]; omega), if_neg (by rw [h5]; simp), rd_set _ _ _ _ hn, if_pos rfl, if_neg (by rw [g2]; simp)]
  unfold applyL
  rw [if_pos hF, hx]
  rfl
 ·rw [rd_set _ _ _ _ hn]
  by_cases hnj : n = j
  ·subst hnj
   rw [if_pos rfl]
   exact ⟨fun h => absurd h g3, fun h => absurd rfl h⟩
  ·rw [if_neg hnj]
   exact ⟨fun _ h => hnj (by omega), fun _ => rfl⟩
end Go.Proofs.Ytihpndignekheaa.Pure
end

section
namespace Go.Proofs.Ytihpndignekheaa.Pure
set_option linter.unusedVariables false
set_option linter.unusedSectionVars false
open Go.RowKit Go.Proofs.Ytihpndignekheaa.F Go.Proofs.YtihpndignekheaaW.PrintWords Go.Proofs.YtihpndignekheaaW.PrintLast
theorem rd_item {l : List S37} {i : Nat} (hl : i < l.length) : rd_T37 l (i : Int) = l[i] := by unfold rd_T37; rw [Int.toNat_natCast, List.getD_eq_getElem?_getD, List.getElem?_eq_getElem hl]; rfl
section
variable {Q : S37 → Prop} (hQ : ∀ (x : S37) (m : List Int), Q x → Q ⟨x.f0, x.f1, x.f2, x.f3, x.f4, x.f5, x.f6, m⟩)
 (hN : ∀ (x : S79) (inn alt : Int), fitsS x = true → Q ⟨x.f0, x.f1, x.f3, x.f4, (x.f5.length : Int), inn, alt, []⟩)
def QA (Q : S37 → Prop) (l : List S37) : Prop := ∀ x ∈ l, Q x
theorem QA.snoc {l : List S37} (h : QA Q l) {x : S37} (hx : Q x) : QA Q (l ++ [x]) := by
 intro y hy
 rcases List.mem_append.1 hy with hy | hy
 ·exact h y hy
 ·rw [List.mem_singleton.1 hy]; exact hx
include hQ in
theorem QA.after {l : List S37} (h : QA Q l) (a k : Int) : QA Q (addAfter l a k) := by
 intro y hy
 unfold addAfter at hy
 by_cases hl : a.toNat < l.length
 ·have hr : rd_T37 l a = l[a.toNat] := by unfold rd_T37; rw [List.getD_eq_getElem?_getD, List.getElem?_eq_getElem hl]; rfl
  rcases List.mem_or_eq_of_mem_set hy with hy | hy
  ·exact h y hy
  ·rw [hy]; exact hQ _ _ (by rw [hr]; exact h _ (List.getElem_mem hl))
 ·rw [List.set_eq_of_length_le (by omega)] at hy
  exact h y hy
include hQ in
theorem QA.arcs (b : List S79) (ats : List Int) (a : Int) : ∀ (s : List ByteArray) (l : List S37), QA Q l → QA Q (arcsTo b ats a s l)
 | [], _, h => h
 | x :: s, l, h => by rw [arcsTo]; exact QA.arcs b ats a s _ (QA.after hQ h _ _)
include hQ in
theorem QA.pass2 (b : List S79) (ats : List Int) : ∀ (n : List S79) (i : Nat) (l : List S37), QA Q l → QA Q (F.pass2 b ats i n l)
 | [], _, _, h => h
 | x :: n, i, l, h => by rw [F.pass2]; exact QA.pass2 b ats n (i + 1) _ (QA.arcs hQ _ _ _ _ _ h)
theorem fits_alts {nm un : ByteArray} {af : List ByteArray} {sb vi : Bool} {al : List (SB82 S79)} (h : fitsS ⟨nm, un, af, sb, vi, al⟩ = true) : altsFit al = true ∧ (sb = false → al = []) ∧ (sb = true → 0 < al.length) := by
 unfold fitsS at h
 split at h
 ·cases h
 ·cases sb with
  | true =>
   simp only [if_true, Bool.and_eq_true, decide_eq_true_eq] at h
   exact ⟨h.2.1, fun e => (by cases e), fun _ => h.2.2⟩
  | false =>
   simp only [Bool.false_eq_true, if_false, Bool.and_eq_true, decide_eq_true_eq] at h
   obtain rfl := List.length_eq_zero_iff.1 h.2.1
   exact ⟨by unfold altsFit; rfl, fun _ => rfl, fun e => by cases e⟩
include hQ hN in
mutual
theorem QA.node (inn alt : Int) (out : List S37) (h : QA Q out) : ∀ x : S79, fitsS x = true → QA Q (flNode inn alt out x)
 | ⟨nm, un, af, sb, vi, al⟩, hf => by
  unfold flNode
  exact QA.alts _ _ _ (QA.snoc h (hN ⟨nm, un, af, sb, vi, al⟩ inn alt hf)) al (fits_alts hf).1
theorem QA.nodes (inn alt : Int) (out : List S37) (nums : List Int) (h : QA Q out) : ∀ l : List S79, nodesFit l = true → QA Q (flNodes inn alt out nums l).1
 | [], _ => by simpa [flNodes] using h
 | x :: l, hf => by
  unfold nodesFit at hf
  rw [Bool.and_eq_true] at hf
  unfold flNodes
  exact QA.nodes inn alt _ _ (QA.node inn alt out h x hf.1) l hf.2
theorem QA.body (inn alt : Int) (out : List S37) (h : QA Q out) : ∀ b : SB82 S79, bodyFits b = true → QA Q (flBody inn alt out b)
 | ⟨l⟩, hf => by
  unfold bodyFits at hf
  unfold flBody
  exact QA.pass2 hQ _ _ _ _ _ (QA.nodes inn alt out [] h l hf)
theorem QA.alts (inn alt : Int) (out : List S37) (h : QA Q out) : ∀ l : List (SB82 S79), altsFit l = true → QA Q (flAlts inn alt out l)
 | [], _ => by simpa [flAlts] using h
 | b :: l, hf => by
  unfold altsFit at hf
  rw [Bool.and_eq_true] at hf
  unfold flAlts
  exact QA.alts inn (alt + 1) _ (QA.body inn alt out h b hf.1) l hf.2
end
end
theorem eqAll_get {α β : Type} (p : α → β → Bool) : ∀ (l : List α) (m : List β), eqAll p l m = true → l.length = m.length ∧ ∀ (i : Nat) (h1 : i < l.length) (h2 : i < m.length), p l[i] m[i] = true
 | [], [], _ => ⟨rfl, fun i h1 _ => by simp at h1⟩
 | x :: l, y :: m, h => by
  unfold eqAll at h
  rw [Bool.and_eq_true] at h
  have ih := eqAll_get p l m h.2
  refine ⟨by simp [ih.1], fun i h1 h2 => ?_⟩
  cases i with
  | zero => exact h.1
  | succ i => exact ih.2 i (by simpa using h1) (by simpa using h2)
 | [], _ :: _, h => by unfold eqAll at h; cases h
 | _ :: _, [], h => by unfold eqAll at h; cases h
def ItemQ (x : S37) : Prop := (x.f2 = false → x.f4 = 0) ∧ (x.f2 = true → 1 ≤ x.f4)
theorem right_saga {p : List S37} (h : rightB p = true) : shapedB p = true ∧ checkB (nameP p) (sagaOf p) = true ∧ p.length = (makeL (nameP p) (sagaOf p)).length ∧ ∀ (i : Nat) (h1 : i < p.length) (h2 : i < (makeL (nameP p) (sagaOf p)).length), alikeB p[i] (makeL (nameP p) (sagaOf p))[i] = true := by
 unfold rightB at h
 simp only [Bool.and_eq_true] at h
 exact ⟨h.1, h.2.1, (eqAll_get _ _ _ h.2.2).1, (eqAll_get _ _ _ h.2.2).2⟩
theorem check_fits {nm : ByteArray} {l : List BodyK} (h : checkB nm l = true) : altsFit l = true ∧ 0 < l.length := by
 have h1 := (check_small h).2.2.2.2.2
 unfold checkI at h1
 split at h1
 ·split at h1
  ·omega
  ·split at h1
   ·omega
   ·split at h1
    ·rename_i hb
     unfold bodiesOk at hb
     rw [Bool.and_eq_true, decide_eq_true_eq] at hb
     exact hb
    ·omega
 ·omega
theorem right_items {p : List S37} (h : rightB p = true) (i : Nat) (hi : i < p.length) : ItemQ (rd_T37 p (i : Int)) := by
 obtain ⟨h1, h2, h3, h4⟩ := right_saga h
 have hf := check_fits h2
 have hm : QA ItemQ (makeL (nameP p) (sagaOf p)) := by
  unfold makeL
  refine QA.alts (fun x m hx => hx) (fun x inn alt hx => ?_) 0 0 _ ?_ _ hf.1
  ·obtain ⟨nm, un, af, sb, vi, al⟩ := x
   obtain ⟨-, k1, k2⟩ := fits_alts hx
   refine ⟨fun e => ?_, fun e => ?_⟩
   ·have := k1 e
    simp [this]
   ·have := k2 e
    show 1 ≤ (al.length : Int)
    omega
  ·intro x hx
   rw [List.mem_singleton.1 hx]
   refine ⟨fun e => (by cases e), fun _ => ?_⟩
   show 1 ≤ ((sagaOf p).length : Int)
   omega
 have h5 := h4 i hi (by omega)
 have h6 := hm _ (List.getElem_mem (show i < (makeL (nameP p) (sagaOf p)).length by omega))
 rw [rd_item hi]
 unfold alikeB at h5
 simp only [Bool.and_eq_true, beq_iff_eq, decide_eq_true_eq] at h5
 unfold ItemQ at h6 ⊢
 rw [h5.2.2.1, h5.2.2.2.2.1]
 exact h6
theorem item_in {p : List S37} (h : rightB p = true) (i : Nat) (hi : i < p.length) (h0 : i ≠ 0) : ∃ a k : Nat, (rd_T37 p (i : Int)).f5 = a ∧ (rd_T37 p (i : Int)).f6 = k ∧ a < i ∧ (k : Int) < (rd_T37 p (a : Int)).f4 ∧ (rd_T37 p (a : Int)).f2 = true := by
 obtain ⟨h1, -⟩ := right_saga h
 have h2 := itemB_in (shaped_at h1 hi) h0
 rw [← rd_item hi] at h2
 obtain ⟨a, ha⟩ := Int.eq_ofNat_of_zero_le h2.1
 obtain ⟨k, hk⟩ := Int.eq_ofNat_of_zero_le h2.2.2.1
 rw [ha] at h2
 rw [hk] at h2
 have hal : a < p.length := by omega
 have h3 := right_items h a hal
 refine ⟨a, k, ha, hk, by omega, h2.2.2.2, ?_⟩
 cases hs : (rd_T37 p (a : Int)).f2
 ·have := h3.1 hs
  have := h2.2.2.2
  omega
 ·rfl
end Go.Proofs.Ytihpndignekheaa.Pure
end

section
namespace Go.Proofs.Ytihpndignekheaa.Pure
set_option linter.unusedVariables false
open Go.RowKit Go.Proofs.Ytihpndignekheaa.F Go.Proofs.YtihpndignekheaaW.PrintWords Go.Proofs.YtihpndignekheaaW.PrintLast
abbrev I_ (p : List S37) (i : Nat) : S37 := rd_T37 p (i : Int)
abbrev L_ (l : List S59) (i : Nat) : S59 := rd_T59 l (i : Int)
theorem sagaS_tc (n : Nat) (f : Nat → By) (x : Fl) : (sagaS n f x).tc = x.tc := by unfold sagaS; split <;> rfl
theorem sagaS_ha (n : Nat) (f : Nat → By) (x : Fl) : (sagaS n f x).ha = x.ha := by unfold sagaS; split <;> rfl
def kid (p : List S37) (i a k : Nat) : Prop := i ≠ 0 ∧ (I_ p i).f5.toNat = a ∧ (I_ p i).f6.toNat = k
def flLow (t : Bool) : Fl := ⟨false, t, false, false, false, 0⟩
structure DownAt (p : List S37) (l : List S59) (m : Nat) (s : St) : Prop where
 fa : ∀ a k, (s.bo a k).fa = true ↔ ∃ i, m ≤ i ∧ i < p.length ∧ kid p i a k ∧ ((L_ l i).f0 = 3 ∨ ((I_ p i).f3 = true ∧ (s.it i).sp = true))
 cl : ∀ a k, (s.bo a k).cl = true ↔ ∀ i, m ≤ i → i < p.length → kid p i a k → (s.it i).cl = true
 wh : ∀ a k, (s.bo a k).wh = true ↔ ∀ i, m ≤ i → i < p.length → kid p i a k → ((s.it i).dn = true ∨ ((s.it i).sp = true ∧ (I_ p i).f3 = false))
 tc : ∀ a, (a < m ∨ (I_ p a).f2 = true) → ((s.it a).tc = true ↔ ∃ i, m ≤ i ∧ i < p.length ∧ i ≠ 0 ∧ (I_ p i).f5.toNat = a ∧ (s.it i).tc = true)
 step : ∀ i, m ≤ i → i < p.length → (I_ p i).f2 = false → s.it i = stepS (L_ l i)
 saga : ∀ i, m ≤ i → i < p.length → (I_ p i).f2 = true → s.it i = sagaS (I_ p i).f4.toNat (s.bo i) (flLow (s.it i).tc)
 low : ∀ a, a < m → s.it a = flLow (s.it a).tc
def InP (p : List S37) : Prop := ∀ i, i < p.length → i ≠ 0 → (I_ p i).f5.toNat < i ∧ (I_ p (I_ p i).f5.toNat).f2 = true
theorem down_start (p : List S37) (l : List S59) : DownAt p l p.length stA where
 fa := fun a k => ⟨fun h => (by cases h), fun ⟨i, h1, h2, _⟩ => by omega⟩
 cl := fun a k => ⟨fun _ i h1 h2 => by omega, fun _ => rfl⟩
 wh := fun a k => ⟨fun _ i h1 h2 => by omega, fun _ => rfl⟩
 tc := fun a _ => ⟨fun h => (by cases h), fun ⟨i, h1, h2, _⟩ => by omega⟩
 step := fun i h1 h2 => by omega
 saga := fun i h1 h2 => by omega
 low := fun a _ => rfl
def ownF (p : List S37) (l : List S59) (s : St) (m : Nat) : Fl := if (I_ p m).f2 then sagaS (I_ p m).f4.toNat (s.bo m) (s.it m) else stepS (L_ l m)
theorem turn_own (p : List S37) (l : List S59) (s : St) (m : Nat) : turnS p l s m = if m = 0 then s.setIt m (ownF p l s m) else handS (I_ p m).f3 (L_ l m).f0 (ownF p l s m) (s.setIt m (ownF p l s m)) (I_ p m).f5.toNat (I_ p m).f6.toNat := by
 have e : ∀ f : Fl, (s.setIt m f).it m = f := fun f => by unfold St.setIt; exact if_pos rfl
 unfold turnS ownF
 by_cases h : (rd_T37 p (m : Int)).f2 = true
 ·rw [if_pos h, if_pos h]; simp only [e]
 ·rw [if_neg h, if_neg h]; simp only [e]
theorem own_tc {p : List S37} {l : List S59} {s : St} {m : Nat} (h : (I_ p m).f2 = true) : (ownF p l s m).tc = (s.it m).tc := by
 unfold ownF
 rw [if_pos h, sagaS_tc]
theorem own_saga {p : List S37} {l : List S59} {s : St} {m : Nat} (h : (I_ p m).f2 = true) (hl : s.it m = flLow (s.it m).tc) : ownF p l s m = sagaS (I_ p m).f4.toNat (s.bo m) (flLow (s.it m).tc) := by
 unfold ownF
 rw [if_pos h, ← hl]
theorem own_step {p : List S37} {l : List S59} {s : St} {m : Nat} (h : (I_ p m).f2 = false) : ownF p l s m = stepS (L_ l m) := by
 unfold ownF
 rw [if_neg (by simp [h])]
theorem down_last {p : List S37} {l : List S59} {s : St} (h : DownAt p l 1 s) (hn : 0 < p.length) : DownAt p l 0 (turnS p l s 0) := by
 rw [turn_own, if_pos rfl]
 have e0 : ∀ f : Fl, (s.setIt 0 f).it 0 = f := fun f => by unfold St.setIt; simp
 have e1 : ∀ (f : Fl) (i : Nat), i ≠ 0 → (s.setIt 0 f).it i = s.it i := fun f i hi => by unfold St.setIt; exact if_neg hi
 have eb : ∀ (f : Fl), (s.setIt 0 f).bo = s.bo := fun f => rfl
 have hl := h.low 0 (by omega)
 constructor
 ·intro a k
  rw [eb, h.fa a k]
  constructor
  ·rintro ⟨i, h1, h2, h3, h4⟩
   exact ⟨i, by omega, h2, h3, by rw [e1 _ _ h3.1]; exact h4⟩
  ·rintro ⟨i, h1, h2, h3, h4⟩
   have := h3.1
   exact ⟨i, by omega, h2, h3, by rw [e1 _ _ h3.1] at h4; exact h4⟩
 ·intro a k
  rw [eb, h.cl a k]
  constructor
  ·intro g i h1 h2 h3
   have := h3.1
   rw [e1 _ _ h3.1]
   exact g i (by omega) h2 h3
  ·intro g i h1 h2 h3
   have := g i (by omega) h2 h3
   rwa [e1 _ _ h3.1] at this
 ·intro a k
  rw [eb, h.wh a k]
  constructor
  ·intro g i h1 h2 h3
   have := h3.1
   rw [e1 _ _ h3.1]
   exact g i (by omega) h2 h3
  ·intro g i h1 h2 h3
   have := g i (by omega) h2 h3
   rwa [e1 _ _ h3.1] at this
 ·intro a ha
  have ha2 : (I_ p a).f2 = true := by
   rcases ha with ha | ha
   ·omega
   ·exact ha
  have e : ((s.setIt 0 (ownF p l s 0)).it a).tc = (s.it a).tc := by
   by_cases hz : a = 0
   ·subst hz; rw [e0, own_tc ha2]
   ·rw [e1 _ _ hz]
  rw [e, h.tc a (.inr ha2)]
  constructor
  ·rintro ⟨i, h1, h2, h3, h4, h5⟩
   exact ⟨i, by omega, h2, h3, h4, by rw [e1 _ _ h3]; exact h5⟩
  ·rintro ⟨i, h1, h2, h3, h4, h5⟩
   exact ⟨i, by omega, h2, h3, h4, by rw [e1 _ _ h3] at h5; exact h5⟩
 ·intro i h1 h2 h3
  by_cases hz : i = 0
  ·subst hz; rw [e0, own_step h3]
  ·rw [e1 _ _ hz]; exact h.step i (by omega) h2 h3
 ·intro i h1 h2 h3
  rw [eb]
  by_cases hz : i = 0
  ·subst hz; rw [e0, own_tc h3]; exact own_saga h3 hl
  ·rw [e1 _ _ hz]; exact h.saga i (by omega) h2 h3
 ·intro a ha; omega
theorem down_turn {p : List S37} {l : List S59} {s : St} {m : Nat} (hI : InP p) (h : DownAt p l (m + 1) s) (hm : m < p.length) : DownAt p l m (turnS p l s m) := by
 by_cases hz : m = 0
 ·subst hz; exact down_last h hm
 rw [turn_own, if_neg hz]
 obtain ⟨hin1, hin2⟩ := hI m hm hz
 have hl := h.low m (by omega)
 generalize hF : ownF p l s m = F
 generalize ha0 : (I_ p m).f5.toNat = a0 at hin1 hin2 ⊢
 generalize hk0 : (I_ p m).f6.toNat = k0
 have em : (handS (I_ p m).f3 (L_ l m).f0 F (s.setIt m F) a0 k0).it m = F := by
  unfold handS St.setIt St.setBo
  dsimp only
  rw [if_neg (by omega), if_pos rfl]
 have ei : ∀ i, i ≠ m → i ≠ a0 → (handS (I_ p m).f3 (L_ l m).f0 F (s.setIt m F) a0 k0).it i = s.it i := fun i h1 h2 => by
  unfold handS St.setIt St.setBo
  dsimp only
  rw [if_neg h2, if_neg h1]
 have ea : (handS (I_ p m).f3 (L_ l m).f0 F (s.setIt m F) a0 k0).it a0 = (s.it a0).touch F.tc := by
  unfold handS St.setIt St.setBo
  dsimp only
  rw [if_pos rfl, if_neg (by omega)]
 have eb0 : (handS (I_ p m).f3 (L_ l m).f0 F (s.setIt m F) a0 k0).bo a0 k0 = handB (I_ p m).f3 (L_ l m).f0 F (s.bo a0 k0) := by
  unfold handS St.setIt St.setBo
  dsimp only
  rw [if_pos ⟨rfl, rfl⟩]
 have eb : ∀ a k, ¬ (a = a0 ∧ k = k0) → (handS (I_ p m).f3 (L_ l m).f0 F (s.setIt m F) a0 k0).bo a k = s.bo a k := fun a k hn => by
  unfold handS St.setIt St.setBo
  dsimp only
  rw [if_neg hn]
 generalize hS : handS (I_ p m).f3 (L_ l m).f0 F (s.setIt m F) a0 k0 = s' at em ei ea eb0 eb ⊢
 have hkm : kid p m a0 k0 := ⟨hz, ha0, hk0⟩
 have hkm' : ∀ {a k}, kid p m a k → a = a0 ∧ k = k0 := fun hk => ⟨by rw [← hk.2.1, ha0], by rw [← hk.2.2, hk0]⟩
 have eg : ∀ i, m < i → s'.it i = s.it i := fun i hi => ei i (by omega) (by omega)
 constructor
 ·intro a k
  by_cases hak : a = a0 ∧ k = k0
  ·obtain ⟨rfl, rfl⟩ := hak
   rw [eb0]
   unfold handB
   simp only [Bool.or_eq_true, Bool.and_eq_true, beq_iff_eq]
   rw [h.fa a k]
   constructor
   ·rintro (⟨i, h1, h2, h3, h4⟩ | h4)
    ·exact ⟨i, by omega, h2, h3, by rw [eg i (by omega)]; exact h4⟩
    ·exact ⟨m, Nat.le_refl _, hm, hkm, by rw [em]; exact h4⟩
   ·rintro ⟨i, h1, h2, h3, h4⟩
    by_cases him : i = m
    ·subst him
     rw [em] at h4
     exact .inr h4
    ·exact .inl ⟨i, by omega, h2, h3, by rw [eg i (by omega)] at h4; exact h4⟩
  ·rw [eb a k hak, h.fa a k]
   constructor
   ·rintro ⟨i, h1, h2, h3, h4⟩
    exact ⟨i, by omega, h2, h3, by rw [eg i (by omega)]; exact h4⟩
   ·rintro ⟨i, h1, h2, h3, h4⟩
    by_cases him : i = m
    ·subst him; exact absurd (hkm' h3) hak
    ·exact ⟨i, by omega, h2, h3, by rw [eg i (by omega)] at h4; exact h4⟩
 ·intro a k
  by_cases hak : a = a0 ∧ k = k0
  ·obtain ⟨rfl, rfl⟩ := hak
   rw [eb0]
   unfold handB
   simp only [Bool.and_eq_true]
   rw [h.cl a k]
   constructor
   ·rintro ⟨g1, g2⟩ i h1 h2 h3
    by_cases him : i = m
    ·subst him; rw [em]; exact g2
    ·rw [eg i (by omega)]; exact g1 i (by omega) h2 h3
   ·intro g
    refine ⟨fun i h1 h2 h3 => ?_, ?_⟩
    ·have := g i (by omega) h2 h3
     rwa [eg i (by omega)] at this
    ·have := g m (Nat.le_refl _) hm hkm
     rwa [em] at this
  ·rw [eb a k hak, h.cl a k]
   constructor
   ·intro g i h1 h2 h3
    by_cases him : i = m
    ·subst him; exact absurd (hkm' h3) hak
    ·rw [eg i (by omega)]; exact g i (by omega) h2 h3
   ·intro g i h1 h2 h3
    have := g i (by omega) h2 h3
    rwa [eg i (by omega)] at this
 ·intro a k
  by_cases hak : a = a0 ∧ k = k0
  ·obtain ⟨rfl, rfl⟩ := hak
   rw [eb0]
   unfold handB
   simp only [Bool.and_eq_true, Bool.or_eq_true, Bool.not_eq_true']
   rw [h.wh a k]
   constructor
   ·rintro ⟨g1, g2⟩ i h1 h2 h3
    by_cases him : i = m
    ·subst him; rw [em]; exact g2
    ·rw [eg i (by omega)]; exact g1 i (by omega) h2 h3
   ·intro g
    refine ⟨fun i h1 h2 h3 => ?_, ?_⟩
    ·have := g i (by omega) h2 h3
     rwa [eg i (by omega)] at this
    ·have := g m (Nat.le_refl _) hm hkm
     rwa [em] at this
  ·rw [eb a k hak, h.wh a k]
   constructor
   ·intro g i h1 h2 h3
    by_cases him : i = m
    ·subst him; exact absurd (hkm' h3) hak
    ·rw [eg i (by omega)]; exact g i (by omega) h2 h3
   ·intro g i h1 h2 h3
    have := g i (by omega) h2 h3
    rwa [eg i (by omega)] at this
 ·intro a ha
  have ht := h.tc a (by rcases ha with ha | ha; exact .inl (by omega); exact .inr ha)
  by_cases haa : a = a0
  ·subst haa
   rw [ea]
   unfold Fl.touch
   simp only [Bool.or_eq_true]
   rw [ht]
   constructor
   ·rintro (⟨i, h1, h2, h3, h4, h5⟩ | h5)
    ·exact ⟨i, by omega, h2, h3, h4, by rw [eg i (by omega)]; exact h5⟩
    ·exact ⟨m, Nat.le_refl _, hm, hz, ha0, by rw [em]; exact h5⟩
   ·rintro ⟨i, h1, h2, h3, h4, h5⟩
    by_cases him : i = m
    ·subst him; rw [em] at h5; exact .inr h5
    ·exact .inl ⟨i, by omega, h2, h3, h4, by rw [eg i (by omega)] at h5; exact h5⟩
  ·have e : (s'.it a).tc = (s.it a).tc := by
    by_cases ham : a = m
    ·subst ham
     have ha2 : (I_ p a).f2 = true := by
      rcases ha with ha | ha
      ·omega
      ·exact ha
     rw [em, ← hF, own_tc ha2]
    ·rw [ei a ham haa]
   rw [e, ht]
   constructor
   ·rintro ⟨i, h1, h2, h3, h4, h5⟩
    exact ⟨i, by omega, h2, h3, h4, by rw [eg i (by omega)]; exact h5⟩
   ·rintro ⟨i, h1, h2, h3, h4, h5⟩
    by_cases him : i = m
    ·subst him; exact absurd (h4.symm.trans ha0) haa
    ·exact ⟨i, by omega, h2, h3, h4, by rw [eg i (by omega)] at h5; exact h5⟩
 ·intro i h1 h2 h3
  by_cases him : i = m
  ·subst him; rw [em, ← hF, own_step h3]
  ·rw [eg i (by omega)]; exact h.step i (by omega) h2 h3
 ·intro i h1 h2 h3
  have ebi : s'.bo i = s.bo i := by
   funext k
   exact eb i k (by omega)
  rw [ebi]
  by_cases him : i = m
  ·subst him
   have e : F.tc = (s.it i).tc := by rw [← hF, own_tc h3]
   rw [em, e, ← hF]; exact own_saga h3 hl
  ·rw [eg i (by omega)]; exact h.saga i (by omega) h2 h3
 ·intro a ha
  by_cases haa : a = a0
  ·subst haa
   rw [ea]
   have := h.low a (by omega)
   rw [this]
   rfl
  ·rw [ei a (by omega) haa]; exact h.low a (by omega)
theorem down_all {p : List S37} {l : List S59} (hI : InP p) : ∀ (m : Nat) (s : St), m ≤ p.length → DownAt p l m s → DownAt p l 0 (downS p l m s)
 | 0, s, _, h => h
 | m + 1, s, hm, h => by
  unfold downS
  exact down_all hI m _ (by omega) (down_turn hI h (by omega))
def Fl.noHa (f : Fl) : Fl := ⟨f.cl, f.tc, f.dn, f.sp, false, f.at_⟩
theorem up_all (p : List S37) (s0 : St) (hI : InP p) : ∀ (d i : Nat) (s : St), i + d = p.length → s.bo = s0.bo → (∀ j, Fl.noHa (s.it j) = Fl.noHa (s0.it j)) → (∀ j, 0 < j → j < i → (s.it j).ha = ((s.bo (I_ p j).f5.toNat (I_ p j).f6.toNat).fa || (s.it (I_ p j).f5.toNat).ha)) → (s.it 0).ha = (s0.it 0).ha →
  (upS p i d s).bo = s0.bo ∧ (∀ j, Fl.noHa ((upS p i d s).it j) = Fl.noHa (s0.it j)) ∧ (∀ j, 0 < j → j < p.length → ((upS p i d s).it j).ha = (((upS p i d s).bo (I_ p j).f5.toNat (I_ p j).f6.toNat).fa || ((upS p i d s).it (I_ p j).f5.toNat).ha)) ∧ ((upS p i d s).it 0).ha = (s0.it 0).ha
 | 0, i, s, hi, h1, h2, h3, h4 => by
  unfold upS
  exact ⟨h1, h2, fun j a b => h3 j a (by omega), h4⟩
 | d + 1, i, s, hi, h1, h2, h3, h4 => by
  unfold upS
  by_cases hz : i = 0
  ·subst hz
   have e : haltS p s 0 = s := by unfold haltS; exact if_pos rfl
   rw [e]
   exact up_all p s0 hI d 1 s (by omega) h1 h2 (fun j a b => by omega) h4
  ·have e : haltS p s i = s.setIt i (haltF p s i) := by unfold haltS; exact if_neg hz
   rw [e]
   have eii : (s.setIt i (haltF p s i)).it i = haltF p s i := by unfold St.setIt; exact if_pos rfl
   have eij : ∀ j, j ≠ i → (s.setIt i (haltF p s i)).it j = s.it j := fun j hj => by unfold St.setIt; exact if_neg hj
   have eb : (s.setIt i (haltF p s i)).bo = s.bo := rfl
   obtain ⟨hin, -⟩ := hI i (by omega) hz
   refine up_all p s0 hI d (i + 1) _ (by omega) (by rw [eb]; exact h1) (fun j => ?_) (fun j a b => ?_) ?_
   ·by_cases hj : j = i
    ·subst hj
     rw [eii, ← h2 j]
     rfl
    ·rw [eij j hj]; exact h2 j
   ·by_cases hj : j = i
    ·subst hj
     rw [eii, eb, eij _ (by omega)]
     rfl
    ·obtain ⟨hin2, -⟩ := hI j (by omega) (by omega)
     rw [eij j hj, eb, eij _ (by omega)]
     exact h3 j a (by omega)
   ·rw [eij 0 (fun h => hz h.symm)]; exact h4
structure MadeAt (p : List S37) (l : List S59) (s : St) : Prop where
 fa : ∀ a k, (s.bo a k).fa = true ↔ ∃ i, i < p.length ∧ kid p i a k ∧ ((L_ l i).f0 = 3 ∨ ((I_ p i).f3 = true ∧ (s.it i).sp = true))
 cl : ∀ a k, (s.bo a k).cl = true ↔ ∀ i, i < p.length → kid p i a k → (s.it i).cl = true
 wh : ∀ a k, (s.bo a k).wh = true ↔ ∀ i, i < p.length → kid p i a k → ((s.it i).dn = true ∨ ((s.it i).sp = true ∧ (I_ p i).f3 = false))
 tc : ∀ a, (I_ p a).f2 = true → ((s.it a).tc = true ↔ ∃ i, i < p.length ∧ i ≠ 0 ∧ (I_ p i).f5.toNat = a ∧ (s.it i).tc = true)
 step : ∀ i, i < p.length → (I_ p i).f2 = false → Fl.noHa (s.it i) = stepS (L_ l i)
 saga : ∀ i, i < p.length → (I_ p i).f2 = true → Fl.noHa (s.it i) = sagaS (I_ p i).f4.toNat (s.bo i) (flLow (s.it i).tc)
 ha0 : (s.it 0).ha = false
 ha : ∀ j, 0 < j → j < p.length → (s.it j).ha = ((s.bo (I_ p j).f5.toNat (I_ p j).f6.toNat).fa || (s.it (I_ p j).f5.toNat).ha)
theorem own_ha {p : List S37} {l : List S59} {s : St} (h : DownAt p l 0 s) {i : Nat} (hi : i < p.length) : (s.it i).ha = false := by
 cases hs : (I_ p i).f2
 ·rw [h.step i (by omega) hi hs]; rfl
 ·rw [h.saga i (by omega) hi hs, sagaS_ha]; rfl
theorem made_all {p : List S37} {l : List S59} (hn : 0 < p.length) (hI : InP p) : MadeAt p l (madeS p l) := by
 have h0 := down_all hI p.length stA (Nat.le_refl _) (down_start p l)
 unfold madeS
 generalize downS p l p.length stA = s0 at h0
 obtain ⟨h1, h2, h3, h4⟩ := up_all p s0 hI p.length 0 s0 (by omega) rfl (fun _ => rfl) (fun j a b => by omega) rfl
 generalize upS p 0 p.length s0 = s at h1 h2 h3 h4 ⊢
 have ecl : ∀ j, (s.it j).cl = (s0.it j).cl := fun j => (show (Fl.noHa (s.it j)).cl = (Fl.noHa (s0.it j)).cl by rw [h2 j])
 have etc : ∀ j, (s.it j).tc = (s0.it j).tc := fun j => (show (Fl.noHa (s.it j)).tc = (Fl.noHa (s0.it j)).tc by rw [h2 j])
 have edn : ∀ j, (s.it j).dn = (s0.it j).dn := fun j => (show (Fl.noHa (s.it j)).dn = (Fl.noHa (s0.it j)).dn by rw [h2 j])
 have esp : ∀ j, (s.it j).sp = (s0.it j).sp := fun j => (show (Fl.noHa (s.it j)).sp = (Fl.noHa (s0.it j)).sp by rw [h2 j])
 have hno : ∀ i, i < p.length → Fl.noHa (s0.it i) = s0.it i := fun i hi => by
  have := own_ha h0 hi
  unfold Fl.noHa
  rw [← this]
 constructor
 ·intro a k
  rw [h1, h0.fa a k]
  simp only [esp, Nat.zero_le, true_and]
 ·intro a k
  rw [h1, h0.cl a k]
  simp only [ecl, Nat.zero_le, true_implies]
 ·intro a k
  rw [h1, h0.wh a k]
  simp only [edn, esp, Nat.zero_le, true_implies]
 ·intro a ha
  rw [etc, h0.tc a (.inr ha)]
  simp only [etc, Nat.zero_le, true_and]
 ·intro i hi hs
  rw [h2, hno i hi]; exact h0.step i (by omega) hi hs
 ·intro i hi hs
  rw [h2, hno i hi, h1, etc]; exact h0.saga i (by omega) hi hs
 ·rw [h4]; exact own_ha h0 hn
 ·exact h3
end Go.Proofs.Ytihpndignekheaa.Pure
end

section
namespace Go.Proofs.Ytihpndignekheaa.Pure
set_option linter.unusedVariables false
open Go.RowKit Go.Proofs.Ytihpndignekheaa.F Go.Proofs.YtihpndignekheaaW.PrintWords Go.Proofs.YtihpndignekheaaW.PrintLast
theorem small_ev (l : List S37) (d : Nat) : ∀ i : Nat, i + d = 70 → ∃ b, Ev (fun k => argosylaw14_small.l0 k (i : Int) l) b ∧ (b = true → l.length ≤ 70 ∧ ∀ j (h : j < l.length), i ≤ j → l[j].f7.length ≤ 100) := by
 induction d with
 | zero =>
  intro i hi
  refine ⟨decide ((l.length : Int) ≤ 70), ⟨2, fun k hk => ?_⟩, fun h => ?_⟩
  ·obtain ⟨k, rfl⟩ : ∃ m, k = m + 2 := ⟨k - 2, by omega⟩
   simp only [argosylaw14_small.l0, argosylaw14_small.j1]
   rw [decide_eq_false (by omega : ¬ (i : Int) < 70)]
   simp
  ·have := of_decide_eq_true h
   exact ⟨by omega, fun j h1 h2 => by omega⟩
 | succ d ih =>
  intro i hi
  by_cases hl : i < l.length
  ·obtain ⟨b, ⟨K, hK⟩, hb⟩ := ih (i + 1) (by omega)
   have hrd : rd_T37 l (i : Int) = l[i] := by unfold rd_T37; rw [Int.toNat_natCast, List.getD_eq_getElem?_getD, List.getElem?_eq_getElem hl]; rfl
   by_cases h1 : ((l[i].f0).size : Int) > 200 ∨ ((l[i].f1).size : Int) > 200 ∨ ((l[i].f7).length : Int) > 100
   ·refine ⟨false, ⟨2, fun k hk => ?_⟩, fun h => by cases h⟩
    obtain ⟨k, rfl⟩ : ∃ m, k = m + 2 := ⟨k - 2, by omega⟩
    simp only [argosylaw14_small.l0, argosylaw14_small.j1]
    rw [if_pos (by omega), decide_eq_true (by omega : (i : Int) < 70), if_pos rfl, if_pos (by omega), if_pos (by omega), hrd]
    by_cases h2 : ((l[i].f0).size : Int) > 200
    ·rw [if_pos h2]
    ·rw [if_neg h2]
     by_cases h3 : ((l[i].f1).size : Int) > 200
     ·rw [if_pos h3]
     ·rw [if_neg h3, if_pos (by omega)]
   ·refine ⟨b, ⟨K + 2, fun k hk => ?_⟩, fun h => ⟨(hb h).1, fun j h2 h3 => ?_⟩⟩
    ·obtain ⟨k, rfl⟩ : ∃ m, k = m + 2 := ⟨k - 2, by omega⟩
     simp only [argosylaw14_small.l0, argosylaw14_small.j1]
     rw [if_pos (by omega), decide_eq_true (by omega : (i : Int) < 70), if_pos rfl, if_pos (by omega), if_pos (by omega), hrd, if_neg (by omega), if_neg (by omega), if_neg (by omega), show wrap64 ((i : Int) + 1) = ((i + 1 : Nat) : Int) by unfold wrap64; omega]
     exact hK k (by omega)
    ·by_cases hj : j = i
     ·subst hj; omega
     ·exact (hb h).2 j h2 (by omega)
  ·refine ⟨decide ((l.length : Int) ≤ 70), ⟨2, fun k hk => ?_⟩, fun h => ?_⟩
   ·obtain ⟨k, rfl⟩ : ∃ m, k = m + 2 := ⟨k - 2, by omega⟩
    simp only [argosylaw14_small.l0, argosylaw14_small.j1]
    rw [if_neg (by omega)]
    simp
   ·have := of_decide_eq_true h
    exact ⟨by omega, fun j h1 h2 => by omega⟩
theorem small_plan {p : List S37} (hl : p.length ≤ 70 ∧ ∀ j (h : j < p.length), 0 ≤ j → p[j].f7.length ≤ 100) : smallP p = true := by
 unfold smallP
 rw [List.all_eq_true]
 intro y hy
 obtain ⟨j, hj, rfl⟩ := List.getElem_of_mem hy
 have := hl.2 j hj (by omega)
 simp only [decide_eq_true_eq]
 omega
theorem small_f (p : List S37) : ∃ b K, (∀ k, K ≤ k → argosylaw14_small.f k p = some b) ∧ (b = true → smallP p = true ∧ p.length ≤ 70) := by
 obtain ⟨b, ⟨K, hK⟩, hb⟩ := small_ev p 70 0 (by omega)
 exact ⟨b, K, fun k hk => hK k hk, fun h => ⟨small_plan (hb h), (hb h).1⟩⟩
theorem lives_ev (k : Nat) (hk : 80 ≤ k) : argosylaw14_lives.f k = some true := by
 obtain ⟨m, rfl⟩ : ∃ m, k = 80 + m := ⟨k - 80, by omega⟩
 exact argosylaw14_lives.up_ m 80 true argosylaw14_lives.at_
theorem small_ok {p : List S37} (hp : smallP p = true) {l : List S59} (hl : l.length ≤ 100) : okArgs p l = true := by
 unfold okArgs
 rw [hp, decide_eq_true (by omega : l.length ≤ 1000000)]
 rfl
section
variable {p : List S37} {l : List S59}
theorem right_in (h : rightB p = true) : InP p := fun i hi h0 => by
 obtain ⟨a, k, h1, h2, h3, h4, h5⟩ := item_in h i hi h0
 have e : (I_ p i).f5 = a := h1
 rw [e, Int.toNat_natCast]
 exact ⟨h3, h5⟩
theorem facts_made (h : factsB p l = true) : MadeAt p l (madeS p l) ∧ rightB p = true ∧ l.length = p.length ∧ 0 < p.length ∧ p.length ≤ 64 := by
 obtain ⟨h1, h2, h3⟩ := (facts_iff p l).1 h
 obtain ⟨h4, -⟩ := right_saga h2
 exact ⟨made_all (shape_few h4).1 (right_in h2), h2, h1, shape_few h4⟩
structure Stands (p : List S37) (i a k : Nat) : Prop where
 in_ : (I_ p i).f5 = a
 alt : (I_ p i).f6 = k
 lt : a < i
 few : (k : Int) < (I_ p a).f4
 sub : (I_ p a).f2 = true
theorem stands (h : rightB p = true) (i : Nat) (hi : i < p.length) (h0 : i ≠ 0) : ∃ a k, Stands p i a k ∧ kid p i a k := by
 obtain ⟨a, k, h1, h2, h3, h4, h5⟩ := item_in h i hi h0
 have e1 : (I_ p i).f5 = a := h1
 have e2 : (I_ p i).f6 = k := h2
 exact ⟨a, k, ⟨h1, h2, h3, h4, h5⟩, h0, by rw [e1, Int.toNat_natCast], by rw [e2, Int.toNat_natCast]⟩
variable {s : St} (M : MadeAt p l s)
include M
end
theorem flags_cases (f : Fl) : (flagsF f = 0 ∧ f.tc = false) ∨ (flagsF f = 2 ∧ f.tc = true ∧ f.dn = true) ∨ (flagsF f = 3 ∧ f.tc = true ∧ f.dn = false ∧ f.sp = true) ∨ (flagsF f = 1 ∧ f.tc = true ∧ f.dn = false ∧ f.sp = false ∧ f.ha = false) ∨ (flagsF f = 5 ∧ f.tc = true ∧ f.dn = false ∧ f.sp = false ∧ f.ha = true ∧ f.cl = true) ∨ (flagsF f = 4 ∧ f.tc = true ∧ f.dn = false ∧ f.sp = false ∧ f.ha = true ∧ f.cl = false) := by
 obtain ⟨cl, tc, dn, sp, ha, at_⟩ := f
 unfold flagsF
 cases tc <;> cases dn <;> cases sp <;> cases ha <;> cases cl <;> simp
theorem status_step {p : List S37} {l : List S59} {s : St} {i : Nat} (hs : (I_ p i).f2 = false) : statusB p l s i = standF (L_ l i) := by
 unfold statusB
 have h : (rd_T37 p (i : Int)).f2 = false := hs
 rw [h]; rfl
theorem status_saga {p : List S37} {l : List S59} {s : St} {i : Nat} (hs : (I_ p i).f2 = true) : statusB p l s i = flagsF (s.it i) := by
 unfold statusB
 have h : (rd_T37 p (i : Int)).f2 = true := hs
 rw [h]; rfl
theorem allB_len (p : List S37) (l : List S59) (s : St) : (allB p l s).length = p.length := by unfold allB; simp
theorem allB_rd (p : List S37) (l : List S59) (s : St) {i : Nat} (hi : i < p.length) : rd (allB p l s) (i : Int) = statusB p l s i := by
 unfold rd allB
 rw [Int.toNat_natCast, List.getD_eq_getElem?_getD, List.getElem?_map, List.getElem?_range' (by omega)]
 simp
theorem subB_at (p : List S37) {i : Nat} (hi : i < p.length) : subB p (i : Int) = (I_ p i).f2 := by
 unfold subB
 rw [decide_eq_true (by omega : (0 : Int) ≤ i), decide_eq_true (by omega : (i : Int) < p.length)]
 rfl
theorem w64_next {i : Nat} (h : i ≤ 1000000) : wrap64 ((i : Int) + 1) = ((i + 1 : Nat) : Int) := by unfold wrap64; omega
section
variable {p : List S37} (hp : smallP p = true) {l : List S59} (hl : l.length ≤ 100)
include hp hl
theorem all_ev : state_All.f p l = some (if factsB p l then (allB p l (madeS p l), 0) else ([], 2)) := by unfold state_All.f; rw [if_pos (small_ok hp hl)]
theorem falling_ev (i a : Int) : state_Falling.f p l i a = some (if factsB p l then fallB p (madeS p l) i a else false) := by unfold state_Falling.f; rw [if_pos (small_ok hp hl)]
theorem all_yes (h : factsB p l = true) : state_All.f p l = some (allB p l (madeS p l), 0) := by rw [all_ev hp hl, h]; rfl
theorem falling_yes (h : factsB p l = true) (i a : Int) : state_Falling.f p l i a = some (fallB p (madeS p l) i a) := by rw [falling_ev hp hl, h]; rfl
end
end Go.Proofs.Ytihpndignekheaa.Pure
end

section
namespace Go.Proofs.Ytihpndignekheaa.Pure
set_option linter.unusedVariables false
open Go.RowKit Go.Proofs.Ytihpndignekheaa.F Go.Proofs.YtihpndignekheaaW.PrintWords Go.Proofs.YtihpndignekheaaW.PrintLast
structure FallsAt (p : List S37) (l m : List S59) (i : Nat) : Prop where
 lt : i < p.length
 right : factsB p m = true
 few : m.length ≤ 100
 st : statusB p m (madeS p m) i = 3
 fa : fallB p (madeS p m) (rd_T37 p (i : Int)).f5 (rd_T37 p (i : Int)).f6 = true
 others : ∀ k : Nat, k < p.length → k ≠ 0 → (rd_T37 p (k : Int)).f5 = (rd_T37 p (i : Int)).f5 → (rd_T37 p (k : Int)).f6 = (rd_T37 p (i : Int)).f6 → (rd_T37 p (k : Int)).f2 = true → ¬ statusB p m (madeS p m) k = 1
theorem falls_law {p : List S37} {l : List S59} {it : Int} (h : (applyL p l 3 it 0 [1]).2 = 0) : ∃ i : Nat, it = i ∧ 1 ≤ i ∧ FallsAt p l (applyL p l 3 it 0 [1]).1 i := by
 obtain ⟨h1, h2, ⟨h3, h4⟩, h5, h6, h7⟩ := apply_ok h
 obtain ⟨i, rfl⟩ := Int.eq_ofNat_of_zero_le (Int.le_of_lt h3)
 have hF := (apply_law h).1
 rw [Int.toNat_natCast] at h7
 have hk : (knownF (rd_T59 l (i : Int)) 0 3).1 = ⟨3, 0, 0, false⟩ := rfl
 rw [hk] at h7
 obtain ⟨M0, hr, hln, hn, h64⟩ := facts_made h1
 refine ⟨i, rfl, by omega, ?_⟩
 rw [h7] at hF ⊢
 obtain ⟨M, -⟩ := facts_made hF
 have hil : i < l.length := by omega
 have hi : i < p.length := by omega
 have hLi : L_ (l.set i ⟨3, 0, 0, false⟩) i = ⟨3, 0, 0, false⟩ := by
  show rd_T59 _ (i : Int) = _
  rw [rd_set _ _ _ _ hil, if_pos rfl]
 obtain ⟨a, k, hst, hkid⟩ := stands hr i hi (by omega)
 have hfa : ((madeS p (l.set i ⟨3, 0, 0, false⟩)).bo a k).fa = true := (M.fa a k).2 ⟨i, hi, hkid, .inl (by rw [hLi])⟩
 have h5' : (I_ p i).f2 = false := h5
 have e5 : (rd_T37 p (i : Int)).f5 = a := hst.in_
 have e6 : (rd_T37 p (i : Int)).f6 = k := hst.alt
 have hal : a < p.length := by have := hst.lt; omega
 refine ⟨hi, hF, by rw [List.length_set]; omega, ?_, ?_, ?_⟩
 ·rw [status_step h5', hLi]; rfl
 ·rw [e5, e6]
  unfold fallB
  have hf4 : (k : Int) < (rd_T37 p (a : Int)).f4 := hst.few
  rw [subB_at p hal, hst.sub, Int.toNat_natCast, Int.toNat_natCast, hfa, decide_eq_true (by omega : (0 : Int) ≤ k), decide_eq_true hf4]
  rfl
 ·intro q hq hq0 q5 q6 q2 hx
  have q2' : (I_ p q).f2 = true := q2
  rw [status_saga q2'] at hx
  obtain ⟨a', k', hst', hkid'⟩ := stands hr q hq hq0
  have f5 : (rd_T37 p (q : Int)).f5 = a' := hst'.in_
  have f6 : (rd_T37 p (q : Int)).f6 = k' := hst'.alt
  have ea : a' = a := by rw [e5, f5] at q5; omega
  have ek : k' = k := by rw [e6, f6] at q6; omega
  subst ea
  subst ek
  have hha := M.ha q (by omega) hq
  rw [hkid'.2.1, hkid'.2.2, hfa] at hha
  rcases flags_cases ((madeS p (l.set i ⟨3, 0, 0, false⟩)).it q) with ⟨k1, -⟩ | ⟨k1, -⟩ | ⟨k1, -⟩ | ⟨k1, k2, k3, k4, k5⟩ | ⟨k1, -⟩ | ⟨k1, -⟩
  ·omega
  ·omega
  ·omega
  ·rw [k5] at hha; cases hha
  ·omega
  ·omega
theorem falls_apply {p : List S37} (hp : smallP p = true) (l : List S59) (hl : l.length ≤ 100) (a it t : Int) (s : List Int) : fact_Apply.f p l a it t s = some ((applyL p l a it t s).1, (applyL p l a it t s).2) := by
 unfold fact_Apply.f
 rw [hp, decide_eq_true (by omega : l.length ≤ 1000000)]
 rfl
end Go.Proofs.Ytihpndignekheaa.Pure
end

section
namespace Go.Proofs.Ytihpndignekheaa.F
open Go.RowKit Go.Proofs.YtihpndignekheaaW.PrintWords Go.Proofs.YtihpndignekheaaW.PrintLast Go.Proofs.YtihpndignekheaaW.PrintMore
attribute [local go_sem] max2_int min2_int max_two min_two max_three min_three max_four min_four
set_option linter.unusedVariables false
set_option linter.unusedSimpArgs false
theorem row1_int {W : World} {g : Nat} {v : Int} {t : TypeId} (hg : W.heap[g]? = some (.cells #[.int .i64 v] t (0, 0))) : Kd.C (Kd.int .i64) W (some ⟨g, 0, none⟩) 1 [v] := by
 refine ⟨rfl, by omega, fun _ => ⟨_, rfl, fun j p hj => ?_⟩⟩
 match j, hj with
 | 0, hj =>
  obtain rfl := Option.some.inj hj
  refine ⟨[.int .i64 v], rfl, rfl, fun i u hu => ?_⟩
  match i, hu with
  | 0, hu => obtain rfl := Option.some.inj hu; exact (blk_cell hg 0).trans rfl
def argosylaw14_StateFalls.f (k : Nat) (l0_0 : List S37) (l1 : List S59) (a2 : Int) : Option Bool := some true
open Go.Proofs.Ytihpndignekheaa.Pure in
set_option maxHeartbeats 8000000 in
set_option maxRecDepth 100000 in
theorem argosylaw14_StateFalls.calls (k : Nat) (A0_0 : Option Addr) (c0_0 : Nat) (l0_0 : List S37) (A1 : Option Addr) (c1 : Nat) (l1 : List S59) (a2 : Int) (r : Bool) (w : World) (hr0_0 : Kd.C k37 w A0_0 l0_0.length l0_0) (hc0_0 : l0_0.length ≤ c0_0) (hr1 : Kd.C k59 w A1 l1.length l1) (hc1 : l1.length ≤ c1) (h : argosylaw14_StateFalls.f k l0_0 l1 a2 = some r) :
  Calls Try.prog 6 #[.agg #[.slice A0_0 l0_0.length c0_0], .slice A1 l1.length c1, .int .i64 a2] w fun e w' => e = .returned (.bool r) ∧ Below w.heap.size w w' := by
 obtain rfl := Option.some.inj h
 obtain ⟨b, K, hK, hb⟩ := small_f l0_0
 have HB0 := Aside0.mk (below_alloc (Below.refl w.heap.size w) (.cells #[.slice A0_0 l0_0.length c0_0] 24 (0, 0)))
 have HG0 := Aside0.mk (blk_new w (.cells #[.slice A0_0 l0_0.length c0_0] 24 (0, 0)))
 have HP := Aside0.mk hr0_0
 have HSM := Aside0.mk (fun (W : World) (hb : Below w.heap.size w W) => argosylaw14_small.calls K A0_0 c0_0 l0_0 b W (Kd.C_below hr0_0 hb) hc0_0 (hK K (Nat.le_refl _)))
 have HLV := Aside0.mk (fun (W : World) => argosylaw14_lives.calls 80 true W (lives_ev 80 (by omega)))
 clear h hK
 cases b with
 | false =>
  clear hr0_0 hc0_0 hr1 hc1 hb HP
  go_enter Try.func6, Try.ntmps6
  go_wp2_with (first
   | (go_at_call 7; refine (HSM.out _ HB0.out).mono ?_; rintro e w2 ⟨rfl, hb⟩; have HB2 := Aside0.mk (HB0.out.trans (hb.mono HB0.out.size)); clear hb)
   | (go_at_call 8; refine (HLV.out _).mono ?_; rintro e w3 ⟨rfl, hb⟩; have HB3 := Aside0.mk (HB2.out.trans (hb.mono HB2.out.size)); clear hb))
  go_ret
  exact ⟨rfl, HB3.out⟩
 | true =>
  obtain ⟨hsm, h70⟩ := hb rfl
  clear hb
  by_cases hl : (l1.length : Int) > 100
  ·clear hr0_0 hc0_0 hr1 hc1 HP hsm h70
   go_enter Try.func6, Try.ntmps6
   go_wp2_with (first
    | (go_at_call 7; refine (HSM.out _ HB0.out).mono ?_; rintro e w2 ⟨rfl, hb⟩; have HB2 := Aside0.mk (HB0.out.trans (hb.mono HB0.out.size)); clear hb)
    | (go_at_call 8; refine (HLV.out _).mono ?_; rintro e w3 ⟨rfl, hb⟩; have HB3 := Aside0.mk (HB2.out.trans (hb.mono HB2.out.size)); clear hb))
   go_ret
   exact ⟨rfl, HB3.out⟩
  ·have hl2 : l1.length ≤ 100 := by omega
   have HAP := Aside0.mk (fun (A3 : Option Addr) (c3 : Nat) (W : World) (hb : Below w.heap.size w W) (hs : Kd.C (Kd.int .i64) W A3 1 [1]) (hc : 1 ≤ c3) => fact_Apply.calls A0_0 c0_0 l0_0 A1 c1 l1 3 a2 0 A3 c3 [1] _ _ W (Kd.C_below hr0_0 hb) hc0_0 (Kd.C_below hr1 hb) hc1 hs hc (falls_apply hsm l1 hl2 3 a2 0 [1]))
   by_cases he : (applyL l0_0 l1 3 a2 0 [1]).2 = 0
   ·obtain ⟨i, rfl, hi1, hFA⟩ := falls_law he
    rw [he] at HAP
    clear he
    generalize (applyL l0_0 l1 3 (i : Int) 0 [1]).1 = m at HAP hFA
    have hF := hFA.right
    have HALL := Aside0.mk (fun (A3 : Option Addr) (c3 : Nat) (W : World) (hb : Below w.heap.size w W) (hr : Kd.C k59 W A3 m.length m) (hc : m.length ≤ c3) => state_All.calls A0_0 c0_0 l0_0 A3 c3 m _ _ W (Kd.C_below hr0_0 hb) hc0_0 hr hc (all_yes hsm hFA.few hF))
    have HFL := Aside0.mk (fun (A3 : Option Addr) (c3 : Nat) (W : World) (hb : Below w.heap.size w W) (hr : Kd.C k59 W A3 m.length m) (hc : m.length ≤ c3) => state_Falling.calls A0_0 c0_0 l0_0 A3 c3 m (rd_T37 l0_0 (i : Int)).f5 (rd_T37 l0_0 (i : Int)).f6 _ W (Kd.C_below hr0_0 hb) hc0_0 hr hc (falling_yes hsm hFA.few hF _ _))
    rw [hFA.fa] at HFL
    have hn64 := (facts_made hF).2.2.2.2
    have HST := Aside0.mk (fun k (hk : k < l0_0.length) => allB_rd l0_0 m (madeS l0_0 m) hk)
    have hlen := allB_len l0_0 m (madeS l0_0 m)
    have hsti := allB_rd l0_0 m (madeS l0_0 m) hFA.lt
    rw [hFA.st] at hsti
    have HOT := Aside0.mk hFA.others
    have hilt := hFA.lt
    generalize allB l0_0 m (madeS l0_0 m) = S at HALL hlen HST hsti
    have HLN := Aside0.mk hlen
    have HSI := Aside0.mk hsti
    have HIL := Aside0.mk hilt
    obtain ⟨un5, hun5⟩ : ∃ u, (rd_T37 l0_0 (i : Int)).f5 = u := ⟨_, rfl⟩
    obtain ⟨un6, hun6⟩ : ∃ u, (rd_T37 l0_0 (i : Int)).f6 = u := ⟨_, rfl⟩
    rw [hun5, hun6] at HFL
    rw [hun5, hun6] at HOT
    have HUN5 := Aside0.mk hun5
    have HUN6 := Aside0.mk hun6
    have hh1 : ¬ (i : Int) < 1 := by omega
    have hh2 : ¬ (i : Int) ≥ (l0_0.length : Int) := by omega
    have hh3 : (i : Int) < (l0_0.length : Int) := by omega
    have hh0 : (0 : Int) ≤ i := by omega
    have h64 : (l0_0.length : Int) ≤ 64 := by omega
    clear hr0_0 hc0_0 hr1 hc1 hsm h70 hF hFA hlen hsti hilt hun5 hun6 hl2
    go_enter Try.func6, Try.ntmps6
    go_upto_region 6 with (first
     | (go_at_call 7; refine (HSM.out _ HB0.out).mono ?_; rintro e w2 ⟨rfl, hb⟩; have HB2 := Aside0.mk (HB0.out.trans (hb.mono HB0.out.size)); have HG2 := Aside0.mk (blk_below HG0.out hb); clear hb; have x0 : w2.cell? ⟨w.heap.size, 0, none⟩ = some (.slice A0_0 l0_0.length c0_0) := (blk_cell HG2.out 0).trans rfl)
     | (go_at_call 22; refine (HAP.out _ _ _ (below_alloc HB2.out _) (row1_int (blk_new _ _)) (Nat.le_refl _)).mono ?_; rintro e w3 ⟨v3, rfl, hR, hb⟩; have HB3 := Aside0.mk ((below_alloc HB2.out (.cells #[.int .i64 1] 3 (0, 0))).trans (hb.mono (below_alloc HB2.out (.cells #[.int .i64 1] 3 (0, 0))).size)); have HG3 := Aside0.mk (blk_below (blk_alloc HG2.out (.cells #[.int .i64 1] 3 (0, 0))) hb); obtain ⟨A3, c3, rfl⟩ := Kd.R_slice hR; have HR3 := Aside0.mk (Kd.R_reads' hR); clear hb hR x0; have x0 : w3.cell? ⟨w.heap.size, 0, none⟩ = some (.slice A0_0 l0_0.length c0_0) := (blk_cell HG3.out 0).trans rfl))
    obtain ⟨ai, A7, c7, e1, q0, q1, q2, q3, q4, q5, q6, q7, -, -⟩ := at_T37 (Kd.C_below HP.out HB3.out) (i : Int) hh0 hh3
    obtain rfl := e1
    rw [Int.toNat_natCast] at q5 q6
    rw [HUN5.out] at q5
    rw [HUN6.out] at q6
    clear q0 q1 q2 q3 q4 q7
    go_region
    clear q5 q6
    obtain ⟨W3, hW3⟩ : ∃ W, W = w3.drew := ⟨_, rfl⟩
    have HB3' : Aside0 (Below w.heap.size w W3) := ⟨by rw [hW3]; exact below_drewN HB3.out 1⟩
    have HG3' : Aside0 (W3.heap[w.heap.size]? = some (.cells #[.slice (some ai) l0_0.length c0_0] 24 (0, 0))) := ⟨by rw [hW3]; exact blk_drew HG3.out⟩
    have HR3' : Aside0 (Kd.C k59 W3 A3 m.length m) := ⟨by rw [hW3]; exact Kd.C_drew HR3.out.2.2⟩
    rw [← hW3]
    clear hW3 x0 HB3 HG3
    have x0 : W3.cell? ⟨w.heap.size, 0, none⟩ = some (.slice (some ai) l0_0.length c0_0) := (blk_cell HG3'.out 0).trans rfl
    go_wp2_with (first
     | (go_at_call 9; have hA_ := HALL.out A3 c3 _ HB3'.out HR3'.out HR3.out.2.1; refine hA_.mono ?_; clear hA_; rintro e w4 ⟨v4, rfl, hR, hb⟩; have HB4 := Aside0.mk (HB3'.out.trans (hb.mono HB3'.out.size)); have HR4 := Aside0.mk (Kd.C_below HR3'.out hb); have HG4 := Aside0.mk (blk_below HG3'.out hb); obtain ⟨A4, c4, rfl⟩ := Kd.R_slice hR; rw [HLN.out]; have HS4 := Aside0.mk (Kd.R_reads' hR).2.2; clear hb hR x0; have x0 : w4.cell? ⟨w.heap.size, 0, none⟩ = some (.slice (some ai) l0_0.length c0_0) := (blk_cell HG4.out 0).trans rfl; obtain ⟨ad, e0, hs0⟩ := Kd.at_int HS4.out (i : Int) hh0 (by have := HLN.out; omega); obtain rfl := e0; rw [HSI.out, Int.toNat_natCast] at hs0)
     | (go_at_call 20; refine (HFL.out A3 c3 _ HB4.out HR4.out HR3.out.2.1).mono ?_; rintro e w5 ⟨rfl, hb⟩; have HB5 := Aside0.mk (HB4.out.trans (hb.mono HB4.out.size)); have HG5 := Aside0.mk (blk_below HG4.out hb); have HS5 := Aside0.mk (Kd.C_below HS4.out hb); have hs5 := (hb.cell (World.block_lt_of_cell? _ _ hs0)).trans hs0; clear hb))
    clear x0 hs0 hs5
    go_loopg [13] (l0_0.length - 1) (fun kq v13 w' => ∃ k : Nat, 1 ≤ k ∧ k + kq = l0_0.length ∧ v13 = .int .i64 k ∧ Aside0 (Below w5.heap.size w5 w'))
    case atStart => exact ⟨1, by omega, by omega, rfl, ⟨Below.refl _ _⟩⟩
    case round =>
     obtain ⟨k, hk1, hk, rfl, HB⟩ := hrel
     have HBw := Aside0.mk (HB5.out.trans (HB.out.mono HB5.out.size))
     cases gk with
     | zero =>
      obtain rfl : k = l0_0.length := by omega
      go_wp2_with (go_at_call 8; refine (HLV.out _).mono ?_; rintro e w6 ⟨rfl, hb⟩; have HB6 := Aside0.mk (HBw.out.trans (hb.mono HBw.out.size)); clear hb)
      go_ret
      exact ⟨rfl, HB6.out⟩
     | succ d =>
      have x0 : wr.cell? ⟨w.heap.size, 0, none⟩ = some (.slice (some ai) l0_0.length c0_0) := (blk_cell (blk_below HG5.out HB.out) 0).trans rfl
      have hkl : k < l0_0.length := by omega
      have hki : (k : Int) < (l0_0.length : Int) := by omega
      have hk0 : (0 : Int) ≤ k := by omega
      have HK := Aside0.mk hk
      have HK1 := Aside0.mk hk1
      obtain ⟨ai2, A72, c72, e1, q0, q1, q2, q3, q4, q5, q6, q7, -, -⟩ := at_T37 (Kd.C_below HP.out HBw.out) (k : Int) hk0 hki
      obtain rfl := Option.some.inj e1
      rw [Int.toNat_natCast] at q0 q1 q2 q3 q4 q5 q6 q7
      obtain ⟨ad2, e0, hs0⟩ := Kd.at_int (Kd.C_below HS5.out HB.out) (k : Int) hk0 (by have := HLN.out; omega)
      obtain rfl := Option.some.inj e0
      rw [HST.out k hkl, Int.toNat_natCast] at hs0
      have hot := HOT.out k hkl (by omega)
      generalize statusB l0_0 m (madeS l0_0 m) k = y at hs0 hot
      generalize rd_T37 l0_0 (k : Int) = x at q0 q1 q2 q3 q4 q5 q6 q7 hot
      obtain ⟨p0, p1, p2, p3, p4, p5, p6, p7⟩ := x
      dsimp only at q0 q1 q2 q3 q4 q5 q6 q7 hot
      have HOK := Aside0.mk hot
      clear hk hk1 hkl hot
      go_upto_region 14 with (fail)
      have HBX := Aside0.mk (below_alloc HB.out (.cells #[.string p0, .string p1, .bool p2, .bool p3, .int .i64 p4, .int .i64 p5, .int .i64 p6, .slice A72 p7.length c72] 37 (0, 0)))
      have hs1 := cell_al (o := .cells #[.string p0, .string p1, .bool p2, .bool p3, .int .i64 p4, .int .i64 p5, .int .i64 p6, .slice A72 p7.length c72] 37 (0, 0)) hs0
      clear q0 q1 q2 q3 q4 q5 q6 q7 hs0
      cases h5 : p5 == un5
      ·clear hs1
       go_wp2
       go_roundg d
       case measure => omega
       case rel => exact ⟨k + 1, by have := HK1.out; omega, by have := HK.out; omega, by go_num, HBX⟩
      ·cases h6 : p6 == un6
       ·clear hs1
        go_wp2
        go_roundg d
        case measure => omega
        case rel => exact ⟨k + 1, by have := HK1.out; omega, by have := HK.out; omega, by go_num, HBX⟩
       ·cases p2
        ·clear hs1
         go_wp2
         go_roundg d
         case measure => omega
         case rel => exact ⟨k + 1, by have := HK1.out; omega, by have := HK.out; omega, by go_num, HBX⟩
        ·cases h1 : y == 1
         ·skip
          go_wp2
          go_roundg d
          case measure => omega
          case rel => exact ⟨k + 1, by have := HK1.out; omega, by have := HK.out; omega, by go_num, HBX⟩
         ·exact absurd (by simpa using h1) (HOK.out (by simpa using h5) (by simpa using h6) rfl)
   ·clear hr0_0 hc0_0 hr1 hc1 HP hsm h70
    obtain ⟨ev, hev⟩ : ∃ v, (applyL l0_0 l1 3 a2 0 [1]).2 = v := ⟨_, rfl⟩
    rw [hev] at HAP he
    generalize (applyL l0_0 l1 3 a2 0 [1]).1 = m at HAP
    clear hev
    go_enter Try.func6, Try.ntmps6
    go_wp2_with (first
     | (go_at_call 7; refine (HSM.out _ HB0.out).mono ?_; rintro e w2 ⟨rfl, hb⟩; have HB2 := Aside0.mk (HB0.out.trans (hb.mono HB0.out.size)); have HG2 := Aside0.mk (blk_below HG0.out hb); clear hb; have x0 : w2.cell? ⟨w.heap.size, 0, none⟩ = some (.slice A0_0 l0_0.length c0_0) := (blk_cell HG2.out 0).trans rfl)
     | (go_at_call 22; refine (HAP.out _ _ _ (below_alloc HB2.out _) (row1_int (blk_new _ _)) (Nat.le_refl _)).mono ?_; rintro e w3 ⟨v3, rfl, hR, hb⟩; have HB3 := Aside0.mk ((below_alloc HB2.out (.cells #[.int .i64 1] 3 (0, 0))).trans (hb.mono (below_alloc HB2.out (.cells #[.int .i64 1] 3 (0, 0))).size)); clear hb hR)
     | (go_at_call 8; refine (HLV.out _).mono ?_; rintro e w4 ⟨rfl, hb⟩; have HB4 := Aside0.mk (HB3.out.trans (hb.mono HB3.out.size)); clear hb))
    go_ret
    exact ⟨rfl, HB4.out⟩
end Go.Proofs.Ytihpndignekheaa.F
end

section
namespace Go.Proofs.Ytihpndignekheaa.F
open Go.RowKit Go.Proofs.YtihpndignekheaaW.PrintWords Go.Proofs.YtihpndignekheaaW.PrintLast Go.Proofs.YtihpndignekheaaW.PrintMore
open Go.RowKit Go.Deep
section
variable {α β : Type}
structure Opens (P : Program) (t : TypeId) (d : Kd α) (V : α → Prop) : Prop where
 out : ∀ {H : Type} (enc : TypeId × Value → H) (w : World) (base : Nat) (spare : Nat → Bool) (held : Bool) (fuel : Nat) (cs : List Value) (r : DataW H × List MemPlace),
  DataW.trod enc P w base spare held fuel t cs = some r → ∃ x, d.K w x cs ∧ V x
theorem opens_int {P : Program} {t : TypeId} {k : IntKind} (ht : P.underlying t = some (.int k)) : Opens P t (Kd.int k) (fun n => (Lit.int k n).wf = true) := by
 constructor
 intro H enc w base spare held fuel cs r h
 obtain ⟨x, rfl, _, hw⟩ := DataW.trod_int ht h
 exact ⟨x, rfl, hw⟩
theorem opens_bool {P : Program} {t : TypeId} (ht : P.underlying t = some .bool) : Opens P t Kd.bool (fun _ => True) := by
 constructor
 intro H enc w base spare held fuel cs r h
 obtain ⟨x, rfl, _⟩ := DataW.trod_bool ht h
 exact ⟨x, rfl, trivial⟩
theorem opens_string {P : Program} {t : TypeId} (ht : P.underlying t = some .string) : Opens P t Kd.string (fun s => s.size ≤ maxLen) := by
 constructor
 intro H enc w base spare held fuel cs r h
 obtain ⟨x, rfl, _, hm⟩ := DataW.trod_string ht h
 exact ⟨x, rfl, hm⟩
theorem opens_iso {P : Program} {t : TypeId} {d : Kd α} {V : α → Prop} (f : β → α) (g : α → β) (hg : ∀ y, f (g y) = y) (h : Opens P t d V) : Opens P t (Kd.iso d f) (fun x => V (f x)) := by
 constructor
 intro H enc w base spare held fuel cs r hr
 obtain ⟨x, hk, hv⟩ := h.out enc w base spare held fuel cs r hr
 exact ⟨g x, by show d.K w (f (g x)) cs; rw [hg]; exact hk, by show V (f (g x)); rw [hg]; exact hv⟩
theorem add_add_ (a : Addr) (i j : Nat) : (a.add i).add j = a.add (i + j) := by
 unfold Addr.add
 by_cases hi : i = 0 <;> by_cases hj : j = 0 <;> simp [hi, hj, Nat.add_assoc]
theorem opens_slice {P : Program} {t e : TypeId} {d : Kd α} {V : α → Prop} (z : α) (ht : P.underlying t = some (.slice e)) (hc : P.cellsOf e = d.sz) (h : Opens P e d V) :
  Opens P t (Kd.slice e d) (fun xs => xs.length ≤ maxLen ∧ ∀ x ∈ xs, V x) := by
 constructor
 intro H enc w base spare held fuel cs r hr
 haveI : Inhabited α := ⟨z⟩
 rcases open_slice ht hr with ⟨rfl, _⟩ | ⟨a, len, cap, m, n, D, Pl, rfl, hb, hl, hm, hmm, _, hx⟩
 ·exact ⟨[], ⟨none, 0, rfl, Nat.le_refl _, Kd.C_nil d w⟩, Nat.zero_le _, fun x hx => by cases hx⟩
 ·have hlm : len ≤ m := by rw [hmm]; split <;> omega
  obtain ⟨f, hf⟩ := choose_lt (n := len) (p := fun i x => ∃ c, c.length = d.sz ∧ d.K w x c ∧ V x ∧ ∀ j u, c[j]? = some u → w.cell? (a.add (i * d.sz + j)) = some u) (fun i hi => by
   obtain ⟨cs', h1, h2⟩ := hx i (by omega)
   obtain ⟨x, hk, hv⟩ := h.out enc w base spare held n cs' _ h2
   obtain ⟨_, hl', hcell⟩ := World.cells?_some h1
   rw [hc] at hl' hcell
   refine ⟨x, cs', hl', hk, hv, fun j u hu => ?_⟩
   have hj : j < d.sz := by
    rcases Nat.lt_or_ge j d.sz with hj | hj
    ·exact hj
    ·rw [List.getElem?_eq_none (by omega)] at hu; cases hu
   have := hcell j hj
   rw [add_add_] at this
   rw [this, hu])
  have hlen : ((List.range len).map f).length = len := by simp
  refine ⟨(List.range len).map f, ⟨some a, cap, by rw [hlen], by rw [hlen]; exact hl, ?_⟩, by rw [hlen]; omega, ?_⟩
  ·rw [hlen]
   refine ⟨hlen, ?_, fun _ => ⟨a, rfl, fun j p hp => ?_⟩⟩
   ·unfold maxLen at hm; omega
   ·have hj : j < len := by
     have := (List.getElem?_eq_some_iff.1 hp).1
     rwa [hlen] at this
    have hpe : f j = p := by
     rw [List.getElem?_map, List.getElem?_range hj] at hp
     exact Option.some.inj hp
    obtain ⟨c, h1, h2, _, h4⟩ := hf j hj
    rw [hpe] at h2
    exact ⟨c, h1, h2, h4⟩
  ·intro x hx
   obtain ⟨j, hj, rfl⟩ := List.mem_map.1 hx
   obtain ⟨c, _, _, h3, _⟩ := hf j (List.mem_range.1 hj)
   exact h3
structure OpensF (P : Program) (fs : List Field) (off : Nat) (d : Kd α) (V : α → Prop) : Prop where
 out : ∀ {H : Type} (enc : TypeId × Value → H) (w : World) (base : Nat) (spare : Nat → Bool) (held : Bool) (fuel : Nat) (cs : List Value),
  cs.length = off + d.sz → (∀ f ∈ fs, ∃ r, DataW.trod enc P w base spare held fuel f.type ((cs.drop f.offset).take (P.cellsOf f.type)) = some r) → ∃ x, d.K w x (cs.drop off) ∧ V x
theorem opensF_one {P : Program} {f : Field} {off : Nat} {d : Kd α} {V : α → Prop} (ho : f.offset = off) (hc : P.cellsOf f.type = d.sz) (h : Opens P f.type d V) : OpensF P [f] off d V := by
 constructor
 intro H enc w base spare held fuel cs hl hr
 obtain ⟨r, hr⟩ := hr f (List.mem_singleton.2 rfl)
 rw [ho, hc, List.take_of_length_le (by rw [List.length_drop]; omega)] at hr
 exact h.out enc w base spare held fuel _ r hr
theorem opensF_cons {P : Program} {f : Field} {fs : List Field} {off : Nat} {d : Kd α} {d' : Kd β} {V : α → Prop} {V' : β → Prop} (ho : f.offset = off) (hc : P.cellsOf f.type = d.sz) (h : Opens P f.type d V) (h' : OpensF P fs (off + d.sz) d' V') :
  OpensF P (f :: fs) off (Kd.pair d d') (fun x => V x.1 ∧ V' x.2) := by
 constructor
 intro H enc w base spare held fuel cs hl hr
 have hl' : cs.length = off + (d.sz + d'.sz) := hl
 obtain ⟨r, hr1⟩ := hr f (List.mem_cons_self ..)
 rw [ho, hc] at hr1
 obtain ⟨x, hk, hv⟩ := h.out enc w base spare held fuel _ r hr1
 obtain ⟨y, hk', hv'⟩ := h'.out enc w base spare held fuel cs (by omega) (fun g hg => hr g (List.mem_cons_of_mem _ hg))
 refine ⟨(x, y), ⟨(cs.drop off).take d.sz, cs.drop (off + d.sz), ?_, hk, hk'⟩, hv, hv'⟩
 rw [← List.drop_drop, List.take_append_drop]
theorem opens_struct {P : Program} {t : TypeId} {fs : Array Field} {d : Kd α} {V : α → Prop} (ht : P.underlying t = some (.struct fs)) (hc : P.cellsOf t = d.sz) (h : OpensF P fs.toList 0 d V) : Opens P t d V := by
 constructor
 intro H enc w base spare held fuel cs r hr
 obtain ⟨xs, n, _, _, hl, hxl, hx⟩ := DataW.trod_struct ht hr
 obtain ⟨x, hk, hv⟩ := h.out enc w base spare held n cs (by omega) (fun f hf => by
  obtain ⟨i, hi, rfl⟩ := List.mem_iff_getElem.1 hf
  have hi' : i < fs.size := by simpa using hi
  have := hx i fs[i] (by simp [hi'])
  rw [List.getElem?_eq_getElem (by omega)] at this
  exact ⟨_, by simpa using this⟩)
 rw [List.drop_zero] at hk
 exact ⟨x, hk, hv⟩
end
end Go.Proofs.Ytihpndignekheaa.F
end
