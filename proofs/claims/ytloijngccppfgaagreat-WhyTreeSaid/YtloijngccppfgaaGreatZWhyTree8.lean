-- Texts of this seat's, joined.
import Derived.Test.YtloijngccppfgaaGreatZWhyTree1
import Derived.Test.YtloijngccppfgaaGreatZWhyTree5
import Derived.WalkSmall
import Derived.Test.YtloijngccppfgaaGreatZWhyTree2
import Derived.Test.YtloijngccppfgaaGreatZWhyTree7
import Derived.BigRegion
import Derived.Deep.RegionHeld2
import Derived.Deep.RegionWith
import Derived.Deep.DeepCutAuto
import Derived.Deep.CutRange
import Derived.Test.YtloijngccppfgaaGreatProg
import Derived.Below
import Derived.Deep.Draws
import Derived.Deep.AppendLies
import Derived.Maps.AppendAt
import Derived.OwnWalk
import Derived.Laws.BytesArg
import Derived.Laws.MakeOwn
import Derived.Laws.OwnMore
import Derived.Deep.OwnRows
import Derived.Tactics
import Derived.Lib.ConvBytes
import Derived.Laws.Slices
import Derived.WalkKit
import Derived.KernelRfl
import Derived.RowKit3
import Derived.Deep.LoopGhost
import Derived.Deep.QuietTactic
import Derived.BigQuiet
import Derived.WideLaws
import Derived.Deep.CutBlock
import Derived.Deep.RegionHeld3
import Derived.Laws.Rows
import Derived.Lib.AppendStr
import Derived.ArgAppend
import Derived.Laws.IdiomCopy
import Derived.OrdersHeld
import Derived.Laws.BitsLemmas
import Derived.RowKit
import Derived.Deep.Slices
section
namespace Go.Proofs.YtloijngccppfgaaGreat.F
open Go.RowKit Go.Proofs.YtloijngccppfgaaGreatW.PrintWords Go.Proofs.YtloijngccppfgaaGreatW.PrintLast Go.Proofs.YtloijngccppfgaaGreatW.PrintMore
attribute [local go_sem] max2_int min2_int max_two min_two max_three min_three max_four min_four
set_option linter.unusedVariables false
set_option linter.unusedSimpArgs false
open Go.Proofs.YtloijngccppfgaaGreat.Pure
def plan_Above.f (l0_0 : List S39) (a1 : Int) : Option (List Int) := if smallP l0_0 then some (if rightB l0_0 then aboveL l0_0 a1 else []) else none
theorem plan_seen_walk (p : List S39) (A : Option Addr) (c : Nat) (w : World) (hp : Kd.C k39 w A p.length p) (hc : p.length ≤ c) (hsm : smallP p = true) :
  Calls Tryz.prog 39 #[.agg #[.slice A p.length c]] w fun e w' => ∃ r, e = .returned (ptrO r) ∧ ViewP p A c w r w' := by
 have HB0 := Aside0.mk (below_alloc (Below.refl w.heap.size w) (.cells #[.slice A p.length c] 24 (0, 0)))
 have HS := Aside0.mk (plan_see_walk p A c (w.alloc (.cells #[.slice A p.length c] 24 (0, 0))) (Kd.C_below hp HB0.out) hc hsm)
 clear hp hc hsm
 go_enter Tryz.func39, Tryz.ntmps39
 go_wp2_with (go_at_call 60; refine HS.out.mono ?_; rintro e w2 ⟨r, rfl, hv⟩; have HV := Aside0.mk hv; clear hv)
 all_goals
  go_ret
  refine ⟨r, rfl, HB0.out.trans (HV.out.1.mono HB0.out.size), ?_⟩
  have h := HV.out.2
  cases r with
  | none => exact h
  | some g => exact ⟨h.1, h.2.1, Nat.le_trans HB0.out.size h.2.2⟩
set_option maxHeartbeats 8000000 in
set_option maxRecDepth 100000 in
theorem plan_Above.calls (A0_0 : Option Addr) (c0_0 : Nat) (l0_0 : List S39) (a1 : Int) (r : List Int) (w : World) (hr0_0 : Kd.C k39 w A0_0 l0_0.length l0_0) (hc0_0 : l0_0.length ≤ c0_0) (h : plan_Above.f l0_0 a1 = some r) :
  Calls Tryz.prog 14 #[.agg #[.slice A0_0 l0_0.length c0_0], .int .i64 a1] w fun e w' => ∃ v0_ : Value, e = .returned v0_ ∧ Kd.R (Kd.int .i64) 3 w' w.heap.size (fun _ => True) v0_ r ∧ Below w.heap.size w w' := by
 unfold plan_Above.f at h
 by_cases hok : smallP l0_0 = true
 ·rw [if_pos hok] at h
  obtain rfl := Option.some.inj h
  have HB0 := Aside0.mk (below_alloc (Below.refl w.heap.size w) (.cells #[.slice A0_0 l0_0.length c0_0] 24 (0, 0)))
  have HS := Aside0.mk (plan_seen_walk l0_0 A0_0 c0_0 (w.alloc (.cells #[.slice A0_0 l0_0.length c0_0] 24 (0, 0))) (Kd.C_below hr0_0 HB0.out) hc0_0 hok)
  obtain ⟨v, hv⟩ : ∃ v, rightB l0_0 = v := ⟨_, rfl⟩
  have HV := Aside0.mk hv
  rw [hv]
  clear hr0_0 hc0_0 hok h hv
  cases v with
  | false =>
   simp only [Bool.false_eq_true, if_false]
   go_enter Tryz.func14, Tryz.ntmps14
   go_wp2_with (first
    | (go_at_call 39; refine HS.out.mono ?_; rintro e w2 ⟨r, rfl, hv⟩; obtain rfl : r = none := (by cases r with | none => rfl | some g => (have := hv.2.1; rw [HV.out] at this; cases this)); have HB2 := Aside0.mk (HB0.out.trans (hv.1.mono HB0.out.size)); clear hv)
    | (go_at_call 40; refine (above_none a1 w2).mono ?_; rintro e w3 ⟨rfl, rfl⟩))
   go_ret
   exact ⟨_, rfl, Kd.R_nil _ _ _ _ _, HB2.out⟩
  | true =>
   simp only [if_true]
   have HUP : Aside0 (UpP l0_0) := ⟨shape_up (by have := HV.out; unfold rightB at this; rw [Bool.and_eq_true] at this; exact this.1)⟩
   go_enter Tryz.func14, Tryz.ntmps14
   go_wp2_with (first
    | (go_at_call 39; refine HS.out.mono ?_; rintro e w2 ⟨r, rfl, hv⟩; obtain ⟨g, rfl, hvw⟩ : ∃ g, r = some g ∧ ViewAt w2 g l0_0 A0_0 c0_0 := (by cases r with | none => (have := hv.2; rw [HV.out] at this; cases this) | some g => exact ⟨g, rfl, hv.2.2.1⟩); have HB2 := Aside0.mk (HB0.out.trans (hv.1.mono HB0.out.size)); have HVW := Aside0.mk hvw; clear hv hvw)
    | (go_at_call 40; refine (above_any HVW.out HUP.out a1).mono ?_; rintro e w3 ⟨v3, rfl, hR, hb⟩; have HR3 := Aside0.mk (Kd.R_lower hR HB2.out.size); have HB3 := Aside0.mk (HB2.out.trans (hb.mono HB2.out.size)); clear hR hb))
   go_ret
   exact ⟨v3, rfl, HR3.out, HB3.out⟩
 ·rw [if_neg hok] at h
  cases h
end Go.Proofs.YtloijngccppfgaaGreat.F
end

section
namespace Go.Proofs.YtloijngccppfgaaGreat.Pure
set_option linter.unusedVariables false
open Go.RowKit Go.Proofs.YtloijngccppfgaaGreat.F Go.Proofs.YtloijngccppfgaaGreatW.PrintWords Go.Proofs.YtloijngccppfgaaGreatW.PrintLast
theorem small_ev32 (l : List S39) (d : Nat) : ∀ i : Nat, i + d = 70 → ∃ b, Ev (fun k => argosylaw32_small.l0 k (i : Int) l) b ∧ (b = true → l.length ≤ 70 ∧ ∀ j (h : j < l.length), i ≤ j → l[j].f7.length ≤ 100) := by
 induction d with
 | zero =>
  intro i hi
  refine ⟨decide ((l.length : Int) ≤ 70), ⟨2, fun k hk => ?_⟩, fun h => ?_⟩
  ·obtain ⟨k, rfl⟩ : ∃ m, k = m + 2 := ⟨k - 2, by omega⟩
   simp only [argosylaw32_small.l0, argosylaw32_small.j1]
   rw [decide_eq_false (by omega : ¬ (i : Int) < 70)]
   simp
  ·have := of_decide_eq_true h
   exact ⟨by omega, fun j h1 h2 => by omega⟩
 | succ d ih =>
  intro i hi
  by_cases hl : i < l.length
  ·obtain ⟨b, ⟨K, hK⟩, hb⟩ := ih (i + 1) (by omega)
   have hrd : rd_T39 l (i : Int) = l[i] := by unfold rd_T39; rw [Int.toNat_natCast, List.getD_eq_getElem?_getD, List.getElem?_eq_getElem hl]; rfl
   by_cases h1 : ((l[i].f0).size : Int) > 200 ∨ ((l[i].f1).size : Int) > 200 ∨ ((l[i].f7).length : Int) > 100
   ·refine ⟨false, ⟨2, fun k hk => ?_⟩, fun h => by cases h⟩
    obtain ⟨k, rfl⟩ : ∃ m, k = m + 2 := ⟨k - 2, by omega⟩
    simp only [argosylaw32_small.l0, argosylaw32_small.j1]
    rw [if_pos (by omega), decide_eq_true (by omega : (i : Int) < 70), if_pos rfl, if_pos (by omega), if_pos (by omega), hrd]
    by_cases h2 : ((l[i].f0).size : Int) > 200
    ·rw [if_pos h2]
    ·rw [if_neg h2]
     by_cases h3 : ((l[i].f1).size : Int) > 200
     ·rw [if_pos h3]
     ·rw [if_neg h3, if_pos (by omega)]
   ·refine ⟨b, ⟨K + 2, fun k hk => ?_⟩, fun h => ⟨(hb h).1, fun j h2 h3 => ?_⟩⟩
    ·obtain ⟨k, rfl⟩ : ∃ m, k = m + 2 := ⟨k - 2, by omega⟩
     simp only [argosylaw32_small.l0, argosylaw32_small.j1]
     rw [if_pos (by omega), decide_eq_true (by omega : (i : Int) < 70), if_pos rfl, if_pos (by omega), if_pos (by omega), hrd, if_neg (by omega), if_neg (by omega), if_neg (by omega), show wrap64 ((i : Int) + 1) = ((i + 1 : Nat) : Int) by unfold wrap64; omega]
     exact hK k (by omega)
    ·by_cases hj : j = i
     ·subst hj; omega
     ·exact (hb h).2 j h2 (by omega)
  ·refine ⟨decide ((l.length : Int) ≤ 70), ⟨2, fun k hk => ?_⟩, fun h => ?_⟩
   ·obtain ⟨k, rfl⟩ : ∃ m, k = m + 2 := ⟨k - 2, by omega⟩
    simp only [argosylaw32_small.l0, argosylaw32_small.j1]
    rw [if_neg (by omega)]
    simp
   ·have := of_decide_eq_true h
    exact ⟨by omega, fun j h1 h2 => by omega⟩
theorem small_f32 (p : List S39) : ∃ b K, (∀ k, K ≤ k → argosylaw32_small.f k p = some b) ∧ (b = true → smallP p = true ∧ p.length ≤ 70) := by
 obtain ⟨b, ⟨K, hK⟩, hb⟩ := small_ev32 p 70 0 (by omega)
 exact ⟨b, K, fun k hk => hK k hk, fun h => ⟨small_plan (hb h), (hb h).1⟩⟩
theorem lives_ev32 (k : Nat) (hk : 80 ≤ k) : argosylaw32_lives.f k = some true := by
 obtain ⟨m, rfl⟩ : ∃ m, k = 80 + m := ⟨k - 80, by omega⟩
 exact argosylaw32_lives.up_ m 80 true argosylaw32_lives.at_
end Go.Proofs.YtloijngccppfgaaGreat.Pure
end

section
namespace Go.Proofs.YtloijngccppfgaaGreat.Pure
set_option linter.unusedVariables false
open Go.RowKit Go.Proofs.YtloijngccppfgaaGreat.F Go.Proofs.YtloijngccppfgaaGreatW.PrintWords Go.Proofs.YtloijngccppfgaaGreatW.PrintLast
section
variable {p : List S39} {l : List S50}
theorem of_no (h : factsB p l = false) (s : Int) : ofL p l s = [] := by unfold ofL; rw [h]; rfl
theorem of_out (s : Int) (h : s < 0 ∨ s ≥ (p.length : Int)) : ofL p l s = [] := by
 unfold ofL
 cases hf : factsB p l
 ·rfl
 ·obtain ⟨h1, h2⟩ := facts_shape hf
  cases hb : (decide (0 ≤ s) && decide (s < (l.length : Int)))
  ·rfl
  ·rw [Bool.and_eq_true, decide_eq_true_eq, decide_eq_true_eq] at hb
   omega
theorem of_in (hf : factsB p l = true) {s : Nat} (hs : s < p.length) : ofL p l (s : Int) = causesL p (allB p l (madeS p l)) (s : Int) := by
 obtain ⟨h1, h2⟩ := facts_shape hf
 unfold ofL
 rw [hf, decide_eq_true (by omega : (0 : Int) ≤ s), decide_eq_true (by omega : (s : Int) < l.length)]
 rfl
structure TreeAt (p : List S39) (l : List S50) (s : Nat) (i n : Nat) : Prop where
 pos : 1 ≤ n
 lt : n < p.length
 st : statusB p l (madeS p l) n = 3
 up : (s : Int) ∈ aboveL p (n : Int)
 alt : (rd_T39 p (n : Int)).f5 = s → ∃ a : Nat, (rd_T39 p (n : Int)).f6 = a ∧ a < 4 ∧ ((ofL p l (s : Int)).take (i + 1)).countP (hadQ p s a) ≤ 1
 steps : ((stepsL p l (s : Int)).any fun y => y == (n : Int)) = !(rd_T39 p (n : Int)).f2
theorem tree_at (hf : factsB p l = true) {s : Nat} (hs : s < p.length) (i : Nat) (hi : i < (ofL p l (s : Int)).length) : ∃ n : Nat, (ofL p l (s : Int))[i] = n ∧ TreeAt p l s i n := by
 obtain ⟨M, hr, hln, hn, h64⟩ := facts_made hf
 have hu := shape_up (facts_shape hf).2
 have e := of_in hf hs
 have hm : (ofL p l (s : Int))[i] ∈ ofL p l (s : Int) := List.getElem_mem hi
 have ht := told_all hu (allB p l (madeS p l)) p.length s (by omega) hs _ (by rw [← e]; exact hm)
 obtain ⟨n, h1, h2, h3, h4⟩ := ht.nat
 have hup := ht.up
 rw [h1] at hm hup
 refine ⟨n, h1, by omega, h3, fells_status M h3 h4, hup, fun h5 => ?_, ?_⟩
 ·obtain ⟨a, k, hst, hkid⟩ := stands hr n h3 (by omega)
  have hal := alts_nat hr a (by have := hst.lt; omega)
  refine ⟨k, hst.alt, by have := hst.few; omega, ?_⟩
  have h6 := had_one hu (allB p l (madeS p l)) hs k
  rw [← e] at h6
  have h7 : (ofL p l (s : Int)).countP (hadQ p s k) = ((ofL p l (s : Int)).take (i + 1)).countP (hadQ p s k) + ((ofL p l (s : Int)).drop (i + 1)).countP (hadQ p s k) := by rw [← List.countP_append, List.take_append_drop]
  omega
 ·cases hb : (rd_T39 p (n : Int)).f2
  ·rw [List.any_eq_true.2]
   ·rfl
   ·refine ⟨(n : Int), ?_, by simp⟩
    unfold stepsL
    exact List.mem_filter.2 ⟨hm, by rw [hb]; rfl⟩
  ·rw [List.any_eq_false.2]
   ·rfl
   ·intro y hy hq
    have : y = (n : Int) := by simpa using hq
    subst this
    unfold stepsL at hy
    have := (List.mem_filter.1 hy).2
    rw [hb] at this
    cases this
theorem steps_le (s : Int) : (stepsL p l s).length ≤ (ofL p l s).length := by unfold stepsL; exact List.length_filter_le _ _
end
end Go.Proofs.YtloijngccppfgaaGreat.Pure
end

section
namespace Go.Proofs.YtloijngccppfgaaGreat.F
open Go.RowKit Go.Proofs.YtloijngccppfgaaGreatW.PrintWords Go.Proofs.YtloijngccppfgaaGreatW.PrintLast Go.Proofs.YtloijngccppfgaaGreatW.PrintMore
attribute [local go_sem] max2_int min2_int max_two min_two max_three min_three max_four min_four
set_option linter.unusedVariables false
set_option linter.unusedSimpArgs false
theorem ref_in_walk (A : Option Addr) (c : Nat) (l : List Int) (s : Int) (w : World) (hr : Kd.C (Kd.int .i64) w A l.length l) : Calls Tryz.prog 13 #[.slice A l.length c, .int .i64 s] w fun e w' => e = .returned (.bool (l.any fun y => y == s)) ∧ Below w.heap.size w w' := by
 have HR := Aside0.mk hr
 have HM := Aside0.mk (Kd.C_max hr)
 clear hr
 go_enter Tryz.func13, Tryz.ntmps13
 go_wp2
 go_loopg [5] l.length (fun kq v5 w' => ∃ i : Nat, i + kq = l.length ∧ v5 = .int .i64 i ∧ Aside0 ((l.any fun y => y == s) = ((l.drop i).any fun y => y == s)) ∧ Aside0 (Below w.heap.size w w'))
 case atStart => exact ⟨0, by omega, rfl, ⟨rfl⟩, ⟨Below.refl _ _⟩⟩
 case round =>
  obtain ⟨i, hi, rfl, HI, HB⟩ := hrel
  have hm := HM.out
  cases gk with
  | zero =>
   obtain rfl : i = l.length := by omega
   have HE : Aside0 ((l.any fun y => y == s) = false) := ⟨by rw [HI.out, List.drop_eq_nil_of_le (Nat.le_refl _)]; rfl⟩
   go_wp2
   go_ret
   exact ⟨by rw [HE.out]; rfl, HB.out⟩
  | succ d =>
   have hlt : i < l.length := by omega
   obtain ⟨ad, e0, x0⟩ := Kd.at_int (Kd.C_below HR.out HB.out) (i : Int) (by omega) (by omega)
   have hrd : rd l (i : Int) = l[i] := by unfold rd; rw [Int.toNat_natCast, List.getD_eq_getElem?_getD, List.getElem?_eq_getElem hlt]; rfl
   rw [hrd, Int.toNat_natCast] at x0
   subst e0
   obtain ⟨x, hx⟩ : ∃ x, l[i] = x := ⟨_, rfl⟩
   rw [hx] at x0
   have HD : Aside0 (((l.drop i).any fun y => y == s) = ((x == s) || ((l.drop (i + 1)).any fun y => y == s))) := ⟨by rw [List.drop_eq_getElem_cons hlt, List.any_cons, hx]⟩
   have hlt' : (i : Int) < (l.length : Int) := by omega
   have h0 : (0 : Int) ≤ i := by omega
   have HI2 := Aside0.mk hi
   clear hx hrd hi
   cases hc : x == s
   ·have HC := Aside0.mk hc
    go_wp2
    go_roundg d
    case measure => omega
    case rel => exact ⟨i + 1, by have := HI2.out; omega, by go_num, ⟨by rw [HI.out, HD.out, HC.out]; rfl⟩, HB⟩
   ·have HC := Aside0.mk hc
    go_wp2
    go_ret
    exact ⟨by rw [HI.out, HD.out, HC.out]; rfl, HB.out⟩
def hadC (hs : List Int) : Array Value := (hs.map (Value.int .i64)).toArray
def HadAt (W : World) (g : Nat) (hs : List Int) : Prop := W.heap[g]? = some (.cells (hadC hs) 34 (0, 0))
theorem HadAt.cell {W : World} {g : Nat} {hs : List Int} (h : HadAt W g hs) (a : Nat) (ha : a < hs.length) : W.cell? ⟨g, a, none⟩ = some (.int .i64 (hs.getD a 0)) := by
 refine (blk_cell h a).trans ?_
 unfold hadC
 rw [List.getElem?_toArray, List.getElem?_map, List.getD_eq_getElem?_getD, List.getElem?_eq_getElem ha]
 rfl
theorem HadAt.put {W : World} {g : Nat} {hs : List Int} (h : HadAt W g hs) (a : Nat) (x : Int) : HadAt (W.setCell ⟨g, a, none⟩ (.int .i64 x)) g (hs.set a x) := blk_put h a _ (by unfold hadC; rw [List.setIfInBounds_toArray, List.map_set])
theorem beq_nat_ (a b : Nat) : ((a : Int) == (b : Int)) = decide (b = a) := by
 by_cases h : b = a
 ·subst h
  rw [beq_self_eq_true, decide_eq_true rfl]
 ·rw [decide_eq_false h]
  exact beq_eq_false_iff_ne.2 (by omega)
def argosylaw32_WhyTree.f (k : Nat) (l0_0 : List S39) (l1 : List S50) (a2 : Int) : Option Bool := some true
open Go.Proofs.YtloijngccppfgaaGreat.Pure in
set_option maxHeartbeats 8000000 in
set_option maxRecDepth 100000 in
theorem argosylaw32_WhyTree.calls (k : Nat) (A0_0 : Option Addr) (c0_0 : Nat) (l0_0 : List S39) (A1 : Option Addr) (c1 : Nat) (l1 : List S50) (a2 : Int) (r : Bool) (w : World) (hr0_0 : Kd.C k39 w A0_0 l0_0.length l0_0) (hc0_0 : l0_0.length ≤ c0_0) (hr1 : Kd.C k50 w A1 l1.length l1) (hc1 : l1.length ≤ c1) (h : argosylaw32_WhyTree.f k l0_0 l1 a2 = some r) :
  Calls Tryz.prog 3 #[.agg #[.slice A0_0 l0_0.length c0_0], .slice A1 l1.length c1, .int .i64 a2] w fun e w' => e = .returned (.bool r) ∧ Below w.heap.size w w' := by
 obtain rfl := Option.some.inj h
 obtain ⟨b, K, hK, hb⟩ := small_f32 l0_0
 have HB0 := Aside0.mk (below_alloc (Below.refl w.heap.size w) (.cells #[.slice A0_0 l0_0.length c0_0] 24 (0, 0)))
 have HG0 := Aside0.mk (blk_new w (.cells #[.slice A0_0 l0_0.length c0_0] 24 (0, 0)))
 have HP := Aside0.mk hr0_0
 have HSM := Aside0.mk (fun (W : World) (hb : Below w.heap.size w W) => argosylaw32_small.calls K A0_0 c0_0 l0_0 b W (Kd.C_below hr0_0 hb) hc0_0 (hK K (Nat.le_refl _)))
 have HLV := Aside0.mk (fun (W : World) => argosylaw32_lives.calls 80 true W (lives_ev32 80 (by omega)))
 clear h hK
 cases b with
 | false =>
  clear hr0_0 hc0_0 hr1 hc1 hb HP
  go_enter Tryz.func3, Tryz.ntmps3
  go_wp2_with (first
   | (go_at_call 8; refine (HSM.out _ HB0.out).mono ?_; rintro e w2 ⟨rfl, hb⟩; have HB2 := Aside0.mk (HB0.out.trans (hb.mono HB0.out.size)); clear hb)
   | (go_at_call 9; refine (HLV.out _).mono ?_; rintro e w3 ⟨rfl, hb⟩; have HB3 := Aside0.mk (HB2.out.trans (hb.mono HB2.out.size)); clear hb))
  go_ret
  exact ⟨rfl, HB3.out⟩
 | true =>
  obtain ⟨hsm, h70⟩ := hb rfl
  clear hb
  by_cases hl : (l1.length : Int) > 100
  ·clear hr0_0 hc0_0 hr1 hc1 HP hsm h70
   go_enter Tryz.func3, Tryz.ntmps3
   go_wp2_with (first
    | (go_at_call 8; refine (HSM.out _ HB0.out).mono ?_; rintro e w2 ⟨rfl, hb⟩; have HB2 := Aside0.mk (HB0.out.trans (hb.mono HB0.out.size)); clear hb)
    | (go_at_call 9; refine (HLV.out _).mono ?_; rintro e w3 ⟨rfl, hb⟩; have HB3 := Aside0.mk (HB2.out.trans (hb.mono HB2.out.size)); clear hb))
   go_ret
   exact ⟨rfl, HB3.out⟩
  ·have hl2 : l1.length ≤ 100 := by omega
   have HOF := Aside0.mk (fun (W : World) (hb : Below w.heap.size w W) => why_Of.calls A0_0 c0_0 l0_0 A1 c1 l1 a2 (ofL l0_0 l1 a2) W (Kd.C_below hr0_0 hb) hc0_0 (Kd.C_below hr1 hb) hc1 (by unfold why_Of.f; rw [if_pos (small_ok hsm hl2)]))
   have HSP := Aside0.mk (fun (W : World) (hb : Below w.heap.size w W) => why_Steps.calls A0_0 c0_0 l0_0 A1 c1 l1 a2 (stepsL l0_0 l1 a2) W (Kd.C_below hr0_0 hb) hc0_0 (Kd.C_below hr1 hb) hc1 (by unfold why_Steps.f; rw [if_pos (small_ok hsm hl2)]))
   by_cases hin : factsB l0_0 l1 = true ∧ 0 ≤ a2 ∧ a2 < (l0_0.length : Int)
   --MAIN
   ·obtain ⟨hF, hs0, hs1⟩ := hin
    obtain ⟨s, rfl⟩ := Int.eq_ofNat_of_zero_le hs0
    have hsl : s < l0_0.length := by omega
    have HALL := Aside0.mk (fun (W : World) (hb : Below w.heap.size w W) => state_All.calls A0_0 c0_0 l0_0 A1 c1 l1 _ _ W (Kd.C_below hr0_0 hb) hc0_0 (Kd.C_below hr1 hb) hc1 (all_yes hsm hl2 hF))
    have HAB := Aside0.mk (fun (n : Nat) (W : World) (hb : Below w.heap.size w W) => plan_Above.calls A0_0 c0_0 l0_0 (n : Int) (aboveL l0_0 (n : Int)) W (Kd.C_below hr0_0 hb) hc0_0 (by unfold plan_Above.f; rw [if_pos hsm, (facts_made hF).2.1]; rfl))
    have HT := Aside0.mk (fun i hi => tree_at (l := l1) hF hsl i hi)
    have HLE := Aside0.mk (steps_le (p := l0_0) (l := l1) (s : Int))
    have hlen := allB_len l0_0 l1 (madeS l0_0 l1)
    have HST := Aside0.mk (fun k (hk : k < l0_0.length) => allB_rd l0_0 l1 (madeS l0_0 l1) hk)
    have hn64 := (facts_made hF).2.2.2.2
    have h64 : (l0_0.length : Int) ≤ 64 := by omega
    have hh2 : ¬ (s : Int) < 0 := by omega
    have hh3 : ¬ (s : Int) ≥ (l0_0.length : Int) := by omega
    have HX64 := Aside0.mk (ofL_len l0_0 l1 (s : Int))
    obtain ⟨x, hx⟩ : ∃ x, ofL l0_0 l1 (s : Int) = x := ⟨_, rfl⟩
    obtain ⟨y, hy⟩ : ∃ y, stepsL l0_0 l1 (s : Int) = y := ⟨_, rfl⟩
    have HXQ := Aside0.mk hx
    have HYQ := Aside0.mk hy
    rw [hx] at HOF HLE HX64 HT
    rw [hy] at HSP HLE
    generalize allB l0_0 l1 (madeS l0_0 l1) = S at HALL hlen HST
    have HLN := Aside0.mk hlen
    clear hr0_0 hc0_0 hr1 hc1 hsm h70 hF hl2 hlen hx hy hs0
    go_enter Tryz.func3, Tryz.ntmps3
    go_upto_region 3 with (go_at_call 8; refine (HSM.out _ HB0.out).mono ?_; rintro e w2 ⟨rfl, hb⟩; have HB2 := Aside0.mk (HB0.out.trans (hb.mono HB0.out.size)); have HG2 := Aside0.mk (blk_below HG0.out hb); clear hb; have x0 : w2.cell? ⟨w.heap.size, 0, none⟩ = some (.slice A0_0 l0_0.length c0_0) := (blk_cell HG2.out 0).trans rfl)
    go_region_held2 (fun w' => w'.cell? ⟨w.heap.size, 0, none⟩ = some (.slice A0_0 l0_0.length c0_0)) (first | (go_keep; done) | exact (blk_cell (blk_drew HG2.out) 0).trans rfl | exact (blk_cell HG3.out 0).trans rfl | exact (blk_cell HG4.out 0).trans rfl) (first | (go_at_call 10; refine (HOF.out _ (below_drewN HB2.out 1)).mono ?_; rintro e w3 ⟨v3, rfl, hR, hb⟩; have HB3 := Aside0.mk ((below_drewN HB2.out 1).trans (hb.mono (below_drewN HB2.out 1).size)); have HG3 := Aside0.mk (blk_below (blk_drew HG2.out) hb); obtain ⟨A3, c3, rfl⟩ := Kd.R_slice hR; have HX3 := Aside0.mk (Kd.R_reads' hR).2.2; clear hb hR) | (go_at_call 11; refine (HSP.out _ HB3.out).mono ?_; rintro e w4 ⟨v4, rfl, hR, hb⟩; have HB4 := Aside0.mk (HB3.out.trans (hb.mono HB3.out.size)); have HG4 := Aside0.mk (blk_below HG3.out hb); obtain ⟨A4, c4, rfl⟩ := Kd.R_slice hR; have HX4 := Aside0.mk (Kd.C_below HX3.out hb); have HY4 := Aside0.mk (Kd.R_reads' hR).2.2; clear hb hR))
    go_wp2_with (go_at_call 12; refine (HALL.out _ HB4.out).mono ?_; rintro e w5 ⟨v5, rfl, hR, hb⟩; have HB5 := Aside0.mk (HB4.out.trans (hb.mono HB4.out.size)); have HG5 := Aside0.mk (blk_below HG4.out hb); obtain ⟨A5, c5, rfl⟩ := Kd.R_slice hR; rw [HLN.out]; have HX5 := Aside0.mk (Kd.C_below HX4.out hb); have HY5 := Aside0.mk (Kd.C_below HY4.out hb); have HZ5 := Aside0.mk (Kd.R_reads' hR).2.2; clear hb hR; have x5 : w5.cell? ⟨w.heap.size, 0, none⟩ = some (.slice A0_0 l0_0.length c0_0) := (blk_cell HG5.out 0).trans rfl)
    have HBA := Aside0.mk (below_alloc (Below.refl w5.heap.size w5) (.cells #[.int .i64 0, .int .i64 0, .int .i64 0, .int .i64 0] 34 (0, 0)))
    have HGA := Aside0.mk (blk_new w5 (.cells #[.int .i64 0, .int .i64 0, .int .i64 0, .int .i64 0] 34 (0, 0)))
    obtain ⟨gh, hgh⟩ : ∃ g, w5.heap.size = g := ⟨_, rfl⟩
    obtain ⟨W6, hW6⟩ : ∃ W, W = w5.alloc (.cells #[.int .i64 0, .int .i64 0, .int .i64 0, .int .i64 0] 34 (0, 0)) := ⟨_, rfl⟩
    have HGH := Aside0.mk (Nat.le_of_eq hgh)
    rw [hgh] at HGA ⊢
    rw [← hW6] at HBA HGA ⊢
    have HHA : Aside0 (HadAt W6 gh [0, 0, 0, 0]) := HGA
    clear hgh hW6 HGA x5
    have hx64 : (x.length : Int) ≤ 64 := by have := HX64.out; omega
    rw [show decide (l0_0.length ≤ s) = false from decide_eq_false (by omega), Bool.or_false]
    go_loopg [12] x.length (fun kq v12 w' => ∃ (i : Nat) (hs : List Int), i + kq = x.length ∧ v12 = .int .i64 i ∧ hs.length = 4 ∧ Aside0 (∀ a : Nat, a < 4 → hs.getD a 0 = (((x.take i).countP (hadQ l0_0 s a) : Nat) : Int)) ∧ Aside0 (HadAt w' gh hs) ∧ Aside0 (Below w5.heap.size w5 w'))
    case atStart => exact ⟨0, [0, 0, 0, 0], by omega, rfl, rfl, ⟨fun a ha => by rw [List.take_zero]; obtain rfl | rfl | rfl | rfl : a = 0 ∨ a = 1 ∨ a = 2 ∨ a = 3 := (by omega) <;> rfl⟩, HHA, HBA⟩
    case round =>
     obtain ⟨i, hs, hi, rfl, hh4, HCN, HH, HB⟩ := hrel
     have HBw := Aside0.mk (HB5.out.trans (HB.out.mono HB5.out.size))
     cases gk with
     | zero =>
      obtain rfl : i = x.length := by omega
      have hle : (y.length : Int) ≤ (x.length : Int) := by have := HLE.out; omega
      go_wp2_with (go_at_call 9; refine (HLV.out _).mono ?_; rintro e w8 ⟨rfl, hb⟩; have HB8 := Aside0.mk (HBw.out.trans (hb.mono HBw.out.size)); clear hb)
      go_ret
      exact ⟨rfl, HB8.out⟩
     | succ d =>
      have hlt : i < x.length := by omega
      obtain ⟨n, hn, ht⟩ := HT.out i hlt
      obtain ⟨h1, h2, h3, h4, h5, h6⟩ := ht
      rw [HXQ.out] at h5
      rw [HYQ.out] at h6
      have hS := (HST.out n h2).trans h3
      obtain ⟨ad, e0, z0⟩ := Kd.at_int (Kd.C_below HX5.out HB.out) (i : Int) (by omega) (by omega)
      have hrd : rd x (i : Int) = n := by unfold rd; rw [Int.toNat_natCast, List.getD_eq_getElem?_getD, List.getElem?_eq_getElem hlt]; exact hn
      rw [hrd, Int.toNat_natCast] at z0
      obtain ⟨as_, e1, s0⟩ := Kd.at_int (Kd.C_below HZ5.out HB.out) (n : Int) (by omega) (by have := HLN.out; omega)
      rw [hS, Int.toNat_natCast] at s0
      obtain rfl := e0
      obtain rfl := e1
      have hk1 : ¬ (n : Int) < 1 := by omega
      have hk2 : ¬ (n : Int) ≥ (l0_0.length : Int) := by omega
      have hk3 : (n : Int) < (l0_0.length : Int) := by omega
      have hk0 : (0 : Int) ≤ n := by omega
      have hil : (i : Int) < (x.length : Int) := by omega
      have hi0 : (0 : Int) ≤ i := by omega
      have HI2 := Aside0.mk hi
      have HLT := Aside0.mk hlt
      have x0 : wr.cell? ⟨w.heap.size, 0, none⟩ = some (.slice A0_0 l0_0.length c0_0) := (blk_cell (blk_below HG5.out HB.out) 0).trans rfl
      have HAN : Aside0 (((aboveL l0_0 (n : Int)).any fun y => y == (s : Int)) = true) := ⟨List.any_eq_true.2 ⟨_, h4, by simp⟩⟩
      have HTK : Aside0 (∀ a : Nat, (x.take (i + 1)).countP (hadQ l0_0 s a) = (x.take i).countP (hadQ l0_0 s a) + if hadQ l0_0 s a (n : Int) then 1 else 0) := ⟨fun a => by rw [List.take_succ_eq_append_getElem hlt, List.countP_append, hn, List.countP_singleton]⟩
      obtain ⟨u2, hu2⟩ : ∃ u, (rd_T39 l0_0 (n : Int)).f2 = u := ⟨_, rfl⟩
      obtain ⟨u5, hu5⟩ : ∃ u, (rd_T39 l0_0 (n : Int)).f5 = u := ⟨_, rfl⟩
      obtain ⟨u6, hu6⟩ : ∃ u, (rd_T39 l0_0 (n : Int)).f6 = u := ⟨_, rfl⟩
      have HU2 := Aside0.mk hu2
      have HU5 := Aside0.mk hu5
      have HU6 := Aside0.mk hu6
      rw [hu2] at h6
      rw [hu5, hu6] at h5
      have HST2 := Aside0.mk h6
      have H5 := Aside0.mk h5
      clear h1 h2 h3 h4 h5 h6 hS hrd hn hu2 hu5 hu6 hi hlt
      go_upto_region 12 with (fail)
      go_upto_region 14 with (first
       | (go_at_call 14; refine (HAB.out n _ HBw.out).mono ?_; rintro e w7 ⟨v7, rfl, hR, hb⟩; have HB7 := Aside0.mk (HB.out.trans (hb.mono HB.out.size)); have HH7 : Aside0 (HadAt w7 gh hs) := ⟨blk_below HH.out hb⟩; obtain ⟨A7, c7, rfl⟩ := Kd.R_slice hR; have HC7 := Aside0.mk (Kd.R_reads' hR).2.2; clear hb hR)
       | (go_at_call 13; refine (ref_in_walk _ _ _ _ _ HC7.out).mono ?_; rintro e w8 ⟨rfl, hb⟩; rw [HAN.out]; have HB8 := Aside0.mk (HB7.out.trans (hb.mono HB7.out.size)); have HH8 : Aside0 (HadAt w8 gh hs) := ⟨blk_below HH7.out hb⟩; clear hb))
      clear x0 z0 s0
      have HBv := Aside0.mk (HB5.out.trans (HB8.out.mono HB5.out.size))
      have x1 : w8.cell? ⟨w.heap.size, 0, none⟩ = some (.slice A0_0 l0_0.length c0_0) := (blk_cell (blk_below HG5.out HB8.out) 0).trans rfl
      obtain ⟨ai, A9, c9, e1, q0, q1, q2, q3, q4, q5, q6, q7, -, -⟩ := at_T39 (Kd.C_below HP.out HBv.out) (n : Int) hk0 hk3
      obtain rfl := e1
      rw [Int.toNat_natCast] at q5 q6
      rw [HU5.out] at q5
      rw [HU6.out] at q6
      clear q0 q1 q2 q3 q4 q7
      cases hq : u5 == (s : Int)
      ·have HQ := Aside0.mk hq
       have HN0 : Aside0 (∀ a : Nat, hadQ l0_0 s a (n : Int) = false) := ⟨fun a => by unfold hadQ; rw [HU5.out, HQ.out]; rfl⟩
       have HBt := Aside0.mk (HB5.out.trans (HB8.out.mono HB5.out.size))
       have HXt := Aside0.mk (Kd.C_below HY5.out HB8.out)
       have HXd : Aside0 (Kd.C (Kd.int .i64) w8.drew A4 y.length y) := ⟨Kd.C_below HXt.out (below_drewN (Below.refl w8.heap.size w8) 1)⟩
       have xt : w8.cell? ⟨w.heap.size, 0, none⟩ = some (.slice (some ai) l0_0.length c0_0) := (blk_cell (blk_below HG5.out HB8.out) 0).trans rfl
       obtain ⟨aj, Aj, cj, ej, t0, t1, t2, t3, t4, t5, t6, t7, -, -⟩ := at_T39 (Kd.C_below HP.out HBt.out) (n : Int) hk0 hk3
       obtain rfl := Option.some.inj ej
       rw [Int.toNat_natCast] at t2
       rw [HU2.out] at t2
       clear t0 t1 t3 t4 t5 t6 t7
       have HIN := Aside0.mk (ref_in_walk A4 c4 y (n : Int) w8.drew HXd.out)
       go_upto_region 21 with (fail)
       go_region_held2 (fun w' => w'.cell? ⟨w.heap.size, 0, none⟩ = some (.slice (some ai) l0_0.length c0_0) ∧ w'.cell? ⟨(ai.add (n * 8)).block, (ai.add (n * 8)).off + 2, none⟩ = some (.bool u2)) (first | (go_keep; done) | exact ⟨cell_bel HBK.out xt, cell_bel HBK.out t2⟩) (first | (go_at_call 13; refine HIN.out.mono ?_; rintro e w11 ⟨rfl, hb⟩; rw [HST2.out]; have HB11 := Aside0.mk ((below_drewN HB8.out 1).trans (hb.mono (below_drewN HB8.out 1).size)); have HH11 : Aside0 (HadAt w11 gh hs) := ⟨blk_below (blk_drew HH8.out) hb⟩; have HBK := Aside0.mk hb; clear hb))
       all_goals
        go_wp2
        go_roundg d
        case measure => omega
        case rel => exact ⟨i + 1, hs, by have := HI2.out; omega, by go_num, hh4, ⟨fun a ha => by rw [HTK.out a, HN0.out a, if_neg (by simp)]; exact HCN.out a ha⟩, HH11, HB11⟩
      ·obtain rfl : u5 = (s : Int) := by simpa using hq
       obtain ⟨a, ha, ha4, hcnt⟩ := H5.out rfl
       obtain rfl := ha
       have hka : ¬ (a : Int) < 0 := by omega
       have hka3 : ¬ (a : Int) > 3 := by omega
       have ha0 : (0 : Int) ≤ a := by omega
       have hal : (a : Int) < 4 := by omega
       have HQ1 : Aside0 (∀ b : Nat, hadQ l0_0 s b (n : Int) = decide (b = a)) := ⟨fun b => by unfold hadQ; rw [HU5.out, HU6.out, beq_self_eq_true, Bool.true_and]; exact beq_nat_ a b⟩
       have hz : hs.getD a 0 = 0 := by
        have h7 := HTK.out a
        rw [HQ1.out a, decide_eq_true rfl, if_pos rfl] at h7
        rw [HCN.out a ha4]
        omega
       have y1 := HH8.out.cell a (by omega)
       have f1 : w8.frozen? ⟨gh, a, none⟩ = false := blk_frozen HH8.out a
       rw [hz] at y1
       have HCZ := Aside0.mk hz
       have HA4 := Aside0.mk ha4
       clear hz hcnt ha4 hq
       go_upto_region 19 with (fail)
       obtain ⟨W9, hW9⟩ : ∃ W, W = w8.setCell ⟨gh, a, none⟩ (.int .i64 1) := ⟨_, rfl⟩
       have HB9 : Aside0 (Below w5.heap.size w5 W9) := ⟨by rw [hW9]; exact below_set HB8.out HGH.out⟩
       have HH9 : Aside0 (HadAt W9 gh (hs.set a 1)) := ⟨by rw [hW9]; exact HH8.out.put a 1⟩
       have HHL : Aside0 ((hs.set a 1).length = 4) := ⟨by rw [List.length_set]; exact hh4⟩
       have HHC : Aside0 (∀ b : Nat, b < 4 → (hs.set a 1).getD b 0 = (((x.take (i + 1)).countP (hadQ l0_0 s b) : Nat) : Int)) := ⟨fun b hb => by
        rw [HTK.out b, HQ1.out b, List.getD_eq_getElem?_getD, List.getElem?_set]
        by_cases hba : b = a
        ·subst hba
         rw [if_pos rfl, if_pos (by omega), decide_eq_true rfl, if_pos rfl]
         have h8 := HCN.out b hb
         rw [HCZ.out] at h8
         show (1 : Int) = _
         omega
        ·rw [if_neg (Ne.symm hba), decide_eq_false hba, if_neg (by simp), ← List.getD_eq_getElem?_getD, HCN.out b hb]
         rfl⟩
       have y2 : W9.cell? ⟨gh, a, none⟩ = some (.int .i64 1) := by
        refine (HH9.out.cell a (by have := HHL.out; have := HA4.out; omega)).trans ?_
        rw [List.getD_eq_getElem?_getD, List.getElem?_set, if_pos rfl, if_pos (by have := HA4.out; omega)]
        rfl
       rw [← hW9]
       clear hW9 y1 f1 x1 q5 q6
       have HBt := Aside0.mk (HB5.out.trans (HB9.out.mono HB5.out.size))
       have HXt := Aside0.mk (Kd.C_below HY5.out HB9.out)
       have HXd : Aside0 (Kd.C (Kd.int .i64) W9.drew A4 y.length y) := ⟨Kd.C_below HXt.out (below_drewN (Below.refl W9.heap.size W9) 1)⟩
       have xt : W9.cell? ⟨w.heap.size, 0, none⟩ = some (.slice (some ai) l0_0.length c0_0) := (blk_cell (blk_below HG5.out HB9.out) 0).trans rfl
       obtain ⟨aj, Aj, cj, ej, t0, t1, t2, t3, t4, t5, t6, t7, -, -⟩ := at_T39 (Kd.C_below HP.out HBt.out) (n : Int) hk0 hk3
       obtain rfl := Option.some.inj ej
       rw [Int.toNat_natCast] at t2
       rw [HU2.out] at t2
       clear t0 t1 t3 t4 t5 t6 t7
       have HIN := Aside0.mk (ref_in_walk A4 c4 y (n : Int) W9.drew HXd.out)
       go_upto_region 21 with (fail)
       go_region_held2 (fun w' => w'.cell? ⟨w.heap.size, 0, none⟩ = some (.slice (some ai) l0_0.length c0_0) ∧ w'.cell? ⟨(ai.add (n * 8)).block, (ai.add (n * 8)).off + 2, none⟩ = some (.bool u2)) (first | (go_keep; done) | exact ⟨cell_bel HBK.out xt, cell_bel HBK.out t2⟩) (first | (go_at_call 13; refine HIN.out.mono ?_; rintro e w11 ⟨rfl, hb⟩; rw [HST2.out]; have HB11 := Aside0.mk ((below_drewN HB9.out 1).trans (hb.mono (below_drewN HB9.out 1).size)); have HH11 : Aside0 (HadAt w11 gh (hs.set a 1)) := ⟨blk_below (blk_drew HH9.out) hb⟩; have HBK := Aside0.mk hb; clear hb))
       all_goals
        go_wp2
        go_roundg d
        case measure => omega
        case rel => exact ⟨i + 1, (hs.set a 1), by have := HI2.out; omega, by go_num, HHL.out, HHC, HH11, HB11⟩
   ·have hcz : ∀ hF : factsB l0_0 l1 = true, a2 < 0 ∨ a2 ≥ (l0_0.length : Int) := fun hF => by
     by_cases h : a2 < 0
     ·exact .inl h
     ·by_cases h2 : a2 ≥ (l0_0.length : Int)
      ·exact .inr h2
      ·exact absurd ⟨hF, by omega, by omega⟩ hin
    have hOf : ofL l0_0 l1 a2 = [] := by
     cases hF : factsB l0_0 l1
     ·exact of_no hF a2
     ·exact of_out a2 (hcz hF)
    have hSt : stepsL l0_0 l1 a2 = [] := by unfold stepsL; rw [hOf]; rfl
    rw [hOf] at HOF
    rw [hSt] at HSP
    cases hF : factsB l0_0 l1 with
    | false =>
     have HALL := Aside0.mk (fun (W : World) (hb : Below w.heap.size w W) => state_All.calls A0_0 c0_0 l0_0 A1 c1 l1 _ _ W (Kd.C_below hr0_0 hb) hc0_0 (Kd.C_below hr1 hb) hc1 (all_no hsm hl2 hF))
     clear hr0_0 hc0_0 hr1 hc1 HP hsm h70 hF hl2 hOf hSt hin hcz
     go_enter Tryz.func3, Tryz.ntmps3
     go_upto_region 3 with (go_at_call 8; refine (HSM.out _ HB0.out).mono ?_; rintro e w2 ⟨rfl, hb⟩; have HB2 := Aside0.mk (HB0.out.trans (hb.mono HB0.out.size)); have HG2 := Aside0.mk (blk_below HG0.out hb); clear hb; have x0 : w2.cell? ⟨w.heap.size, 0, none⟩ = some (.slice A0_0 l0_0.length c0_0) := (blk_cell HG2.out 0).trans rfl)
     go_region_held2 (fun w' => w'.cell? ⟨w.heap.size, 0, none⟩ = some (.slice A0_0 l0_0.length c0_0)) (first | (go_keep; done) | exact (blk_cell (blk_drew HG2.out) 0).trans rfl | exact (blk_cell HG3.out 0).trans rfl | exact (blk_cell HG4.out 0).trans rfl) (first | (go_at_call 10; refine (HOF.out _ (below_drewN HB2.out 1)).mono ?_; rintro e w3 ⟨v3, rfl, hR, hb⟩; have HB3 := Aside0.mk ((below_drewN HB2.out 1).trans (hb.mono (below_drewN HB2.out 1).size)); have HG3 := Aside0.mk (blk_below (blk_drew HG2.out) hb); obtain ⟨A3, c3, rfl⟩ := Kd.R_slice hR; have HX3 := Aside0.mk (Kd.R_reads' hR).2.2; clear hb hR) | (go_at_call 11; refine (HSP.out _ HB3.out).mono ?_; rintro e w4 ⟨v4, rfl, hR, hb⟩; have HB4 := Aside0.mk (HB3.out.trans (hb.mono HB3.out.size)); have HG4 := Aside0.mk (blk_below HG3.out hb); obtain ⟨A4, c4, rfl⟩ := Kd.R_slice hR; have HX4 := Aside0.mk (Kd.C_below HX3.out hb); have HY4 := Aside0.mk (Kd.R_reads' hR).2.2; clear hb hR))
     all_goals
      go_wp2_with (first
       | (go_at_call 12; refine (HALL.out _ HB4.out).mono ?_; rintro e w5 ⟨v5, rfl, hR, hb⟩; have HB5 := Aside0.mk (HB4.out.trans (hb.mono HB4.out.size)); have HG5 := Aside0.mk (blk_below HG4.out hb); obtain ⟨A5, c5, rfl⟩ := Kd.R_slice hR; have HX5 := Aside0.mk (Kd.C_below HX4.out hb); have HY5 := Aside0.mk (Kd.C_below HY4.out hb); have HZ5 := Aside0.mk (Kd.R_reads' hR).2.2; clear hb hR; have x5 : w5.cell? ⟨w.heap.size, 0, none⟩ = some (.slice A0_0 l0_0.length c0_0) := (blk_cell HG5.out 0).trans rfl)
       | (go_at_call 9; refine (HLV.out _).mono ?_; rintro e w6 ⟨rfl, hb⟩; have HB6 := Aside0.mk (HB5.out.trans (hb.mono HB5.out.size)); clear hb))
      go_ret
      exact ⟨rfl, HB6.out⟩
    | true =>
     have hci := hcz hF
     have HALL := Aside0.mk (fun (W : World) (hb : Below w.heap.size w W) => state_All.calls A0_0 c0_0 l0_0 A1 c1 l1 _ _ W (Kd.C_below hr0_0 hb) hc0_0 (Kd.C_below hr1 hb) hc1 (all_yes hsm hl2 hF))
     generalize allB l0_0 l1 (madeS l0_0 l1) = S at HALL
     clear hr0_0 hc0_0 hr1 hc1 HP hsm h70 hF hl2 hOf hSt hin hcz
     by_cases hz1 : a2 < 0
     ·clear hci
      go_enter Tryz.func3, Tryz.ntmps3
      go_upto_region 3 with (go_at_call 8; refine (HSM.out _ HB0.out).mono ?_; rintro e w2 ⟨rfl, hb⟩; have HB2 := Aside0.mk (HB0.out.trans (hb.mono HB0.out.size)); have HG2 := Aside0.mk (blk_below HG0.out hb); clear hb; have x0 : w2.cell? ⟨w.heap.size, 0, none⟩ = some (.slice A0_0 l0_0.length c0_0) := (blk_cell HG2.out 0).trans rfl)
      go_region_held2 (fun w' => w'.cell? ⟨w.heap.size, 0, none⟩ = some (.slice A0_0 l0_0.length c0_0)) (first | (go_keep; done) | exact (blk_cell (blk_drew HG2.out) 0).trans rfl | exact (blk_cell HG3.out 0).trans rfl | exact (blk_cell HG4.out 0).trans rfl) (first | (go_at_call 10; refine (HOF.out _ (below_drewN HB2.out 1)).mono ?_; rintro e w3 ⟨v3, rfl, hR, hb⟩; have HB3 := Aside0.mk ((below_drewN HB2.out 1).trans (hb.mono (below_drewN HB2.out 1).size)); have HG3 := Aside0.mk (blk_below (blk_drew HG2.out) hb); obtain ⟨A3, c3, rfl⟩ := Kd.R_slice hR; have HX3 := Aside0.mk (Kd.R_reads' hR).2.2; clear hb hR) | (go_at_call 11; refine (HSP.out _ HB3.out).mono ?_; rintro e w4 ⟨v4, rfl, hR, hb⟩; have HB4 := Aside0.mk (HB3.out.trans (hb.mono HB3.out.size)); have HG4 := Aside0.mk (blk_below HG3.out hb); obtain ⟨A4, c4, rfl⟩ := Kd.R_slice hR; have HX4 := Aside0.mk (Kd.C_below HX3.out hb); have HY4 := Aside0.mk (Kd.R_reads' hR).2.2; clear hb hR))
      all_goals
       go_wp2_with (first
        | (go_at_call 12; refine (HALL.out _ HB4.out).mono ?_; rintro e w5 ⟨v5, rfl, hR, hb⟩; have HB5 := Aside0.mk (HB4.out.trans (hb.mono HB4.out.size)); have HG5 := Aside0.mk (blk_below HG4.out hb); obtain ⟨A5, c5, rfl⟩ := Kd.R_slice hR; have HX5 := Aside0.mk (Kd.C_below HX4.out hb); have HY5 := Aside0.mk (Kd.C_below HY4.out hb); have HZ5 := Aside0.mk (Kd.R_reads' hR).2.2; clear hb hR; have x5 : w5.cell? ⟨w.heap.size, 0, none⟩ = some (.slice A0_0 l0_0.length c0_0) := (blk_cell HG5.out 0).trans rfl)
        | (go_at_call 9; refine (HLV.out _).mono ?_; rintro e w6 ⟨rfl, hb⟩; have HB6 := Aside0.mk (HB5.out.trans (hb.mono HB5.out.size)); clear hb))
       go_ret
       exact ⟨rfl, HB6.out⟩
     ·have hz2 : a2 ≥ (l0_0.length : Int) := by omega
      clear hci
      go_enter Tryz.func3, Tryz.ntmps3
      go_upto_region 3 with (go_at_call 8; refine (HSM.out _ HB0.out).mono ?_; rintro e w2 ⟨rfl, hb⟩; have HB2 := Aside0.mk (HB0.out.trans (hb.mono HB0.out.size)); have HG2 := Aside0.mk (blk_below HG0.out hb); clear hb; have x0 : w2.cell? ⟨w.heap.size, 0, none⟩ = some (.slice A0_0 l0_0.length c0_0) := (blk_cell HG2.out 0).trans rfl)
      go_region_held2 (fun w' => w'.cell? ⟨w.heap.size, 0, none⟩ = some (.slice A0_0 l0_0.length c0_0)) (first | (go_keep; done) | exact (blk_cell (blk_drew HG2.out) 0).trans rfl | exact (blk_cell HG3.out 0).trans rfl | exact (blk_cell HG4.out 0).trans rfl) (first | (go_at_call 10; refine (HOF.out _ (below_drewN HB2.out 1)).mono ?_; rintro e w3 ⟨v3, rfl, hR, hb⟩; have HB3 := Aside0.mk ((below_drewN HB2.out 1).trans (hb.mono (below_drewN HB2.out 1).size)); have HG3 := Aside0.mk (blk_below (blk_drew HG2.out) hb); obtain ⟨A3, c3, rfl⟩ := Kd.R_slice hR; have HX3 := Aside0.mk (Kd.R_reads' hR).2.2; clear hb hR) | (go_at_call 11; refine (HSP.out _ HB3.out).mono ?_; rintro e w4 ⟨v4, rfl, hR, hb⟩; have HB4 := Aside0.mk (HB3.out.trans (hb.mono HB3.out.size)); have HG4 := Aside0.mk (blk_below HG3.out hb); obtain ⟨A4, c4, rfl⟩ := Kd.R_slice hR; have HX4 := Aside0.mk (Kd.C_below HX3.out hb); have HY4 := Aside0.mk (Kd.R_reads' hR).2.2; clear hb hR))
      all_goals
       go_wp2_with (first
        | (go_at_call 12; refine (HALL.out _ HB4.out).mono ?_; rintro e w5 ⟨v5, rfl, hR, hb⟩; have HB5 := Aside0.mk (HB4.out.trans (hb.mono HB4.out.size)); have HG5 := Aside0.mk (blk_below HG4.out hb); obtain ⟨A5, c5, rfl⟩ := Kd.R_slice hR; have HX5 := Aside0.mk (Kd.C_below HX4.out hb); have HY5 := Aside0.mk (Kd.C_below HY4.out hb); have HZ5 := Aside0.mk (Kd.R_reads' hR).2.2; clear hb hR; have x5 : w5.cell? ⟨w.heap.size, 0, none⟩ = some (.slice A0_0 l0_0.length c0_0) := (blk_cell HG5.out 0).trans rfl)
        | (go_at_call 9; refine (HLV.out _).mono ?_; rintro e w6 ⟨rfl, hb⟩; have HB6 := Aside0.mk (HB5.out.trans (hb.mono HB5.out.size)); clear hb))
       go_ret
       exact ⟨rfl, HB6.out⟩
end Go.Proofs.YtloijngccppfgaaGreat.F
end

section
namespace Go.Proofs.YtloijngccppfgaaGreat.F
open Go.RowKit Go.Proofs.YtloijngccppfgaaGreatW.PrintWords Go.Proofs.YtloijngccppfgaaGreatW.PrintLast Go.Proofs.YtloijngccppfgaaGreatW.PrintMore
open Go.RowKit Go.Deep
section
variable {α β : Type}
structure Opens (P : Program) (t : TypeId) (d : Kd α) (V : α → Prop) : Prop where
 out : ∀ {H : Type} (enc : TypeId × Value → H) (w : World) (base : Nat) (spare : Nat → Bool) (held : Bool) (fuel : Nat) (cs : List Value) (r : DataW H × List MemPlace),
  DataW.trod enc P w base spare held fuel t cs = some r → ∃ x, d.K w x cs ∧ V x
theorem opens_int {P : Program} {t : TypeId} {k : IntKind} (ht : P.underlying t = some (.int k)) : Opens P t (Kd.int k) (fun n => (Lit.int k n).wf = true) := by
 constructor
 intro H enc w base spare held fuel cs r h
 obtain ⟨x, rfl, _, hw⟩ := DataW.trod_int ht h
 exact ⟨x, rfl, hw⟩
theorem opens_bool {P : Program} {t : TypeId} (ht : P.underlying t = some .bool) : Opens P t Kd.bool (fun _ => True) := by
 constructor
 intro H enc w base spare held fuel cs r h
 obtain ⟨x, rfl, _⟩ := DataW.trod_bool ht h
 exact ⟨x, rfl, trivial⟩
theorem opens_string {P : Program} {t : TypeId} (ht : P.underlying t = some .string) : Opens P t Kd.string (fun s => s.size ≤ maxLen) := by
 constructor
 intro H enc w base spare held fuel cs r h
 obtain ⟨x, rfl, _, hm⟩ := DataW.trod_string ht h
 exact ⟨x, rfl, hm⟩
theorem opens_iso {P : Program} {t : TypeId} {d : Kd α} {V : α → Prop} (f : β → α) (g : α → β) (hg : ∀ y, f (g y) = y) (h : Opens P t d V) : Opens P t (Kd.iso d f) (fun x => V (f x)) := by
 constructor
 intro H enc w base spare held fuel cs r hr
 obtain ⟨x, hk, hv⟩ := h.out enc w base spare held fuel cs r hr
 exact ⟨g x, by show d.K w (f (g x)) cs; rw [hg]; exact hk, by show V (f (g x)); rw [hg]; exact hv⟩
theorem add_add_ (a : Addr) (i j : Nat) : (a.add i).add j = a.add (i + j) := by
 unfold Addr.add
 by_cases hi : i = 0 <;> by_cases hj : j = 0 <;> simp [hi, hj, Nat.add_assoc]
theorem opens_slice {P : Program} {t e : TypeId} {d : Kd α} {V : α → Prop} (z : α) (ht : P.underlying t = some (.slice e)) (hc : P.cellsOf e = d.sz) (h : Opens P e d V) :
  Opens P t (Kd.slice e d) (fun xs => xs.length ≤ maxLen ∧ ∀ x ∈ xs, V x) := by
 constructor
 intro H enc w base spare held fuel cs r hr
 haveI : Inhabited α := ⟨z⟩
 rcases open_slice ht hr with ⟨rfl, _⟩ | ⟨a, len, cap, m, n, D, Pl, rfl, hb, hl, hm, hmm, _, hx⟩
 ·exact ⟨[], ⟨none, 0, rfl, Nat.le_refl _, Kd.C_nil d w⟩, Nat.zero_le _, fun x hx => by cases hx⟩
 ·have hlm : len ≤ m := by rw [hmm]; split <;> omega
  obtain ⟨f, hf⟩ := choose_lt (n := len) (p := fun i x => ∃ c, c.length = d.sz ∧ d.K w x c ∧ V x ∧ ∀ j u, c[j]? = some u → w.cell? (a.add (i * d.sz + j)) = some u) (fun i hi => by
   obtain ⟨cs', h1, h2⟩ := hx i (by omega)
   obtain ⟨x, hk, hv⟩ := h.out enc w base spare held n cs' _ h2
   obtain ⟨_, hl', hcell⟩ := World.cells?_some h1
   rw [hc] at hl' hcell
   refine ⟨x, cs', hl', hk, hv, fun j u hu => ?_⟩
   have hj : j < d.sz := by
    rcases Nat.lt_or_ge j d.sz with hj | hj
    ·exact hj
    ·rw [List.getElem?_eq_none (by omega)] at hu; cases hu
   have := hcell j hj
   rw [add_add_] at this
   rw [this, hu])
  have hlen : ((List.range len).map f).length = len := by simp
  refine ⟨(List.range len).map f, ⟨some a, cap, by rw [hlen], by rw [hlen]; exact hl, ?_⟩, by rw [hlen]; omega, ?_⟩
  ·rw [hlen]
   refine ⟨hlen, ?_, fun _ => ⟨a, rfl, fun j p hp => ?_⟩⟩
   ·unfold maxLen at hm; omega
   ·have hj : j < len := by
     have := (List.getElem?_eq_some_iff.1 hp).1
     rwa [hlen] at this
    have hpe : f j = p := by
     rw [List.getElem?_map, List.getElem?_range hj] at hp
     exact Option.some.inj hp
    obtain ⟨c, h1, h2, _, h4⟩ := hf j hj
    rw [hpe] at h2
    exact ⟨c, h1, h2, h4⟩
  ·intro x hx
   obtain ⟨j, hj, rfl⟩ := List.mem_map.1 hx
   obtain ⟨c, _, _, h3, _⟩ := hf j (List.mem_range.1 hj)
   exact h3
structure OpensF (P : Program) (fs : List Field) (off : Nat) (d : Kd α) (V : α → Prop) : Prop where
 out : ∀ {H : Type} (enc : TypeId × Value → H) (w : World) (base : Nat) (spare : Nat → Bool) (held : Bool) (fuel : Nat) (cs : List Value),
  cs.length = off + d.sz → (∀ f ∈ fs, ∃ r, DataW.trod enc P w base spare held fuel f.type ((cs.drop f.offset).take (P.cellsOf f.type)) = some r) → ∃ x, d.K w x (cs.drop off) ∧ V x
theorem opensF_one {P : Program} {f : Field} {off : Nat} {d : Kd α} {V : α → Prop} (ho : f.offset = off) (hc : P.cellsOf f.type = d.sz) (h : Opens P f.type d V) : OpensF P [f] off d V := by
 constructor
 intro H enc w base spare held fuel cs hl hr
 obtain ⟨r, hr⟩ := hr f (List.mem_singleton.2 rfl)
 rw [ho, hc, List.take_of_length_le (by rw [List.length_drop]; omega)] at hr
 exact h.out enc w base spare held fuel _ r hr
theorem opensF_cons {P : Program} {f : Field} {fs : List Field} {off : Nat} {d : Kd α} {d' : Kd β} {V : α → Prop} {V' : β → Prop} (ho : f.offset = off) (hc : P.cellsOf f.type = d.sz) (h : Opens P f.type d V) (h' : OpensF P fs (off + d.sz) d' V') :
  OpensF P (f :: fs) off (Kd.pair d d') (fun x => V x.1 ∧ V' x.2) := by
 constructor
 intro H enc w base spare held fuel cs hl hr
 have hl' : cs.length = off + (d.sz + d'.sz) := hl
 obtain ⟨r, hr1⟩ := hr f (List.mem_cons_self ..)
 rw [ho, hc] at hr1
 obtain ⟨x, hk, hv⟩ := h.out enc w base spare held fuel _ r hr1
 obtain ⟨y, hk', hv'⟩ := h'.out enc w base spare held fuel cs (by omega) (fun g hg => hr g (List.mem_cons_of_mem _ hg))
 refine ⟨(x, y), ⟨(cs.drop off).take d.sz, cs.drop (off + d.sz), ?_, hk, hk'⟩, hv, hv'⟩
 rw [← List.drop_drop, List.take_append_drop]
theorem opens_struct {P : Program} {t : TypeId} {fs : Array Field} {d : Kd α} {V : α → Prop} (ht : P.underlying t = some (.struct fs)) (hc : P.cellsOf t = d.sz) (h : OpensF P fs.toList 0 d V) : Opens P t d V := by
 constructor
 intro H enc w base spare held fuel cs r hr
 obtain ⟨xs, n, _, _, hl, hxl, hx⟩ := DataW.trod_struct ht hr
 obtain ⟨x, hk, hv⟩ := h.out enc w base spare held n cs (by omega) (fun f hf => by
  obtain ⟨i, hi, rfl⟩ := List.mem_iff_getElem.1 hf
  have hi' : i < fs.size := by simpa using hi
  have := hx i fs[i] (by simp [hi'])
  rw [List.getElem?_eq_getElem (by omega)] at this
  exact ⟨_, by simpa using this⟩)
 rw [List.drop_zero] at hk
 exact ⟨x, hk, hv⟩
end
end Go.Proofs.YtloijngccppfgaaGreat.F
end
