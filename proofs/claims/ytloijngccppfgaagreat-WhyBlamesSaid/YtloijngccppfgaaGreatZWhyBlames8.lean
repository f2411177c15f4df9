-- Texts of this seat's, joined.
import Derived.Test.YtloijngccppfgaaGreatZWhyBlames5
import Derived.Test.YtloijngccppfgaaGreatZWhyBlames2
import Derived.Test.YtloijngccppfgaaGreatZWhyBlames7
import Derived.Test.YtloijngccppfgaaGreatZWhyBlames1
import Derived.Test.YtloijngccppfgaaGreatZWhyBlames6
import Derived.BigRegion
import Derived.Deep.RegionWith
import Derived.WalkSmall
import Derived.Deep.DeepCutAuto
import Derived.Deep.CutRange
import Derived.Test.YtloijngccppfgaaGreatProg
import Derived.Below
import Derived.Deep.Draws
import Derived.Deep.AppendLies
import Derived.Maps.AppendAt
import Derived.OwnWalk
import Derived.Laws.BytesArg
import Derived.Laws.MakeOwn
import Derived.Laws.OwnMore
import Derived.Deep.OwnRows
import Derived.Tactics
import Derived.Lib.ConvBytes
import Derived.Laws.Slices
import Derived.WalkKit
import Derived.KernelRfl
import Derived.RowKit3
import Derived.Deep.LoopGhost
import Derived.Deep.QuietTactic
import Derived.BigQuiet
import Derived.WideLaws
import Derived.Deep.CutBlock
import Derived.Deep.RegionHeld3
import Derived.Laws.Rows
import Derived.Lib.AppendStr
import Derived.ArgAppend
import Derived.Laws.IdiomCopy
import Derived.OrdersHeld
import Derived.Laws.BitsLemmas
import Derived.RowKit
import Derived.Deep.Slices
section
namespace Go.Proofs.YtloijngccppfgaaGreat.Pure
set_option linter.unusedVariables false
open Go.RowKit Go.Proofs.YtloijngccppfgaaGreat.F Go.Proofs.YtloijngccppfgaaGreatW.PrintWords Go.Proofs.YtloijngccppfgaaGreatW.PrintLast
theorem small_ev32 (l : List S39) (d : Nat) : ∀ i : Nat, i + d = 70 → ∃ b, Ev (fun k => argosylaw32_small.l0 k (i : Int) l) b ∧ (b = true → l.length ≤ 70 ∧ ∀ j (h : j < l.length), i ≤ j → l[j].f7.length ≤ 100) := by
 induction d with
 | zero =>
  intro i hi
  refine ⟨decide ((l.length : Int) ≤ 70), ⟨2, fun k hk => ?_⟩, fun h => ?_⟩
  ·obtain ⟨k, rfl⟩ : ∃ m, k = m + 2 := ⟨k - 2, by omega⟩
   simp only [argosylaw32_small.l0, argosylaw32_small.j1]
   rw [decide_eq_false (by omega : ¬ (i : Int) < 70)]
   simp
  ·have := of_decide_eq_true h
   exact ⟨by omega, fun j h1 h2 => by omega⟩
 | succ d ih =>
  intro i hi
  by_cases hl : i < l.length
  ·obtain ⟨b, ⟨K, hK⟩, hb⟩ := ih (i + 1) (by omega)
   have hrd : rd_T39 l (i : Int) = l[i] := by unfold rd_T39; rw [Int.toNat_natCast, List.getD_eq_getElem?_getD, List.getElem?_eq_getElem hl]; rfl
   by_cases h1 : ((l[i].f0).size : Int) > 200 ∨ ((l[i].f1).size : Int) > 200 ∨ ((l[i].f7).length : Int) > 100
   ·refine ⟨false, ⟨2, fun k hk => ?_⟩, fun h => by cases h⟩
    obtain ⟨k, rfl⟩ : ∃ m, k = m + 2 := ⟨k - 2, by omega⟩
    simp only [argosylaw32_small.l0, argosylaw32_small.j1]
    rw [if_pos (by omega), decide_eq_true (by omega : (i : Int) < 70), if_pos rfl, if_pos (by omega), if_pos (by omega), hrd]
    by_cases h2 : ((l[i].f0).size : Int) > 200
    ·rw [if_pos h2]
    ·rw [if_neg h2]
     by_cases h3 : ((l[i].f1).size : Int) > 200
     ·rw [if_pos h3]
     ·rw [if_neg h3, if_pos (by omega)]
   ·refine ⟨b, ⟨K + 2, fun k hk => ?_⟩, fun h => ⟨(hb h).1, fun j h2 h3 => ?_⟩⟩
    ·obtain ⟨k, rfl⟩ : ∃ m, k = m + 2 := ⟨k - 2, by omega⟩
     simp only [argosylaw32_small.l0, argosylaw32_small.j1]
     rw [if_pos (by omega), decide_eq_true (by omega : (i : Int) < 70), if_pos rfl, if_pos (by omega), if_pos (by omega), hrd, if_neg (by omega), if_neg (by omega), if_neg (by omega), show wrap64 ((i : Int) + 1) = ((i + 1 : Nat) : Int) by unfold wrap64; omega]
     exact hK k (by omega)
    ·by_cases hj : j = i
     ·subst hj; omega
     ·exact (hb h).2 j h2 (by omega)
  ·refine ⟨decide ((l.length : Int) ≤ 70), ⟨2, fun k hk => ?_⟩, fun h => ?_⟩
   ·obtain ⟨k, rfl⟩ : ∃ m, k = m + 2 := ⟨k - 2, by omega⟩
    simp only [argosylaw32_small.l0, argosylaw32_small.j1]
    rw [if_neg (by omega)]
    simp
   ·have := of_decide_eq_true h
    exact ⟨by omega, fun j h1 h2 => by omega⟩
theorem small_f32 (p : List S39) : ∃ b K, (∀ k, K ≤ k → argosylaw32_small.f k p = some b) ∧ (b = true → smallP p = true ∧ p.length ≤ 70) := by
 obtain ⟨b, ⟨K, hK⟩, hb⟩ := small_ev32 p 70 0 (by omega)
 exact ⟨b, K, fun k hk => hK k hk, fun h => ⟨small_plan (hb h), (hb h).1⟩⟩
theorem lives_ev32 (k : Nat) (hk : 80 ≤ k) : argosylaw32_lives.f k = some true := by
 obtain ⟨m, rfl⟩ : ∃ m, k = 80 + m := ⟨k - 80, by omega⟩
 exact argosylaw32_lives.up_ m 80 true argosylaw32_lives.at_
end Go.Proofs.YtloijngccppfgaaGreat.Pure
end

section
namespace Go.Proofs.YtloijngccppfgaaGreat.Pure
set_option linter.unusedVariables false
open Go.RowKit Go.Proofs.YtloijngccppfgaaGreat.F Go.Proofs.YtloijngccppfgaaGreatW.PrintWords Go.Proofs.YtloijngccppfgaaGreatW.PrintLast
section
variable {p : List S39} {l : List S50}
theorem blame_no (h : factsB p l = false) (i : Int) : blameL p l i = -1 := by unfold blameL; rw [h]; rfl
theorem blame_out (i : Int) (h : i < 1 ∨ i ≥ (p.length : Int)) : blameL p l i = -1 := by
 unfold blameL
 cases hf : factsB p l
 ·rfl
 ·obtain ⟨h1, h2⟩ := facts_shape hf
  cases hb : (decide (0 ≤ i) && decide (i < (l.length : Int)))
  ·rfl
  ·rw [Bool.and_eq_true, decide_eq_true_eq, decide_eq_true_eq] at hb
   obtain rfl : i = 0 := by omega
   show blameI p _ 0 = -1
   unfold blameI blameF
   rw [if_neg (by omega)]
theorem blame_in (hf : factsB p l = true) {i : Nat} (h1 : 1 ≤ i) (hi : i < p.length) : (blameL p l (i : Int) = -1 ∧ fallB p (madeS p l) (rd_T39 p (i : Int)).f5 (rd_T39 p (i : Int)).f6 = false) ∨ ∃ n : Nat, blameL p l (i : Int) = n ∧ BlamedAt p l (madeS p l) (p.length + 1) i n := by
 obtain ⟨M, hr, hln, hn, h64⟩ := facts_made hf
 have e : blameL p l (i : Int) = blameF p (allB p l (madeS p l)) (p.length + 1) (i : Int) := by
  unfold blameL
  rw [hf, decide_eq_true (by omega : (0 : Int) ≤ i), decide_eq_true (by omega : (i : Int) < l.length)]
  rfl
 rw [e]
 by_cases hc : blameF p (allB p l (madeS p l)) (p.length + 1) (i : Int) = -1
 ·exact .inl ⟨hc, blame_none M hf _ i (by omega) h1 hi hc⟩
 ·exact .inr (blame_some M hf _ i (by omega) h1 hi hc)
end
end Go.Proofs.YtloijngccppfgaaGreat.Pure
end

section
namespace Go.Proofs.YtloijngccppfgaaGreat.F
open Go.RowKit Go.Proofs.YtloijngccppfgaaGreatW.PrintWords Go.Proofs.YtloijngccppfgaaGreatW.PrintLast Go.Proofs.YtloijngccppfgaaGreatW.PrintMore
attribute [local go_sem] max2_int min2_int max_two min_two max_three min_three max_four min_four
set_option linter.unusedVariables false
set_option linter.unusedSimpArgs false
theorem stp_ {u v x : World} (h : Aside0 (Below u.heap.size u v)) (k : Below v.heap.size v x) : Aside0 (Below u.heap.size u x) := ⟨h.out.trans (k.mono h.out.size)⟩
def argosylaw32_WhyBlames.f (k : Nat) (l0_0 : List S39) (l1 : List S50) (a2 : Int) : Option Bool := some true
open Go.Proofs.YtloijngccppfgaaGreat.Pure in
set_option maxHeartbeats 8000000 in
set_option maxRecDepth 100000 in
theorem argosylaw32_WhyBlames.calls (k : Nat) (A0_0 : Option Addr) (c0_0 : Nat) (l0_0 : List S39) (A1 : Option Addr) (c1 : Nat) (l1 : List S50) (a2 : Int) (r : Bool) (w : World) (hr0_0 : Kd.C k39 w A0_0 l0_0.length l0_0) (hc0_0 : l0_0.length ≤ c0_0) (hr1 : Kd.C k50 w A1 l1.length l1) (hc1 : l1.length ≤ c1) (h : argosylaw32_WhyBlames.f k l0_0 l1 a2 = some r) :
  Calls Tryz.prog 4 #[.agg #[.slice A0_0 l0_0.length c0_0], .slice A1 l1.length c1, .int .i64 a2] w fun e w' => e = .returned (.bool r) ∧ Below w.heap.size w w' := by
 obtain rfl := Option.some.inj h
 obtain ⟨b, K, hK, hb⟩ := small_f32 l0_0
 have HB0 := Aside0.mk (below_alloc (Below.refl w.heap.size w) (.cells #[.slice A0_0 l0_0.length c0_0] 24 (0, 0)))
 have HG0 := Aside0.mk (blk_new w (.cells #[.slice A0_0 l0_0.length c0_0] 24 (0, 0)))
 have HP := Aside0.mk hr0_0
 have HSM := Aside0.mk (fun (W : World) (hb : Below w.heap.size w W) => argosylaw32_small.calls K A0_0 c0_0 l0_0 b W (Kd.C_below hr0_0 hb) hc0_0 (hK K (Nat.le_refl _)))
 have HLV := Aside0.mk (fun (W : World) => argosylaw32_lives.calls 80 true W (lives_ev32 80 (by omega)))
 clear h hK
 cases b with
 | false =>
  clear hr0_0 hc0_0 hr1 hc1 hb HP
  go_enter Tryz.func4, Tryz.ntmps4
  go_wp2_with (first
   | (go_at_call 8; refine (HSM.out _ HB0.out).mono ?_; rintro e w2 ⟨rfl, hb⟩; have HB2 := stp_ HB0 hb; clear hb)
   | (go_at_call 9; refine (HLV.out _).mono ?_; rintro e w3 ⟨rfl, hb⟩; have HB3 := stp_ HB2 hb; clear hb))
  go_ret
  exact ⟨rfl, HB3.out⟩
 | true =>
  obtain ⟨hsm, h70⟩ := hb rfl
  clear hb
  by_cases hl : (l1.length : Int) > 100
  ·clear hr0_0 hc0_0 hr1 hc1 HP hsm h70
   go_enter Tryz.func4, Tryz.ntmps4
   go_wp2_with (first
    | (go_at_call 8; refine (HSM.out _ HB0.out).mono ?_; rintro e w2 ⟨rfl, hb⟩; have HB2 := stp_ HB0 hb; clear hb)
    | (go_at_call 9; refine (HLV.out _).mono ?_; rintro e w3 ⟨rfl, hb⟩; have HB3 := stp_ HB2 hb; clear hb))
   go_ret
   exact ⟨rfl, HB3.out⟩
  ·have hl2 : l1.length ≤ 100 := by omega
   have HBL := Aside0.mk (fun (W : World) (hb : Below w.heap.size w W) => why_Blame.calls A0_0 c0_0 l0_0 A1 c1 l1 a2 (blameL l0_0 l1 a2) W (Kd.C_below hr0_0 hb) hc0_0 (Kd.C_below hr1 hb) hc1 (by unfold why_Blame.f; rw [if_pos (small_ok hsm hl2)]))
   cases hF : factsB l0_0 l1 with
   | false =>
    have HALL := Aside0.mk (fun (W : World) (hb : Below w.heap.size w W) => state_All.calls A0_0 c0_0 l0_0 A1 c1 l1 _ _ W (Kd.C_below hr0_0 hb) hc0_0 (Kd.C_below hr1 hb) hc1 (all_no hsm hl2 hF))
    rw [blame_no hF] at HBL
    clear hr0_0 hc0_0 hr1 hc1 HP hsm h70 hF hl2
    go_enter Tryz.func4, Tryz.ntmps4
    go_wp2_with (first
     | (go_at_call 8; refine (HSM.out _ HB0.out).mono ?_; rintro e w2 ⟨rfl, hb⟩; have HB2 := stp_ HB0 hb; have HG2 := Aside0.mk (blk_below HG0.out hb); clear hb; have x0 : w2.cell? ⟨w.heap.size, 0, none⟩ = some (.slice A0_0 l0_0.length c0_0) := (blk_cell HG2.out 0).trans rfl)
     | (go_at_call 12; refine (HALL.out _ HB2.out).mono ?_; rintro e w3 ⟨v3, rfl, hR, hb⟩; have HB3 := stp_ HB2 hb; have HG3 := Aside0.mk (blk_below HG2.out hb); obtain ⟨A3, c3, rfl⟩ := Kd.R_slice hR; have HS3 := Aside0.mk (Kd.R_reads' hR).2.2; clear hb hR x0; have x0 : w3.cell? ⟨w.heap.size, 0, none⟩ = some (.slice A0_0 l0_0.length c0_0) := (blk_cell HG3.out 0).trans rfl)
     | (go_at_call 15; refine (HBL.out _ HB3.out).mono ?_; rintro e w4 ⟨rfl, hb⟩; have HB4 := stp_ HB3 hb; have HG4 := Aside0.mk (blk_below HG3.out hb); have HS4 := Aside0.mk (Kd.C_below HS3.out hb); clear hb x0; have x0 : w4.cell? ⟨w.heap.size, 0, none⟩ = some (.slice A0_0 l0_0.length c0_0) := (blk_cell HG4.out 0).trans rfl)
     | (go_at_call 9; refine (HLV.out _).mono ?_; rintro e w5 ⟨rfl, hb⟩; have HB5 := stp_ HB4 hb; clear hb))
    go_ret
    exact ⟨rfl, HB5.out⟩
   | true =>
    have HALL := Aside0.mk (fun (W : World) (hb : Below w.heap.size w W) => state_All.calls A0_0 c0_0 l0_0 A1 c1 l1 _ _ W (Kd.C_below hr0_0 hb) hc0_0 (Kd.C_below hr1 hb) hc1 (all_yes hsm hl2 hF))
    by_cases hi : a2 < 1 ∨ a2 ≥ (l0_0.length : Int)
    ·rw [blame_out a2 hi] at HBL
     clear hr0_0 hc0_0 hr1 hc1 HP hsm h70 hF hl2
     by_cases hi1 : a2 < 1
     ·go_enter Tryz.func4, Tryz.ntmps4
      go_wp2_with (first
       | (go_at_call 8; refine (HSM.out _ HB0.out).mono ?_; rintro e w2 ⟨rfl, hb⟩; have HB2 := stp_ HB0 hb; have HG2 := Aside0.mk (blk_below HG0.out hb); clear hb; have x0 : w2.cell? ⟨w.heap.size, 0, none⟩ = some (.slice A0_0 l0_0.length c0_0) := (blk_cell HG2.out 0).trans rfl)
       | (go_at_call 12; refine (HALL.out _ HB2.out).mono ?_; rintro e w3 ⟨v3, rfl, hR, hb⟩; have HB3 := stp_ HB2 hb; have HG3 := Aside0.mk (blk_below HG2.out hb); obtain ⟨A3, c3, rfl⟩ := Kd.R_slice hR; have HS3 := Aside0.mk (Kd.R_reads' hR).2.2; clear hb hR x0; have x0 : w3.cell? ⟨w.heap.size, 0, none⟩ = some (.slice A0_0 l0_0.length c0_0) := (blk_cell HG3.out 0).trans rfl)
       | (go_at_call 15; refine (HBL.out _ HB3.out).mono ?_; rintro e w4 ⟨rfl, hb⟩; have HB4 := stp_ HB3 hb; have HG4 := Aside0.mk (blk_below HG3.out hb); have HS4 := Aside0.mk (Kd.C_below HS3.out hb); clear hb x0; have x0 : w4.cell? ⟨w.heap.size, 0, none⟩ = some (.slice A0_0 l0_0.length c0_0) := (blk_cell HG4.out 0).trans rfl)
       | (go_at_call 9; refine (HLV.out _).mono ?_; rintro e w5 ⟨rfl, hb⟩; have HB5 := stp_ HB4 hb; clear hb))
      go_ret
      exact ⟨rfl, HB5.out⟩
     ·have hi2 : a2 ≥ (l0_0.length : Int) := by omega
      clear hi
      go_enter Tryz.func4, Tryz.ntmps4
      go_wp2_with (first
       | (go_at_call 8; refine (HSM.out _ HB0.out).mono ?_; rintro e w2 ⟨rfl, hb⟩; have HB2 := stp_ HB0 hb; have HG2 := Aside0.mk (blk_below HG0.out hb); clear hb; have x0 : w2.cell? ⟨w.heap.size, 0, none⟩ = some (.slice A0_0 l0_0.length c0_0) := (blk_cell HG2.out 0).trans rfl)
       | (go_at_call 12; refine (HALL.out _ HB2.out).mono ?_; rintro e w3 ⟨v3, rfl, hR, hb⟩; have HB3 := stp_ HB2 hb; have HG3 := Aside0.mk (blk_below HG2.out hb); obtain ⟨A3, c3, rfl⟩ := Kd.R_slice hR; have HS3 := Aside0.mk (Kd.R_reads' hR).2.2; clear hb hR x0; have x0 : w3.cell? ⟨w.heap.size, 0, none⟩ = some (.slice A0_0 l0_0.length c0_0) := (blk_cell HG3.out 0).trans rfl)
       | (go_at_call 15; refine (HBL.out _ HB3.out).mono ?_; rintro e w4 ⟨rfl, hb⟩; have HB4 := stp_ HB3 hb; have HG4 := Aside0.mk (blk_below HG3.out hb); have HS4 := Aside0.mk (Kd.C_below HS3.out hb); clear hb x0; have x0 : w4.cell? ⟨w.heap.size, 0, none⟩ = some (.slice A0_0 l0_0.length c0_0) := (blk_cell HG4.out 0).trans rfl)
       | (go_at_call 9; refine (HLV.out _).mono ?_; rintro e w5 ⟨rfl, hb⟩; have HB5 := stp_ HB4 hb; clear hb))
      go_ret
      exact ⟨rfl, HB5.out⟩
    ·obtain ⟨i, rfl⟩ := Int.eq_ofNat_of_zero_le (by omega : 0 ≤ a2)
     have h1 : 1 ≤ i := by omega
     have hil : i < l0_0.length := by omega
     have hh1 : ¬ (i : Int) < 1 := by omega
     have hh2 : ¬ (i : Int) ≥ (l0_0.length : Int) := by omega
     have hh3 : (i : Int) < (l0_0.length : Int) := by omega
     have hh0 : (0 : Int) ≤ i := by omega
     have HFL := Aside0.mk (fun (a k : Int) (W : World) (hb : Below w.heap.size w W) => state_Falling.calls A0_0 c0_0 l0_0 A1 c1 l1 a k (fallB l0_0 (madeS l0_0 l1) a k) W (Kd.C_below hr0_0 hb) hc0_0 (Kd.C_below hr1 hb) hc1 (falling_yes hsm hl2 hF a k))
     have hlen := allB_len l0_0 l1 (madeS l0_0 l1)
     have HST := Aside0.mk (fun k (hk : k < l0_0.length) => allB_rd l0_0 l1 (madeS l0_0 l1) hk)
     have hn64 := (facts_made hF).2.2.2.2
     have h64 : (l0_0.length : Int) ≤ 64 := by omega
     have HUP := Aside0.mk (shape_up (facts_shape hF).2)
     rcases blame_in hF h1 hil with ⟨hc, hfa⟩ | ⟨n, hc, hbl⟩
     ·rw [hc] at HBL
      have HFI := Aside0.mk (fun (W : World) (hb : Below w.heap.size w W) => HFL.out (rd_T39 l0_0 (i : Int)).f5 (rd_T39 l0_0 (i : Int)).f6 W hb)
      rw [hfa] at HFI
      obtain ⟨u5, hu5⟩ : ∃ u, (rd_T39 l0_0 (i : Int)).f5 = u := ⟨_, rfl⟩
      obtain ⟨u6, hu6⟩ : ∃ u, (rd_T39 l0_0 (i : Int)).f6 = u := ⟨_, rfl⟩
      rw [hu5, hu6] at HFI
      have HU5 := Aside0.mk hu5
      have HU6 := Aside0.mk hu6
      clear hr0_0 hc0_0 hr1 hc1 hsm h70 hF hl2 hfa hu5 hu6 hlen hi hn64 hc
      go_enter Tryz.func4, Tryz.ntmps4
      go_upto_region 8 with (first
       | (go_at_call 8; refine (HSM.out _ HB0.out).mono ?_; rintro e w2 ⟨rfl, hb⟩; have HB2 := stp_ HB0 hb; have HG2 := Aside0.mk (blk_below HG0.out hb); clear hb; have x0 : w2.cell? ⟨w.heap.size, 0, none⟩ = some (.slice A0_0 l0_0.length c0_0) := (blk_cell HG2.out 0).trans rfl)
       | (go_at_call 12; refine (HALL.out _ HB2.out).mono ?_; rintro e w3 ⟨v3, rfl, hR, hb⟩; have HB3 := stp_ HB2 hb; have HG3 := Aside0.mk (blk_below HG2.out hb); obtain ⟨A3, c3, rfl⟩ := Kd.R_slice hR; have HS3 := Aside0.mk (Kd.R_reads' hR).2.2; clear hb hR x0; have x0 : w3.cell? ⟨w.heap.size, 0, none⟩ = some (.slice A0_0 l0_0.length c0_0) := (blk_cell HG3.out 0).trans rfl)
       | (go_at_call 15; refine (HBL.out _ HB3.out).mono ?_; rintro e w4 ⟨rfl, hb⟩; have HB4 := stp_ HB3 hb; have HG4 := Aside0.mk (blk_below HG3.out hb); have HS4 := Aside0.mk (Kd.C_below HS3.out hb); clear hb x0; have x0 : w4.cell? ⟨w.heap.size, 0, none⟩ = some (.slice A0_0 l0_0.length c0_0) := (blk_cell HG4.out 0).trans rfl))
      obtain ⟨ai, A7, c7, e1, q0, q1, q2, q3, q4, q5, q6, q7, -, -⟩ := at_T39 (Kd.C_below HP.out HB4.out) (i : Int) hh0 hh3
      obtain rfl := e1
      rw [Int.toNat_natCast] at q5 q6
      rw [HU5.out] at q5
      rw [HU6.out] at q6
      clear q0 q1 q2 q3 q4 q7
      go_region_with (first
       | (go_at_call 16; refine (HFI.out _ (below_drewN HB4.out 1)).mono ?_; rintro e w5 ⟨rfl, hb⟩; have HB5 := Aside0.mk ((below_drewN HB4.out 1).trans (hb.mono (below_drewN HB4.out 1).size)); clear hb)
       | (go_at_call 9; refine (HLV.out _).mono ?_; rintro e w6 ⟨rfl, hb⟩; have HB6 := stp_ HB5 hb; clear hb))
      all_goals
       go_wp2
       go_ret
       exact ⟨rfl, HB6.out⟩
     ·have hst := hbl.st
      have hfa := hbl.falls
      have hch := hbl.chain
      have hn1 := hbl.pos
      have hnl := hbl.lt
      rw [hc] at HBL
      have hk1 : ¬ (n : Int) < 1 := by omega
      have hk2 : ¬ (n : Int) ≥ (l0_0.length : Int) := by omega
      have hk3 : (n : Int) < (l0_0.length : Int) := by omega
      have hk0 : (0 : Int) ≤ n := by omega
      have hk4 : ((n : Int) == -1) = false := beq_eq_false_iff_ne.2 (by omega)
      have hk5 : ¬ (n : Int) = -1 := by omega
      have HSN := Aside0.mk ((HST.out n hnl).trans hst)
      have HFN := Aside0.mk (fun (W : World) (hb : Below w.heap.size w W) => HFL.out (rd_T39 l0_0 (n : Int)).f5 (rd_T39 l0_0 (n : Int)).f6 W hb)
      rw [hfa] at HFN
      generalize allB l0_0 l1 (madeS l0_0 l1) = S at HALL hlen HSN
      have HLN := Aside0.mk hlen
      obtain ⟨x, hx⟩ : ∃ x, rd_T39 l0_0 (n : Int) = x := ⟨_, rfl⟩
      have HX := Aside0.mk hx
      rw [hx] at HFN hch
      obtain ⟨p0, p1, p2, p3, p4, p5, p6, p7⟩ := x
      dsimp only at HFN hch
      have HCH := Aside0.mk hch
      have HIL := Aside0.mk hil
      clear hr0_0 hc0_0 hr1 hc1 hsm h70 hF hl2 hfa hlen hi hn64 hc hst hch hbl HST HFL hx h1 hil hn1 hnl
      go_enter Tryz.func4, Tryz.ntmps4
      go_upto_region 11 with (first
       | (go_at_call 8; refine (HSM.out _ HB0.out).mono ?_; rintro e w2 ⟨rfl, hb⟩; have HB2 := stp_ HB0 hb; have HG2 := Aside0.mk (blk_below HG0.out hb); clear hb; have x0 : w2.cell? ⟨w.heap.size, 0, none⟩ = some (.slice A0_0 l0_0.length c0_0) := (blk_cell HG2.out 0).trans rfl)
       | (go_at_call 12; refine (HALL.out _ HB2.out).mono ?_; rintro e w3 ⟨v3, rfl, hR, hb⟩; have HB3 := stp_ HB2 hb; have HG3 := Aside0.mk (blk_below HG2.out hb); obtain ⟨A3, c3, rfl⟩ := Kd.R_slice hR; rw [HLN.out]; have HS3 := Aside0.mk (Kd.R_reads' hR).2.2; clear hb hR x0; have x0 : w3.cell? ⟨w.heap.size, 0, none⟩ = some (.slice A0_0 l0_0.length c0_0) := (blk_cell HG3.out 0).trans rfl)
       | (go_at_call 15; refine (HBL.out _ HB3.out).mono ?_; rintro e w4 ⟨rfl, hb⟩; have HB4 := stp_ HB3 hb; have HG4 := Aside0.mk (blk_below HG3.out hb); have HS4 := Aside0.mk (Kd.C_below HS3.out hb); obtain ⟨ad, e0, hs0⟩ := Kd.at_int HS4.out (n : Int) hk0 (by have := HLN.out; omega); obtain rfl := e0; rw [HSN.out, Int.toNat_natCast] at hs0; clear hb x0; have x0 : w4.cell? ⟨w.heap.size, 0, none⟩ = some (.slice A0_0 l0_0.length c0_0) := (blk_cell HG4.out 0).trans rfl))
      obtain ⟨ai, A7, c7, e1, q0, q1, q2, q3, q4, q5, q6, q7, -, -⟩ := at_T39 (Kd.C_below HP.out HB4.out) (n : Int) hk0 hk3
      obtain rfl := e1
      rw [Int.toNat_natCast] at q0 q1 q2 q3 q4 q5 q6 q7
      rw [HX.out] at q0 q1 q2 q3 q4 q5 q6 q7
      dsimp only at q0 q1 q2 q3 q4 q5 q6 q7
      go_wp2_with (fail)
      have HBX := Aside0.mk (below_alloc HB4.out (.cells #[.string p0, .string p1, .bool p2, .bool p3, .int .i64 p4, .int .i64 p5, .int .i64 p6, .slice A7 p7.length c7] 39 (0, 0)))
      have HGX := Aside0.mk (blk_new w4 (.cells #[.string p0, .string p1, .bool p2, .bool p3, .int .i64 p4, .int .i64 p5, .int .i64 p6, .slice A7 p7.length c7] 39 (0, 0)))
      have HG5 := Aside0.mk (blk_alloc HG4.out (.cells #[.string p0, .string p1, .bool p2, .bool p3, .int .i64 p4, .int .i64 p5, .int .i64 p6, .slice A7 p7.length c7] 39 (0, 0)))
      obtain ⟨gx, hgx⟩ : ∃ g, w4.heap.size = g := ⟨_, rfl⟩
      obtain ⟨W5, hW5⟩ : ∃ W, W = w4.alloc (.cells #[.string p0, .string p1, .bool p2, .bool p3, .int .i64 p4, .int .i64 p5, .int .i64 p6, .slice A7 p7.length c7] 39 (0, 0)) := ⟨_, rfl⟩
      rw [hgx] at HGX ⊢
      rw [← hW5] at HBX HGX HG5 ⊢
      clear hgx hW5 q0 q1 q2 q3 q4 q5 q6 q7 x0 hs0
      rw [show decide (l0_0.length ≤ n) = false from decide_eq_false (by omega), Bool.or_false]
      go_loopg [11] (i + 1) (fun kq v11 w' => ∃ (k : Int) (d : Nat), v11 = .int .i64 k ∧ k + 1 = kq ∧ k < l0_0.length ∧ Aside0 (chainF l0_0 p5 p6 d k = true) ∧ Aside0 (Below W5.heap.size W5 w'))
      case atStart => exact ⟨i, l0_0.length + 1, rfl, by omega, by have := HIL.out; omega, HCH, ⟨Below.refl _ _⟩⟩
      case round =>
       obtain ⟨k, d, rfl, hk, hkl, HC, HB⟩ := hrel
       have HBw := Aside0.mk (HBX.out.trans (HB.out.mono HBX.out.size))
       obtain ⟨d, rfl⟩ : ∃ e, d = e + 1 := (by cases d with | zero => exact absurd HC.out (by simp [chainF]) | succ e => exact ⟨e, rfl⟩)
       have hcc := HC.out
       unfold chainF at hcc
       rw [Bool.and_eq_true, decide_eq_true_eq] at hcc
       obtain ⟨hkp, hor⟩ := hcc
       obtain ⟨q, rfl⟩ := Int.eq_ofNat_of_zero_le (Int.le_of_lt hkp)
       have hql : q < l0_0.length := by omega
       have hq0 : (0 : Int) ≤ q := by omega
       have hq1 : (q : Int) < (l0_0.length : Int) := by omega
       have hqp : (q : Int) > 0 := hkp
       have HUQ := Aside0.mk (HUP.out.2 q hql)
       obtain ⟨u5, hu5⟩ : ∃ u, (rd_T39 l0_0 (q : Int)).f5 = u := ⟨_, rfl⟩
       obtain ⟨u6, hu6⟩ : ∃ u, (rd_T39 l0_0 (q : Int)).f6 = u := ⟨_, rfl⟩
       have HU5 := Aside0.mk hu5
       have HU6 := Aside0.mk hu6
       rw [hu5, hu6] at hor
       rw [hu5] at HUQ
       have HOR := Aside0.mk hor
       have HK := Aside0.mk hk
       have x0 : wr.cell? ⟨w.heap.size, 0, none⟩ = some (.slice (some ai) l0_0.length c0_0) := (blk_cell (blk_below HG5.out HB.out) 0).trans rfl
       have z5 : wr.cell? ⟨gx, 5, none⟩ = some (.int .i64 p5) := (blk_cell (blk_below HGX.out HB.out) 5).trans rfl
       have z6 : wr.cell? ⟨gx, 6, none⟩ = some (.int .i64 p6) := (blk_cell (blk_below HGX.out HB.out) 6).trans rfl
       obtain ⟨ai2, A72, c72, e1, q0, q1, q2, q3, q4, q5, q6, q7, -, -⟩ := at_T39 (Kd.C_below HP.out HBw.out) (q : Int) hq0 hq1
       obtain rfl := Option.some.inj e1
       rw [Int.toNat_natCast] at q5 q6
       rw [HU5.out] at q5
       rw [HU6.out] at q6
       clear q0 q1 q2 q3 q4 q7 hu5 hu6 hor hk hkl hkp HC
       cases h5 : u5 == p5
       ·have HD : Aside0 (chainF l0_0 p5 p6 d u5 = true) := ⟨by have := HOR.out; rw [h5] at this; simpa using this⟩
        go_upto_region 15 with (fail)
        go_region
        obtain ⟨W6, hW6⟩ : ∃ W, W = wr.drew := ⟨_, rfl⟩
        have HB6 : Aside0 (Below W5.heap.size W5 W6) := ⟨by rw [hW6]; exact below_drewN HB.out 1⟩
        have x1 : W6.cell? ⟨w.heap.size, 0, none⟩ = some (.slice (some ai) l0_0.length c0_0) := by rw [hW6]; exact x0
        have q51 : W6.cell? ⟨(ai.add (q * 8)).block, (ai.add (q * 8)).off + 5, none⟩ = some (.int .i64 u5) := by rw [hW6]; exact q5
        rw [← hW6]
        clear hW6 x0 q5 q6 z5 z6
        go_wp2
        go_roundg (u5 + 1).toNat
        case measure => have := HUQ.out; have := HK.out; omega
        case rel => exact ⟨u5, d, rfl, by have := HUQ.out; omega, by have := HUQ.out; omega, HD, HB6⟩
       ·cases h6 : u6 == p6
        ·have HD : Aside0 (chainF l0_0 p5 p6 d u5 = true) := ⟨by have := HOR.out; rw [h5, h6] at this; simpa using this⟩
         go_upto_region 15 with (fail)
         go_region
         obtain ⟨W6, hW6⟩ : ∃ W, W = wr.drew := ⟨_, rfl⟩
         have HB6 : Aside0 (Below W5.heap.size W5 W6) := ⟨by rw [hW6]; exact below_drewN HB.out 1⟩
         have x1 : W6.cell? ⟨w.heap.size, 0, none⟩ = some (.slice (some ai) l0_0.length c0_0) := by rw [hW6]; exact x0
         have q51 : W6.cell? ⟨(ai.add (q * 8)).block, (ai.add (q * 8)).off + 5, none⟩ = some (.int .i64 u5) := by rw [hW6]; exact q5
         rw [← hW6]
         clear hW6 x0 q5 q6 z5 z6
         go_wp2
         go_roundg (u5 + 1).toNat
         case measure => have := HUQ.out; have := HK.out; omega
         case rel => exact ⟨u5, d, rfl, by have := HUQ.out; omega, by have := HUQ.out; omega, HD, HB6⟩
        ·go_upto_region 15 with (fail)
         go_region
         obtain ⟨W6, hW6⟩ : ∃ W, W = wr.drew := ⟨_, rfl⟩
         have HB6 : Aside0 (Below w.heap.size w W6) := ⟨by rw [hW6]; exact below_drewN HBw.out 1⟩
         have x1 : W6.cell? ⟨w.heap.size, 0, none⟩ = some (.slice (some ai) l0_0.length c0_0) := by rw [hW6]; exact x0
         have z51 : W6.cell? ⟨gx, 5, none⟩ = some (.int .i64 p5) := by rw [hW6]; exact z5
         have z61 : W6.cell? ⟨gx, 6, none⟩ = some (.int .i64 p6) := by rw [hW6]; exact z6
         rw [← hW6]
         clear hW6 x0 q5 q6 z5 z6
         go_wp2_with (first
          | (go_at_call 16; refine (HFN.out _ HB6.out).mono ?_; rintro e w7 ⟨rfl, hb⟩; have HB7 := stp_ HB6 hb; clear hb)
          | (go_at_call 9; refine (HLV.out _).mono ?_; rintro e w8 ⟨rfl, hb⟩; have HB8 := stp_ HB7 hb; clear hb))
         go_ret
         exact ⟨rfl, HB8.out⟩
end Go.Proofs.YtloijngccppfgaaGreat.F
end

section
namespace Go.Proofs.YtloijngccppfgaaGreat.F
open Go.RowKit Go.Proofs.YtloijngccppfgaaGreatW.PrintWords Go.Proofs.YtloijngccppfgaaGreatW.PrintLast Go.Proofs.YtloijngccppfgaaGreatW.PrintMore
open Go.RowKit Go.Deep
section
variable {α β : Type}
structure Opens (P : Program) (t : TypeId) (d : Kd α) (V : α → Prop) : Prop where
 out : ∀ {H : Type} (enc : TypeId × Value → H) (w : World) (base : Nat) (spare : Nat → Bool) (held : Bool) (fuel : Nat) (cs : List Value) (r : DataW H × List MemPlace),
  DataW.trod enc P w base spare held fuel t cs = some r → ∃ x, d.K w x cs ∧ V x
theorem opens_int {P : Program} {t : TypeId} {k : IntKind} (ht : P.underlying t = some (.int k)) : Opens P t (Kd.int k) (fun n => (Lit.int k n).wf = true) := by
 constructor
 intro H enc w base spare held fuel cs r h
 obtain ⟨x, rfl, _, hw⟩ := DataW.trod_int ht h
 exact ⟨x, rfl, hw⟩
theorem opens_bool {P : Program} {t : TypeId} (ht : P.underlying t = some .bool) : Opens P t Kd.bool (fun _ => True) := by
 constructor
 intro H enc w base spare held fuel cs r h
 obtain ⟨x, rfl, _⟩ := DataW.trod_bool ht h
 exact ⟨x, rfl, trivial⟩
theorem opens_string {P : Program} {t : TypeId} (ht : P.underlying t = some .string) : Opens P t Kd.string (fun s => s.size ≤ maxLen) := by
 constructor
 intro H enc w base spare held fuel cs r h
 obtain ⟨x, rfl, _, hm⟩ := DataW.trod_string ht h
 exact ⟨x, rfl, hm⟩
theorem opens_iso {P : Program} {t : TypeId} {d : Kd α} {V : α → Prop} (f : β → α) (g : α → β) (hg : ∀ y, f (g y) = y) (h : Opens P t d V) : Opens P t (Kd.iso d f) (fun x => V (f x)) := by
 constructor
 intro H enc w base spare held fuel cs r hr
 obtain ⟨x, hk, hv⟩ := h.out enc w base spare held fuel cs r hr
 exact ⟨g x, by show d.K w (f (g x)) cs; rw [hg]; exact hk, by show V (f (g x)); rw [hg]; exact hv⟩
theorem add_add_ (a : Addr) (i j : Nat) : (a.add i).add j = a.add (i + j) := by
 unfold Addr.add
 by_cases hi : i = 0 <;> by_cases hj : j = 0 <;> simp [hi, hj, Nat.add_assoc]
theorem opens_slice {P : Program} {t e : TypeId} {d : Kd α} {V : α → Prop} (z : α) (ht : P.underlying t = some (.slice e)) (hc : P.cellsOf e = d.sz) (h : Opens P e d V) :
  Opens P t (Kd.slice e d) (fun xs => xs.length ≤ maxLen ∧ ∀ x ∈ xs, V x) := by
 constructor
 intro H enc w base spare held fuel cs r hr
 haveI : Inhabited α := ⟨z⟩
 rcases open_slice ht hr with ⟨rfl, _⟩ | ⟨a, len, cap, m, n, D, Pl, rfl, hb, hl, hm, hmm, _, hx⟩
 ·exact ⟨[], ⟨none, 0, rfl, Nat.le_refl _, Kd.C_nil d w⟩, Nat.zero_le _, fun x hx => by cases hx⟩
 ·have hlm : len ≤ m := by rw [hmm]; split <;> omega
  obtain ⟨f, hf⟩ := choose_lt (n := len) (p := fun i x => ∃ c, c.length = d.sz ∧ d.K w x c ∧ V x ∧ ∀ j u, c[j]? = some u → w.cell? (a.add (i * d.sz + j)) = some u) (fun i hi => by
   obtain ⟨cs', h1, h2⟩ := hx i (by omega)
   obtain ⟨x, hk, hv⟩ := h.out enc w base spare held n cs' _ h2
   obtain ⟨_, hl', hcell⟩ := World.cells?_some h1
   rw [hc] at hl' hcell
   refine ⟨x, cs', hl', hk, hv, fun j u hu => ?_⟩
   have hj : j < d.sz := by
    rcases Nat.lt_or_ge j d.sz with hj | hj
    ·exact hj
    ·rw [List.getElem?_eq_none (by omega)] at hu; cases hu
   have := hcell j hj
   rw [add_add_] at this
   rw [this, hu])
  have hlen : ((List.range len).map f).length = len := by simp
  refine ⟨(List.range len).map f, ⟨some a, cap, by rw [hlen], by rw [hlen]; exact hl, ?_⟩, by rw [hlen]; omega, ?_⟩
  ·rw [hlen]
   refine ⟨hlen, ?_, fun _ => ⟨a, rfl, fun j p hp => ?_⟩⟩
   ·unfold maxLen at hm; omega
   ·have hj : j < len := by
     have := (List.getElem?_eq_some_iff.1 hp).1
     rwa [hlen] at this
    have hpe : f j = p := by
     rw [List.getElem?_map, List.getElem?_range hj] at hp
     exact Option.some.inj hp
    obtain ⟨c, h1, h2, _, h4⟩ := hf j hj
    rw [hpe] at h2
    exact ⟨c, h1, h2, h4⟩
  ·intro x hx
   obtain ⟨j, hj, rfl⟩ := List.mem_map.1 hx
   obtain ⟨c, _, _, h3, _⟩ := hf j (List.mem_range.1 hj)
   exact h3
structure OpensF (P : Program) (fs : List Field) (off : Nat) (d : Kd α) (V : α → Prop) : Prop where
 out : ∀ {H : Type} (enc : TypeId × Value → H) (w : World) (base : Nat) (spare : Nat → Bool) (held : Bool) (fuel : Nat) (cs : List Value),
  cs.length = off + d.sz → (∀ f ∈ fs, ∃ r, DataW.trod enc P w base spare held fuel f.type ((cs.drop f.offset).take (P.cellsOf f.type)) = some r) → ∃ x, d.K w x (cs.drop off) ∧ V x
theorem opensF_one {P : Program} {f : Field} {off : Nat} {d : Kd α} {V : α → Prop} (ho : f.offset = off) (hc : P.cellsOf f.type = d.sz) (h : Opens P f.type d V) : OpensF P [f] off d V := by
 constructor
 intro H enc w base spare held fuel cs hl hr
 obtain ⟨r, hr⟩ := hr f (List.mem_singleton.2 rfl)
 rw [ho, hc, List.take_of_length_le (by rw [List.length_drop]; omega)] at hr
 exact h.out enc w base spare held fuel _ r hr
theorem opensF_cons {P : Program} {f : Field} {fs : List Field} {off : Nat} {d : Kd α} {d' : Kd β} {V : α → Prop} {V' : β → Prop} (ho : f.offset = off) (hc : P.cellsOf f.type = d.sz) (h : Opens P f.type d V) (h' : OpensF P fs (off + d.sz) d' V') :
  OpensF P (f :: fs) off (Kd.pair d d') (fun x => V x.1 ∧ V' x.2) := by
 constructor
 intro H enc w base spare held fuel cs hl hr
 have hl' : cs.length = off + (d.sz + d'.sz) := hl
 obtain ⟨r, hr1⟩ := hr f (List.mem_cons_self ..)
 rw [ho, hc] at hr1
 obtain ⟨x, hk, hv⟩ := h.out enc w base spare held fuel _ r hr1
 obtain ⟨y, hk', hv'⟩ := h'.out enc w base spare held fuel cs (by omega) (fun g hg => hr g (List.mem_cons_of_mem _ hg))
 refine ⟨(x, y), ⟨(cs.drop off).take d.sz, cs.drop (off + d.sz), ?_, hk, hk'⟩, hv, hv'⟩
 rw [← List.drop_drop, List.take_append_drop]
theorem opens_struct {P : Program} {t : TypeId} {fs : Array Field} {d : Kd α} {V : α → Prop} (ht : P.underlying t = some (.struct fs)) (hc : P.cellsOf t = d.sz) (h : OpensF P fs.toList 0 d V) : Opens P t d V := by
 constructor
 intro H enc w base spare held fuel cs r hr
 obtain ⟨xs, n, _, _, hl, hxl, hx⟩ := DataW.trod_struct ht hr
 obtain ⟨x, hk, hv⟩ := h.out enc w base spare held n cs (by omega) (fun f hf => by
  obtain ⟨i, hi, rfl⟩ := List.mem_iff_getElem.1 hf
  have hi' : i < fs.size := by simpa using hi
  have := hx i fs[i] (by simp [hi'])
  rw [List.getElem?_eq_getElem (by omega)] at this
  exact ⟨_, by simpa using this⟩)
 rw [List.drop_zero] at hk
 exact ⟨x, hk, hv⟩
end
end Go.Proofs.YtloijngccppfgaaGreat.F
end
