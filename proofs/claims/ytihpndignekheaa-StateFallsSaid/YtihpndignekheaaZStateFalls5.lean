-- Texts of this seat's, joined.
import Derived.Test.YtihpndignekheaaZStateFalls1
import Derived.Test.YtihpndignekheaaZStateFalls2
import Derived.Test.YtihpndignekheaaZStateFalls4
import Derived.Lib.SliceRun
import Derived.Recover
import Derived.WalkSmall
import Derived.BigRegion
import Derived.Deep.RegionHeld2
import Derived.RegionCalls
import Derived.Shelf.Abstract
import Derived.Test.YtihpndignekheaaProg
import Derived.Below
import Derived.Deep.Draws
import Derived.Deep.AppendLies
import Derived.Maps.AppendAt
import Derived.OwnWalk
import Derived.Laws.BytesArg
import Derived.Laws.MakeOwn
import Derived.Laws.OwnMore
import Derived.Deep.OwnRows
import Derived.Tactics
import Derived.Lib.ConvBytes
import Derived.Laws.Slices
import Derived.WalkKit
import Derived.KernelRfl
import Derived.RowKit3
import Derived.Deep.LoopGhost
import Derived.Deep.QuietTactic
import Derived.BigQuiet
import Derived.WideLaws
import Derived.Deep.DeepCutAuto
import Derived.Deep.CutBlock
import Derived.Deep.RegionHeld3
import Derived.Laws.Rows
import Derived.Lib.AppendStr
import Derived.ArgAppend
import Derived.Laws.IdiomCopy
import Derived.OrdersHeld
import Derived.Laws.BitsLemmas
import Derived.RowKit
section
namespace Go.Proofs.Ytihpndignekheaa.F
open Go.RowKit Go.Proofs.YtihpndignekheaaW.PrintWords Go.Proofs.YtihpndignekheaaW.PrintLast Go.Proofs.YtihpndignekheaaW.PrintMore
attribute [local go_sem] max2_int min2_int max_two min_two max_three min_three max_four min_four
set_option linter.unusedVariables false
set_option linter.unusedSimpArgs false
attribute [local go_sem high] eqA59
def fact_fine.j0 : Nat → Bool → Int → Int → Int → Bool → Option (Bool)
 | 0, _, _, _, _, _ => none
 | k + 1, x3, x131000, x131001, x131002, x131003 => if x3 = true then (some false) else (if x131001 = x131002 then (if x131001 > 0 then (if x131000 = 2 then (if x131003 = true then (some (decide (x131001 > x131002))) else (some true)) else (some false)) else (if x131003 = true then (some (decide (x131001 > x131002))) else (some true))) else (if x131001 = (wrap64 (x131002 + 1)) then (if x131001 > 0 then (if x131000 = 2 then (if x131003 = true then (some (decide (x131001 > x131002))) else (some true)) else (some false)) else (if x131003 = true then (some (decide (x131001 > x131002))) else (some true))) else (some false)))
def fact_fine.f (k : Nat) (a0_0 : Int) (a0_1 : Int) (a0_2 : Int) (a0_3 : Bool) : Option (Bool) := if a0_0 < 0 then (fact_fine.j0 k true a0_0 a0_1 a0_2 a0_3) else (if a0_0 > 3 then (fact_fine.j0 k true a0_0 a0_1 a0_2 a0_3) else (if a0_2 < 0 then (fact_fine.j0 k true a0_0 a0_1 a0_2 a0_3) else (fact_fine.j0 k (decide (a0_2 > 3)) a0_0 a0_1 a0_2 a0_3)))
set_option maxHeartbeats 8000000 in
set_option maxRecDepth 100000 in
theorem fact_fine.calls (k : Nat) (a0_0 : Int) (a0_1 : Int) (a0_2 : Int) (a0_3 : Bool) (r : Bool) (w : World) (h : fact_fine.f k a0_0 a0_1 a0_2 a0_3 = some r) :
  Calls Try.prog 35 #[.agg #[.int .i64 a0_0, .int .i64 a0_1, .int .i64 a0_2, .bool a0_3]] w fun e w' => e = .returned (.bool r) ∧ Below w.heap.size w w' := by
 have hu59 := Try.underlying59
 have HB := Aside0.mk (Below.refl w.heap.size w)
 have H : (if a0_0 < 0 then (fact_fine.j0 k true a0_0 a0_1 a0_2 a0_3) else (if a0_0 > 3 then (fact_fine.j0 k true a0_0 a0_1 a0_2 a0_3) else (if a0_2 < 0 then (fact_fine.j0 k true a0_0 a0_1 a0_2 a0_3) else (fact_fine.j0 k (decide (a0_2 > 3)) a0_0 a0_1 a0_2 a0_3)))) = some r := h
 clear h
 have HC2 := Aside0.mk H
 clear H
 go_enter Try.func35, Try.ntmps35
 go_upto_region 1 with (first | ((with_reducible refine gate_dst (N := 1) rfl ?_); refine box_event ?hg (N := 1) ?hd (cs := #[.int .i64 a0_0, .int .i64 a0_1, .int .i64 a0_2, .bool a0_3]) (t := 59) ?hr ?_; (case hd => rfl); (case hg => rfl); (case hr => first | (go_simp; done) | (go_simp; rfl)); intro gb130 hg w3 hbox hb; have n0_ := Aside0.mk (below_step (by repeat (first | (with_reducible first | exact HB.out | apply below_alloc | apply pw_below_drewN | apply below_drew1) | exact HB.out)) hb); have n1_ := Aside0.mk (hbox); have n2_ := Aside0.mk ((by rw [hg]; exact (below_size (by repeat (first | (with_reducible first | exact HB.out | apply below_alloc | apply pw_below_drewN | apply below_drew1) | exact HB.out))) : w.heap.size ≤ gb130)); have n3_ := Aside0.mk ((by rw [hg]; exact (below_size (by repeat (first | (with_reducible first | exact HB.out | apply below_alloc | apply pw_below_drewN | apply below_drew1) | exact HB.out))) : w.heap.size ≤ gb130)); clear HB; have HB := n0_; have BK130 := n1_; have GW130 := n2_; have GE130 := n3_; clear n0_ n1_ n2_ n3_; clear hb hbox hg))
 (try simp only [Act.put, List.setIfInBounds_toArray, List.set_cons_zero, List.set_cons_succ])
 go_cut [3] (fun v3 wc => ∃ (kq : Nat) (x3_1 : Bool), v3 = .bool x3_1 ∧ Aside0 (fact_fine.j0 kq x3_1 a0_0 a0_1 a0_2 a0_3 = some r) ∧ Aside0 (kq ≤ k) ∧ Aside0 (wc.heap[gb130]? = some (.cells #[.int .i64 a0_0, .int .i64 a0_1, .int .i64 a0_2, .bool a0_3] 59 (0, 0))) ∧ Aside0 (Below w.heap.size w wc))
 case first =>
  have H := HC2.out
  clear HC2
  by_cases c4 : a0_0 < 0
  ·rw [if_pos c4] at H
   have c4b0 : decide (a0_0 < 0) = true := decide_eq_true c4
   clear c4
   (first | rw [c4b0] | (simp only [i64_w, i32_w]; rw [c4b0]) | skip)
   have H' := Aside0.mk H
   clear H
   have hcz5_0 : w3.cell? ⟨gb130, 0, none⟩ = some (.int .i64 a0_0) := (blk_cell BK130.out 0).trans rfl
   have hcz5_1 : w3.cell? ⟨gb130, 1, none⟩ = some (.int .i64 a0_1) := (blk_cell BK130.out 1).trans rfl
   have hcz5_2 : w3.cell? ⟨gb130, 2, none⟩ = some (.int .i64 a0_2) := (blk_cell BK130.out 2).trans rfl
   have hcz5_3 : w3.cell? ⟨gb130, 3, none⟩ = some (.bool a0_3) := (blk_cell BK130.out 3).trans rfl
   have hfz5_0 := blk_frozen BK130.out 0
   have hfz5_1 := blk_frozen BK130.out 1
   have hfz5_2 := blk_frozen BK130.out 2
   have hfz5_3 := blk_frozen BK130.out 3
   go_wp2
   go_meet
   case rel => exact ⟨_, (true), (by first | rfl | (simp; done) | (simp [*]; done)), H', ⟨by first | omega | exact Nat.le_refl _⟩, ⟨by (with_reducible repeat (first | refine blk_drewN ?_ _ | refine blk_drew ?_ | refine blk_alloc ?_ _)); exact BK130.out⟩, ⟨by repeat (first | (with_reducible first | exact HB.out | apply below_alloc | apply pw_below_drewN | apply below_drew1 | refine below_set ?_ GE130.out) | exact HB.out)⟩⟩
  ·rw [if_neg c4] at H
   have c4b0 : decide (a0_0 < 0) = false := decide_eq_false c4
   clear c4
   (first | rw [c4b0] | (simp only [i64_w, i32_w]; rw [c4b0]) | skip)
   by_cases c6 : a0_0 > 3
   ·rw [if_pos c6] at H
    have c6b0 : decide (3 < a0_0) = true := decide_eq_true c6
    clear c6
    have H' := Aside0.mk H
    clear H
    have hcz7_0 : w3.cell? ⟨gb130, 0, none⟩ = some (.int .i64 a0_0) := (blk_cell BK130.out 0).trans rfl
    have hcz7_1 : w3.cell? ⟨gb130, 1, none⟩ = some (.int .i64 a0_1) := (blk_cell BK130.out 1).trans rfl
    have hcz7_2 : w3.cell? ⟨gb130, 2, none⟩ = some (.int .i64 a0_2) := (blk_cell BK130.out 2).trans rfl
    have hcz7_3 : w3.cell? ⟨gb130, 3, none⟩ = some (.bool a0_3) := (blk_cell BK130.out 3).trans rfl
    have hfz7_0 := blk_frozen BK130.out 0
    have hfz7_1 := blk_frozen BK130.out 1
    have hfz7_2 := blk_frozen BK130.out 2
    have hfz7_3 := blk_frozen BK130.out 3
    go_wp2
    go_meet
    case rel => exact ⟨_, (true), (by first | rfl | (simp; done) | (simp [*]; done)), H', ⟨by first | omega | exact Nat.le_refl _⟩, ⟨by (with_reducible repeat (first | refine blk_drewN ?_ _ | refine blk_drew ?_ | refine blk_alloc ?_ _)); exact BK130.out⟩, ⟨by repeat (first | (with_reducible first | exact HB.out | apply below_alloc | apply pw_below_drewN | apply below_drew1 | refine below_set ?_ GE130.out) | exact HB.out)⟩⟩
   ·rw [if_neg c6] at H
    have c6b0 : decide (3 < a0_0) = false := decide_eq_false c6
    clear c6
    by_cases c8 : a0_2 < 0
    ·rw [if_pos c8] at H
     have c8b0 : decide (a0_2 < 0) = true := decide_eq_true c8
     clear c8
     have H' := Aside0.mk H
     clear H
     have hcz9_0 : w3.cell? ⟨gb130, 0, none⟩ = some (.int .i64 a0_0) := (blk_cell BK130.out 0).trans rfl
     have hcz9_1 : w3.cell? ⟨gb130, 1, none⟩ = some (.int .i64 a0_1) := (blk_cell BK130.out 1).trans rfl
     have hcz9_2 : w3.cell? ⟨gb130, 2, none⟩ = some (.int .i64 a0_2) := (blk_cell BK130.out 2).trans rfl
     have hcz9_3 : w3.cell? ⟨gb130, 3, none⟩ = some (.bool a0_3) := (blk_cell BK130.out 3).trans rfl
     have hfz9_0 := blk_frozen BK130.out 0
     have hfz9_1 := blk_frozen BK130.out 1
     have hfz9_2 := blk_frozen BK130.out 2
     have hfz9_3 := blk_frozen BK130.out 3
     go_wp2
     go_meet
     case rel => exact ⟨_, (true), (by first | rfl | (simp; done) | (simp [*]; done)), H', ⟨by first | omega | exact Nat.le_refl _⟩, ⟨by (with_reducible repeat (first | refine blk_drewN ?_ _ | refine blk_drew ?_ | refine blk_alloc ?_ _)); exact BK130.out⟩, ⟨by repeat (first | (with_reducible first | exact HB.out | apply below_alloc | apply pw_below_drewN | apply below_drew1 | refine below_set ?_ GE130.out) | exact HB.out)⟩⟩
    ·rw [if_neg c8] at H
     have c8b0 : decide (a0_2 < 0) = false := decide_eq_false c8
     clear c8
     have H' := Aside0.mk H
     clear H
     have hcz10_0 : w3.cell? ⟨gb130, 0, none⟩ = some (.int .i64 a0_0) := (blk_cell BK130.out 0).trans rfl
     have hcz10_1 : w3.cell? ⟨gb130, 1, none⟩ = some (.int .i64 a0_1) := (blk_cell BK130.out 1).trans rfl
     have hcz10_2 : w3.cell? ⟨gb130, 2, none⟩ = some (.int .i64 a0_2) := (blk_cell BK130.out 2).trans rfl
     have hcz10_3 : w3.cell? ⟨gb130, 3, none⟩ = some (.bool a0_3) := (blk_cell BK130.out 3).trans rfl
     have hfz10_0 := blk_frozen BK130.out 0
     have hfz10_1 := blk_frozen BK130.out 1
     have hfz10_2 := blk_frozen BK130.out 2
     have hfz10_3 := blk_frozen BK130.out 3
     go_wp2
     go_meet
     case rel => exact ⟨_, (decide (a0_2 > 3)), (by first | rfl | (simp; done) | (simp [*]; done)), H', ⟨by first | omega | exact Nat.le_refl _⟩, ⟨by (with_reducible repeat (first | refine blk_drewN ?_ _ | refine blk_drew ?_ | refine blk_alloc ?_ _)); exact BK130.out⟩, ⟨by repeat (first | (with_reducible first | exact HB.out | apply below_alloc | apply pw_below_drewN | apply below_drew1 | refine below_set ?_ GE130.out) | exact HB.out)⟩⟩
 case rest =>
  clear HC2
  try clear p2
  try clear c3
  try clear c4
  try clear c4b0
  try clear c6
  try clear c6b0
  try clear c8
  try clear c8b0
  try clear hcz10_0
  try clear hcz10_1
  try clear hcz10_2
  try clear hcz10_3
  try clear hcz5_0
  try clear hcz5_1
  try clear hcz5_2
  try clear hcz5_3
  try clear hcz7_0
  try clear hcz7_1
  try clear hcz7_2
  try clear hcz7_3
  try clear hcz9_0
  try clear hcz9_1
  try clear hcz9_2
  try clear hcz9_3
  try clear hfz10_0
  try clear hfz10_1
  try clear hfz10_2
  try clear hfz10_3
  try clear hfz5_0
  try clear hfz5_1
  try clear hfz5_2
  try clear hfz5_3
  try clear hfz7_0
  try clear hfz7_1
  try clear hfz7_2
  try clear hfz7_3
  try clear hfz9_0
  try clear hfz9_1
  try clear hfz9_2
  try clear hfz9_3
  obtain ⟨kq, x3_1, rfl, HA, HJ1, BK130, HB⟩ := hcut
  cases kq with
  | zero => exact absurd HA.out (by simp [fact_fine.j0])
  | succ kj1 =>
   have H := HA.out
   clear HA
   simp only [fact_fine.j0] at H
   by_cases c11 : x3_1 = true
   ·subst c11
    have H1 : (some false) = some r := by rw [if_pos rfl] at H; exact H
    clear H
    have H := H1
    clear H1
    obtain rfl := Option.some.inj H
    go_wp2
    go_ret
    exact ⟨by first | rfl | (simp [errW_none, errW_some] <;> rfl) | (simp [*, errW_none, errW_some] <;> rfl), by repeat (first | (with_reducible first | exact HB.out | apply below_alloc | apply pw_below_drewN | apply below_drew1 | refine below_set ?_ GE130.out) | exact HB.out)⟩
   ·replace c11 := Bool.eq_false_iff.mpr c11
    subst c11
    have H1 : (if a0_1 = a0_2 then (if a0_1 > 0 then (if a0_0 = 2 then (if a0_3 = true then (some (decide (a0_1 > a0_2))) else (some true)) else (some false)) else (if a0_3 = true then (some (decide (a0_1 > a0_2))) else (some true))) else (if a0_1 = (wrap64 (a0_2 + 1)) then (if a0_1 > 0 then (if a0_0 = 2 then (if a0_3 = true then (some (decide (a0_1 > a0_2))) else (some true)) else (some false)) else (if a0_3 = true then (some (decide (a0_1 > a0_2))) else (some true))) else (some false))) = some r := by rw [if_neg (show ¬ (false = true) by decide)] at H; exact H
    clear H
    have H := H1
    clear H1
    by_cases c12 : a0_1 = a0_2
    ·rw [if_pos c12] at H
     have c12b0 : (a0_1 == a0_2) = true := beq_iff_eq.mpr c12
     have c12b1 : (a0_1 != a0_2) = false := bne_eq_false_iff_eq.mpr c12
     clear c12
     by_cases c13 : a0_1 > 0
     ·rw [if_pos c13] at H
      have c13b0 : decide (0 < a0_1) = true := decide_eq_true c13
      clear c13
      by_cases c14 : a0_0 = 2
      ·rw [if_pos c14] at H
       have c14b0 : (a0_0 == 2) = true := beq_iff_eq.mpr c14
       have c14b1 : (a0_0 != 2) = false := bne_eq_false_iff_eq.mpr c14
       clear c14
       by_cases c15 : a0_3 = true
       ·subst c15
        have H1 : (some (decide (a0_1 > a0_2))) = some r := by rw [if_pos rfl] at H; exact H
        clear H
        have H := H1
        clear H1
        obtain rfl := Option.some.inj H
        have hcz16_0 : wc.cell? ⟨gb130, 0, none⟩ = some (.int .i64 a0_0) := (blk_cell BK130.out 0).trans rfl
        have hcz16_1 : wc.cell? ⟨gb130, 1, none⟩ = some (.int .i64 a0_1) := (blk_cell BK130.out 1).trans rfl
        have hcz16_2 : wc.cell? ⟨gb130, 2, none⟩ = some (.int .i64 a0_2) := (blk_cell BK130.out 2).trans rfl
        have hcz16_3 : wc.cell? ⟨gb130, 3, none⟩ = some (.bool true) := (blk_cell BK130.out 3).trans rfl
        have hfz16_0 := blk_frozen BK130.out 0
        have hfz16_1 := blk_frozen BK130.out 1
        have hfz16_2 := blk_frozen BK130.out 2
        have hfz16_3 := blk_frozen BK130.out 3
        go_wp2
        go_ret
        exact ⟨by first | rfl | (simp [errW_none, errW_some] <;> rfl) | (simp [*, errW_none, errW_some] <;> rfl), by repeat (first | (with_reducible first | exact HB.out | apply below_alloc | apply pw_below_drewN | apply below_drew1 | refine below_set ?_ GE130.out) | exact HB.out)⟩
       ·replace c15 := Bool.eq_false_iff.mpr c15
        subst c15
        have H1 : (some true) = some r := by rw [if_neg (show ¬ (false = true) by decide)] at H; exact H
        clear H
        have H := H1
        clear H1
        obtain rfl := Option.some.inj H
        have hcz17_0 : wc.cell? ⟨gb130, 0, none⟩ = some (.int .i64 a0_0) := (blk_cell BK130.out 0).trans rfl
        have hcz17_1 : wc.cell? ⟨gb130, 1, none⟩ = some (.int .i64 a0_1) := (blk_cell BK130.out 1).trans rfl
        have hcz17_2 : wc.cell? ⟨gb130, 2, none⟩ = some (.int .i64 a0_2) := (blk_cell BK130.out 2).trans rfl
        have hcz17_3 : wc.cell? ⟨gb130, 3, none⟩ = some (.bool false) := (blk_cell BK130.out 3).trans rfl
        have hfz17_0 := blk_frozen BK130.out 0
        have hfz17_1 := blk_frozen BK130.out 1
        have hfz17_2 := blk_frozen BK130.out 2
        have hfz17_3 := blk_frozen BK130.out 3
        go_wp2
        go_ret
        exact ⟨by first | rfl | (simp [errW_none, errW_some] <;> rfl) | (simp [*, errW_none, errW_some] <;> rfl), by repeat (first | (with_reducible first | exact HB.out | apply below_alloc | apply pw_below_drewN | apply below_drew1 | refine below_set ?_ GE130.out) | exact HB.out)⟩
      ·rw [if_neg c14] at H
       have c14b0 : (a0_0 == 2) = false := beq_eq_false_iff_ne.mpr c14
       have c14b1 : (a0_0 != 2) = true := bne_iff_ne.mpr c14
       obtain rfl := Option.some.inj H
       have hcz18_0 : wc.cell? ⟨gb130, 0, none⟩ = some (.int .i64 a0_0) := (blk_cell BK130.out 0).trans rfl
       have hcz18_1 : wc.cell? ⟨gb130, 1, none⟩ = some (.int .i64 a0_1) := (blk_cell BK130.out 1).trans rfl
       have hcz18_2 : wc.cell? ⟨gb130, 2, none⟩ = some (.int .i64 a0_2) := (blk_cell BK130.out 2).trans rfl
       have hcz18_3 : wc.cell? ⟨gb130, 3, none⟩ = some (.bool a0_3) := (blk_cell BK130.out 3).trans rfl
       have hfz18_0 := blk_frozen BK130.out 0
       have hfz18_1 := blk_frozen BK130.out 1
       have hfz18_2 := blk_frozen BK130.out 2
       have hfz18_3 := blk_frozen BK130.out 3
       go_wp2
       go_ret
       exact ⟨by first | rfl | (simp [errW_none, errW_some] <;> rfl) | (simp [*, errW_none, errW_some] <;> rfl), by repeat (first | (with_reducible first | exact HB.out | apply below_alloc | apply pw_below_drewN | apply below_drew1 | refine below_set ?_ GE130.out) | exact HB.out)⟩
     ·rw [if_neg c13] at H
      have c13b0 : decide (0 < a0_1) = false := decide_eq_false c13
      clear c13
      by_cases c19 : a0_3 = true
      ·subst c19
       have H1 : (some (decide (a0_1 > a0_2))) = some r := by rw [if_pos rfl] at H; exact H
       clear H
       have H := H1
       clear H1
       obtain rfl := Option.some.inj H
       have hcz20_0 : wc.cell? ⟨gb130, 0, none⟩ = some (.int .i64 a0_0) := (blk_cell BK130.out 0).trans rfl
       have hcz20_1 : wc.cell? ⟨gb130, 1, none⟩ = some (.int .i64 a0_1) := (blk_cell BK130.out 1).trans rfl
       have hcz20_2 : wc.cell? ⟨gb130, 2, none⟩ = some (.int .i64 a0_2) := (blk_cell BK130.out 2).trans rfl
       have hcz20_3 : wc.cell? ⟨gb130, 3, none⟩ = some (.bool true) := (blk_cell BK130.out 3).trans rfl
       have hfz20_0 := blk_frozen BK130.out 0
       have hfz20_1 := blk_frozen BK130.out 1
       have hfz20_2 := blk_frozen BK130.out 2
       have hfz20_3 := blk_frozen BK130.out 3
       go_wp2
       go_ret
       exact ⟨by first | rfl | (simp [errW_none, errW_some] <;> rfl) | (simp [*, errW_none, errW_some] <;> rfl), by repeat (first | (with_reducible first | exact HB.out | apply below_alloc | apply pw_below_drewN | apply below_drew1 | refine below_set ?_ GE130.out) | exact HB.out)⟩
      ·replace c19 := Bool.eq_false_iff.mpr c19
       subst c19
       have H1 : (some true) = some r := by rw [if_neg (show ¬ (false = true) by decide)] at H; exact H
       clear H
       have H := H1
       clear H1
       obtain rfl := Option.some.inj H
       have hcz21_0 : wc.cell? ⟨gb130, 0, none⟩ = some (.int .i64 a0_0) := (blk_cell BK130.out 0).trans rfl
       have hcz21_1 : wc.cell? ⟨gb130, 1, none⟩ = some (.int .i64 a0_1) := (blk_cell BK130.out 1).trans rfl
       have hcz21_2 : wc.cell? ⟨gb130, 2, none⟩ = some (.int .i64 a0_2) := (blk_cell BK130.out 2).trans rfl
       have hcz21_3 : wc.cell? ⟨gb130, 3, none⟩ = some (.bool false) := (blk_cell BK130.out 3).trans rfl
       have hfz21_0 := blk_frozen BK130.out 0
       have hfz21_1 := blk_frozen BK130.out 1
       have hfz21_2 := blk_frozen BK130.out 2
       have hfz21_3 := blk_frozen BK130.out 3
       go_wp2
       go_ret
       exact ⟨by first | rfl | (simp [errW_none, errW_some] <;> rfl) | (simp [*, errW_none, errW_some] <;> rfl), by repeat (first | (with_reducible first | exact HB.out | apply below_alloc | apply pw_below_drewN | apply below_drew1 | refine below_set ?_ GE130.out) | exact HB.out)⟩
    ·rw [if_neg c12] at H
     have c12b0 : (a0_1 == a0_2) = false := beq_eq_false_iff_ne.mpr c12
     have c12b1 : (a0_1 != a0_2) = true := bne_iff_ne.mpr c12
     by_cases c22 : a0_1 = (wrap64 (a0_2 + 1))
     ·rw [if_pos c22] at H
      have c22b0 : (a0_1 == (wrap64 (a0_2 + 1))) = true := beq_iff_eq.mpr c22
      have c22b1 : (a0_1 != (wrap64 (a0_2 + 1))) = false := bne_eq_false_iff_eq.mpr c22
      clear c22
      by_cases c23 : a0_1 > 0
      ·rw [if_pos c23] at H
       have c23b0 : decide (0 < a0_1) = true := decide_eq_true c23
       clear c23
       by_cases c24 : a0_0 = 2
       ·rw [if_pos c24] at H
        have c24b0 : (a0_0 == 2) = true := beq_iff_eq.mpr c24
        have c24b1 : (a0_0 != 2) = false := bne_eq_false_iff_eq.mpr c24
        clear c24
        by_cases c25 : a0_3 = true
        ·subst c25
         have H1 : (some (decide (a0_1 > a0_2))) = some r := by rw [if_pos rfl] at H; exact H
         clear H
         have H := H1
         clear H1
         obtain rfl := Option.some.inj H
         have hcz26_0 : wc.cell? ⟨gb130, 0, none⟩ = some (.int .i64 a0_0) := (blk_cell BK130.out 0).trans rfl
         have hcz26_1 : wc.cell? ⟨gb130, 1, none⟩ = some (.int .i64 a0_1) := (blk_cell BK130.out 1).trans rfl
         have hcz26_2 : wc.cell? ⟨gb130, 2, none⟩ = some (.int .i64 a0_2) := (blk_cell BK130.out 2).trans rfl
         have hcz26_3 : wc.cell? ⟨gb130, 3, none⟩ = some (.bool true) := (blk_cell BK130.out 3).trans rfl
         have hfz26_0 := blk_frozen BK130.out 0
         have hfz26_1 := blk_frozen BK130.out 1
         have hfz26_2 := blk_frozen BK130.out 2
         have hfz26_3 := blk_frozen BK130.out 3
         go_wp2
         go_ret
         exact ⟨by first | rfl | (simp [errW_none, errW_some] <;> rfl) | (simp [*, errW_none, errW_some] <;> rfl), by repeat (first | (with_reducible first | exact HB.out | apply below_alloc | apply pw_below_drewN | apply below_drew1 | refine below_set ?_ GE130.out) | exact HB.out)⟩
        ·replace c25 := Bool.eq_false_iff.mpr c25
         subst c25
         have H1 : (some true) = some r := by rw [if_neg (show ¬ (false = true) by decide)] at H; exact H
         clear H
         have H := H1
         clear H1
         obtain rfl := Option.some.inj H
         have hcz27_0 : wc.cell? ⟨gb130, 0, none⟩ = some (.int .i64 a0_0) := (blk_cell BK130.out 0).trans rfl
         have hcz27_1 : wc.cell? ⟨gb130, 1, none⟩ = some (.int .i64 a0_1) := (blk_cell BK130.out 1).trans rfl
         have hcz27_2 : wc.cell? ⟨gb130, 2, none⟩ = some (.int .i64 a0_2) := (blk_cell BK130.out 2).trans rfl
         have hcz27_3 : wc.cell? ⟨gb130, 3, none⟩ = some (.bool false) := (blk_cell BK130.out 3).trans rfl
         have hfz27_0 := blk_frozen BK130.out 0
         have hfz27_1 := blk_frozen BK130.out 1
         have hfz27_2 := blk_frozen BK130.out 2
         have hfz27_3 := blk_frozen BK130.out 3
         go_wp2
         go_ret
         exact ⟨by first | rfl | (simp [errW_none, errW_some] <;> rfl) | (simp [*, errW_none, errW_some] <;> rfl), by repeat (first | (with_reducible first | exact HB.out | apply below_alloc | apply pw_below_drewN | apply below_drew1 | refine below_set ?_ GE130.out) | exact HB.out)⟩
       ·rw [if_neg c24] at H
        have c24b0 : (a0_0 == 2) = false := beq_eq_false_iff_ne.mpr c24
        have c24b1 : (a0_0 != 2) = true := bne_iff_ne.mpr c24
        obtain rfl := Option.some.inj H
        have hcz28_0 : wc.cell? ⟨gb130, 0, none⟩ = some (.int .i64 a0_0) := (blk_cell BK130.out 0).trans rfl
        have hcz28_1 : wc.cell? ⟨gb130, 1, none⟩ = some (.int .i64 a0_1) := (blk_cell BK130.out 1).trans rfl
        have hcz28_2 : wc.cell? ⟨gb130, 2, none⟩ = some (.int .i64 a0_2) := (blk_cell BK130.out 2).trans rfl
        have hcz28_3 : wc.cell? ⟨gb130, 3, none⟩ = some (.bool a0_3) := (blk_cell BK130.out 3).trans rfl
        have hfz28_0 := blk_frozen BK130.out 0
        have hfz28_1 := blk_frozen BK130.out 1
        have hfz28_2 := blk_frozen BK130.out 2
        have hfz28_3 := blk_frozen BK130.out 3
        go_wp2
        go_ret
        exact ⟨by first | rfl | (simp [errW_none, errW_some] <;> rfl) | (simp [*, errW_none, errW_some] <;> rfl), by repeat (first | (with_reducible first | exact HB.out | apply below_alloc | apply pw_below_drewN | apply below_drew1 | refine below_set ?_ GE130.out) | exact HB.out)⟩
      ·rw [if_neg c23] at H
       have c23b0 : decide (0 < a0_1) = false := decide_eq_false c23
       clear c23
       by_cases c29 : a0_3 = true
       ·subst c29
        have H1 : (some (decide (a0_1 > a0_2))) = some r := by rw [if_pos rfl] at H; exact H
        clear H
        have H := H1
        clear H1
        obtain rfl := Option.some.inj H
        have hcz30_0 : wc.cell? ⟨gb130, 0, none⟩ = some (.int .i64 a0_0) := (blk_cell BK130.out 0).trans rfl
        have hcz30_1 : wc.cell? ⟨gb130, 1, none⟩ = some (.int .i64 a0_1) := (blk_cell BK130.out 1).trans rfl
        have hcz30_2 : wc.cell? ⟨gb130, 2, none⟩ = some (.int .i64 a0_2) := (blk_cell BK130.out 2).trans rfl
        have hcz30_3 : wc.cell? ⟨gb130, 3, none⟩ = some (.bool true) := (blk_cell BK130.out 3).trans rfl
        have hfz30_0 := blk_frozen BK130.out 0
        have hfz30_1 := blk_frozen BK130.out 1
        have hfz30_2 := blk_frozen BK130.out 2
        have hfz30_3 := blk_frozen BK130.out 3
        go_wp2
        go_ret
        exact ⟨by first | rfl | (simp [errW_none, errW_some] <;> rfl) | (simp [*, errW_none, errW_some] <;> rfl), by repeat (first | (with_reducible first | exact HB.out | apply below_alloc | apply pw_below_drewN | apply below_drew1 | refine below_set ?_ GE130.out) | exact HB.out)⟩
       ·replace c29 := Bool.eq_false_iff.mpr c29
        subst c29
        have H1 : (some true) = some r := by rw [if_neg (show ¬ (false = true) by decide)] at H; exact H
        clear H
        have H := H1
        clear H1
        obtain rfl := Option.some.inj H
        have hcz31_0 : wc.cell? ⟨gb130, 0, none⟩ = some (.int .i64 a0_0) := (blk_cell BK130.out 0).trans rfl
        have hcz31_1 : wc.cell? ⟨gb130, 1, none⟩ = some (.int .i64 a0_1) := (blk_cell BK130.out 1).trans rfl
        have hcz31_2 : wc.cell? ⟨gb130, 2, none⟩ = some (.int .i64 a0_2) := (blk_cell BK130.out 2).trans rfl
        have hcz31_3 : wc.cell? ⟨gb130, 3, none⟩ = some (.bool false) := (blk_cell BK130.out 3).trans rfl
        have hfz31_0 := blk_frozen BK130.out 0
        have hfz31_1 := blk_frozen BK130.out 1
        have hfz31_2 := blk_frozen BK130.out 2
        have hfz31_3 := blk_frozen BK130.out 3
        go_wp2
        go_ret
        exact ⟨by first | rfl | (simp [errW_none, errW_some] <;> rfl) | (simp [*, errW_none, errW_some] <;> rfl), by repeat (first | (with_reducible first | exact HB.out | apply below_alloc | apply pw_below_drewN | apply below_drew1 | refine below_set ?_ GE130.out) | exact HB.out)⟩
     ·rw [if_neg c22] at H
      have c22b0 : (a0_1 == (wrap64 (a0_2 + 1))) = false := beq_eq_false_iff_ne.mpr c22
      have c22b1 : (a0_1 != (wrap64 (a0_2 + 1))) = true := bne_iff_ne.mpr c22
      obtain rfl := Option.some.inj H
      have hcz32_0 : wc.cell? ⟨gb130, 0, none⟩ = some (.int .i64 a0_0) := (blk_cell BK130.out 0).trans rfl
      have hcz32_1 : wc.cell? ⟨gb130, 1, none⟩ = some (.int .i64 a0_1) := (blk_cell BK130.out 1).trans rfl
      have hcz32_2 : wc.cell? ⟨gb130, 2, none⟩ = some (.int .i64 a0_2) := (blk_cell BK130.out 2).trans rfl
      have hcz32_3 : wc.cell? ⟨gb130, 3, none⟩ = some (.bool a0_3) := (blk_cell BK130.out 3).trans rfl
      have hfz32_0 := blk_frozen BK130.out 0
      have hfz32_1 := blk_frozen BK130.out 1
      have hfz32_2 := blk_frozen BK130.out 2
      have hfz32_3 := blk_frozen BK130.out 3
      go_wp2
      go_ret
      exact ⟨by first | rfl | (simp [errW_none, errW_some] <;> rfl) | (simp [*, errW_none, errW_some] <;> rfl), by repeat (first | (with_reducible first | exact HB.out | apply below_alloc | apply pw_below_drewN | apply below_drew1 | refine below_set ?_ GE130.out) | exact HB.out)⟩
mutual
def fact_Check.j0 : Nat → List (S59) → Bool → List (S37) → Option (Int)
 | 0, _, _, _ => none
 | k + 1, x1, x17, x132000 => if x17 = true then (some 2) else (fact_Check.l0 k x1 (x1.length : Int) 0 x132000)
def fact_Check.l0 : Nat → List (S59) → Int → Int → List (S37) → Option (Int)
 | 0, _, _, _, _ => none
 | k + 1, x18, x19, x20, x132000 => if x20 < x19 then (if 0 ≤ x20 then (if x20 < (x18.length : Int) then ((fact_fine.f k ((rd_T59 x18 x20).f0) ((rd_T59 x18 x20).f1) ((rd_T59 x18 x20).f2) ((rd_T59 x18 x20).f3)).bind fun t135 => (if t135 = true then (if x20 < (x132000.length : Int) then (if (rd_T37 x132000 x20).f2 = true then (if (!(((rd_T59 x18 x20).f0) == 0) || (!(((rd_T59 x18 x20).f1) == 0) || (!(((rd_T59 x18 x20).f2) == 0) || (((rd_T59 x18 x20).f3))))) = true then (some 2) else (fact_Check.l0 k x18 x19 (wrap64 (x20 + 1)) x132000)) else (fact_Check.l0 k x18 x19 (wrap64 (x20 + 1)) x132000)) else (none)) else (some 2))) else (none)) else (none)) else (some 0)
end
def fact_Check.f (k : Nat) (l0_0 : List (S37)) (l1 : List (S59)) : Option (Int) := if (l1.length : Int) = (l0_0.length : Int) then ((plan_Right.f l0_0).bind fun t132 => (fact_Check.j0 k l1 (!t132) l0_0)) else (fact_Check.j0 k l1 true l0_0)
set_option maxHeartbeats 8000000 in
set_option maxRecDepth 100000 in
theorem fact_Check.calls (k : Nat) (A0_0 : Option Addr) (c0_0 : Nat) (l0_0 : List (S37)) (A1 : Option Addr) (c1 : Nat) (l1 : List (S59)) (r : Int) (w : World) (hr0_0 : Kd.C k37 w A0_0 l0_0.length l0_0) (hc0_0 : l0_0.length ≤ c0_0) (hr1 : Kd.C k59 w A1 l1.length l1) (hc1 : l1.length ≤ c1) (h : fact_Check.f k l0_0 l1 = some r) :
  Calls Try.prog 28 #[.agg #[.slice A0_0 l0_0.length c0_0], .slice A1 l1.length c1] w fun e w' => e = .returned (.int .i64 r) ∧ Below w.heap.size w w' := by
 have hu24 := Try.underlying24
 have hu59 := Try.underlying59
 have HR0_0 := Aside0.mk hr0_0
 have HC0_0 := Aside0.mk hc0_0
 clear hr0_0 hc0_0
 have HR1 := Aside0.mk hr1
 have HC1 := Aside0.mk hc1
 clear hr1 hc1
 have HB := Aside0.mk (Below.refl w.heap.size w)
 have H : (if (l1.length : Int) = (l0_0.length : Int) then ((plan_Right.f l0_0).bind fun t132 => (fact_Check.j0 k l1 (!t132) l0_0)) else (fact_Check.j0 k l1 true l0_0)) = some r := h
 clear h
 have HC3 := Aside0.mk H
 clear H
 go_enter Try.func28, Try.ntmps28
 go_upto_region 1 with (first | ((with_reducible refine gate_dst (N := 2) rfl ?_); refine box_event ?hg (N := 2) ?hd (cs := #[.slice A0_0 l0_0.length c0_0]) (t := 24) ?hr ?_; (case hd => rfl); (case hg => rfl); (case hr => first | (go_simp; done) | (go_simp; rfl)); intro gb131 hg w4 hbox hb; have n0_ := Aside0.mk (below_step (by repeat (first | (with_reducible first | exact HB.out | apply below_alloc | apply pw_below_drewN | apply below_drew1) | exact HB.out)) hb); have n1_ := Aside0.mk (hbox); have n2_ := Aside0.mk ((by rw [hg]; exact (below_size (by repeat (first | (with_reducible first | exact HB.out | apply below_alloc | apply pw_below_drewN | apply below_drew1) | exact HB.out))) : w.heap.size ≤ gb131)); have n3_ := Aside0.mk ((by rw [hg]; exact (below_size (by repeat (first | (with_reducible first | exact HB.out | apply below_alloc | apply pw_below_drewN | apply below_drew1) | exact HB.out))) : w.heap.size ≤ gb131)); clear HB; have HB := n0_; have BK131 := n1_; have GW131 := n2_; have GE131 := n3_; clear n0_ n1_ n2_ n3_; clear hb hbox hg))
 (try simp only [Act.put, List.setIfInBounds_toArray, List.set_cons_zero, List.set_cons_succ])
 go_cut [17] (fun v17 wc => ∃ (kq : Nat) (x17_2 : Bool), v17 = .bool x17_2 ∧ Aside0 (fact_Check.j0 kq l1 x17_2 l0_0 = some r) ∧ Aside0 (kq ≤ k) ∧ Aside0 (wc.heap[gb131]? = some (.cells #[(.slice A0_0 l0_0.length c0_0)] 24 (0, 0))) ∧ Aside0 (Below w.heap.size w wc))
 case first =>
  have H := HC3.out
  clear HC3
  by_cases c5 : (l1.length : Int) = (l0_0.length : Int)
  ·rw [if_pos c5] at H
   have c5b0 : ((l1.length : Int) == (l0_0.length : Int)) = true := beq_iff_eq.mpr c5
   have c5b1 : ((l1.length : Int) != (l0_0.length : Int)) = false := bne_eq_false_iff_eq.mpr c5
   have c5b2 : (l1.length == l0_0.length) = true := by first | simpa using c5 | (simp at c5 ⊢; omega)
   clear c5
   (first | rw [c5b0] | (simp only [i64_w, i32_w]; rw [c5b0]) | skip)
   replace H := Option.bind_eq_some_iff.mp H
   obtain ⟨t132, A60, H⟩ := H
   replace H : (fact_Check.j0 k l1 (!t132) l0_0) = some r := H
   have A6 := Aside0.mk A60
   clear A60
   have H' := Aside0.mk H
   clear H
   have hcz7_0 : w4.cell? ⟨gb131, 0, none⟩ = some (.slice A0_0 l0_0.length c0_0) := (blk_cell BK131.out 0).trans rfl
   have hfz7_0 := blk_frozen BK131.out 0
   go_wp2_with (first | (go_at_call 30; (with_reducible refine (plan_Right.calls _ _ l0_0 t132 _ ?side1 ?side2 A6.out).mono ?_); (case side1 => repeat (first | exact (Kd.C_below HR0_0.out HB.out) | (with_reducible refine Kd.C_alloc ?_ _) | (with_reducible refine Kd.C_drewN ?_ _) | (with_reducible refine Kd.C_drew ?_))); (case side2 => exact HC0_0.out); rintro e w8 ⟨rfl, hb⟩; have n0_ := Aside0.mk (blk_below (g := gb131) (o := .cells #[.slice A0_0 l0_0.length c0_0] 24 (0, 0)) (by (with_reducible repeat (first | refine blk_drewN ?_ _ | refine blk_drew ?_ | refine blk_alloc ?_ _)); exact BK131.out) hb); have n1_ := Aside0.mk (below_step (by repeat (first | (with_reducible first | exact HB.out | apply below_alloc | apply pw_below_drewN | apply below_drew1 | refine below_set ?_ GE131.out) | exact HB.out)) hb); clear BK131; clear HB; have BK131 := n0_; have HB := n1_; clear n0_ n1_; (try clear hb); (try clear hb2); (try clear hk); (try clear hi)))
   go_meet
   case rel => exact ⟨_, (!t132), (by first | rfl | (simp; done) | (simp [*]; done)), H', ⟨by first | omega | exact Nat.le_refl _⟩, ⟨by (with_reducible repeat (first | refine blk_drewN ?_ _ | refine blk_drew ?_ | refine blk_alloc ?_ _)); exact BK131.out⟩, ⟨by repeat (first | (with_reducible first | exact HB.out | apply below_alloc | apply pw_below_drewN | apply below_drew1 | refine below_set ?_ GE131.out) | exact HB.out)⟩⟩
  ·rw [if_neg c5] at H
   have c5b0 : ((l1.length : Int) == (l0_0.length : Int)) = false := beq_eq_false_iff_ne.mpr c5
   have c5b1 : ((l1.length : Int) != (l0_0.length : Int)) = true := bne_iff_ne.mpr c5
   have c5b2 : (l1.length == l0_0.length) = false := by first | simpa using c5 | (simp at c5 ⊢; omega)
   (first | rw [c5b0] | (simp only [i64_w, i32_w]; rw [c5b0]) | skip)
   have H' := Aside0.mk H
   clear H
   have hcz9_0 : w4.cell? ⟨gb131, 0, none⟩ = some (.slice A0_0 l0_0.length c0_0) := (blk_cell BK131.out 0).trans rfl
   have hfz9_0 := blk_frozen BK131.out 0
   go_wp2
   go_meet
   case rel => exact ⟨_, (true), (by first | rfl | (simp; done) | (simp [*]; done)), H', ⟨by first | omega | exact Nat.le_refl _⟩, ⟨by (with_reducible repeat (first | refine blk_drewN ?_ _ | refine blk_drew ?_ | refine blk_alloc ?_ _)); exact BK131.out⟩, ⟨by repeat (first | (with_reducible first | exact HB.out | apply below_alloc | apply pw_below_drewN | apply below_drew1 | refine below_set ?_ GE131.out) | exact HB.out)⟩⟩
 case rest =>
  clear HC3
  try clear c1
  try clear c2
  try clear p2
  try clear c5
  try clear c5b0
  try clear c5b1
  try clear c5b2
  try clear hcz7_0
  try clear hcz9_0
  try clear hfz7_0
  try clear hfz9_0
  obtain ⟨kq, x17_2, rfl, HA, HJ2, BK131, HB⟩ := hcut
  cases kq with
  | zero => exact absurd HA.out (by simp [fact_Check.j0])
  | succ kj2 =>
   have H := HA.out
   clear HA
   simp only [fact_Check.j0] at H
   by_cases c10 : x17_2 = true
   ·subst c10
    have H1 : (some 2) = some r := by rw [if_pos rfl] at H; exact H
    clear H
    have H := H1
    clear H1
    obtain rfl := Option.some.inj H
    go_wp2
    go_ret
    exact ⟨by first | rfl | (simp [errW_none, errW_some] <;> rfl) | (simp [*, errW_none, errW_some] <;> rfl), by repeat (first | (with_reducible first | exact HB.out | apply below_alloc | apply pw_below_drewN | apply below_drew1 | refine below_set ?_ GE131.out) | exact HB.out)⟩
   ·replace c10 := Bool.eq_false_iff.mpr c10
    subst c10
    have H1 : (fact_Check.l0 kj2 l1 (l1.length : Int) 0 l0_0) = some r := by rw [if_neg (show ¬ (false = true) by decide)] at H; exact H
    clear H
    have H := H1
    clear H1
    have H' := Aside0.mk H
    clear H
    go_wp2
    go_loopg [20] kj2 (fun kq v20 w' => ∃ (x20_2 : Int), v20 = .int .i64 x20_2 ∧ Aside0 (fact_Check.l0 kq l1 (l1.length : Int) x20_2 l0_0 = some r) ∧ Aside0 (kq ≤ kj2) ∧ Aside0 (w'.heap[gb131]? = some (.cells #[(.slice A0_0 l0_0.length c0_0)] 24 (0, 0))) ∧ Aside0 (Below w.heap.size w w'))
    case atStart => exact ⟨(0), (by first | rfl | (simp; done) | (simp [*]; done)), H', ⟨Nat.le_refl _⟩, ⟨by (with_reducible repeat (first | refine blk_drewN ?_ _ | refine blk_drew ?_ | refine blk_alloc ?_ _)); exact BK131.out⟩, ⟨by repeat (first | (with_reducible first | exact HB.out | apply below_alloc | apply pw_below_drewN | apply below_drew1 | refine below_set ?_ GE131.out) | exact HB.out)⟩⟩
    case round =>
     clear H'
     try clear c1
     try clear c2
     try clear p2
     try clear c5
     try clear c5b0
     try clear c5b1
     try clear c5b2
     try clear c10
     try clear hcz7_0
     try clear hcz9_0
     try clear hfz7_0
     try clear hfz9_0
     try clear p2
     obtain ⟨x20_2, rfl, HA, HK2, BK131, HB⟩ := hrel
     cases gk with
     | zero => exact absurd HA.out (by simp [fact_Check.l0])
     | succ k2 =>
      have H := HA.out
      clear HA
      simp only [fact_Check.l0] at H
      by_cases c11 : x20_2 < (l1.length : Int)
      ·rw [if_pos c11] at H
       have c11b0 : decide (x20_2 < (l1.length : Int)) = true := decide_eq_true c11
       clear c11
       by_cases c12 : 0 ≤ x20_2
       ·rw [if_pos c12] at H
        have c12b0 : decide (0 ≤ x20_2) = true := decide_eq_true c12
        clear c12
        by_cases c13 : x20_2 < (l1.length : Int)
        ·rw [if_pos c13] at H
         have c13b0 : decide (x20_2 < (l1.length : Int)) = true := decide_eq_true c13
         clear c13
         replace H := Option.bind_eq_some_iff.mp H
         obtain ⟨t135, A140, H⟩ := H
         replace H : (if t135 = true then (if x20_2 < (l0_0.length : Int) then (if (rd_T37 l0_0 x20_2).f2 = true then (if (!(((rd_T59 l1 x20_2).f0) == 0) || (!(((rd_T59 l1 x20_2).f1) == 0) || (!(((rd_T59 l1 x20_2).f2) == 0) || (((rd_T59 l1 x20_2).f3))))) = true then (some 2) else (fact_Check.l0 k2 l1 (l1.length : Int) (wrap64 (x20_2 + 1)) l0_0)) else (fact_Check.l0 k2 l1 (l1.length : Int) (wrap64 (x20_2 + 1)) l0_0)) else (none)) else (some 2)) = some r := H
         have A14 := Aside0.mk A140
         clear A140
         by_cases c15 : t135 = true
         ·subst c15
          have H1 : (if x20_2 < (l0_0.length : Int) then (if (rd_T37 l0_0 x20_2).f2 = true then (if (!(((rd_T59 l1 x20_2).f0) == 0) || (!(((rd_T59 l1 x20_2).f1) == 0) || (!(((rd_T59 l1 x20_2).f2) == 0) || (((rd_T59 l1 x20_2).f3))))) = true then (some 2) else (fact_Check.l0 k2 l1 (l1.length : Int) (wrap64 (x20_2 + 1)) l0_0)) else (fact_Check.l0 k2 l1 (l1.length : Int) (wrap64 (x20_2 + 1)) l0_0)) else (none)) = some r := by rw [if_pos rfl] at H; exact H
          clear H
          have H := H1
          clear H1
          by_cases c16 : x20_2 < (l0_0.length : Int)
          ·rw [if_pos c16] at H
           have c16b0 : decide (x20_2 < (l0_0.length : Int)) = true := decide_eq_true c16
           clear c16
           obtain ⟨bq17, hbq17⟩ : ∃ b_ : Bool, b_ = ((rd_T37 l0_0 x20_2).f2) := ⟨_, rfl⟩
           replace H : (if bq17 = true then (if (!(((rd_T59 l1 x20_2).f0) == 0) || (!(((rd_T59 l1 x20_2).f1) == 0) || (!(((rd_T59 l1 x20_2).f2) == 0) || (((rd_T59 l1 x20_2).f3))))) = true then (some 2) else (fact_Check.l0 k2 l1 (l1.length : Int) (wrap64 (x20_2 + 1)) l0_0)) else (fact_Check.l0 k2 l1 (l1.length : Int) (wrap64 (x20_2 + 1)) l0_0)) = some r := by rw [← hbq17] at H; exact H
           have Nbq17 := Aside0.mk hbq17
           clear hbq17
           by_cases c18 : bq17 = true
           ·subst c18
            have H1 : (if (!(((rd_T59 l1 x20_2).f0) == 0) || (!(((rd_T59 l1 x20_2).f1) == 0) || (!(((rd_T59 l1 x20_2).f2) == 0) || (((rd_T59 l1 x20_2).f3))))) = true then (some 2) else (fact_Check.l0 k2 l1 (l1.length : Int) (wrap64 (x20_2 + 1)) l0_0)) = some r := by rw [if_pos rfl] at H; exact H
            clear H
            have H := H1
            clear H1
            by_cases c19 : (!(((rd_T59 l1 x20_2).f0) == 0) || (!(((rd_T59 l1 x20_2).f1) == 0) || (!(((rd_T59 l1 x20_2).f2) == 0) || (((rd_T59 l1 x20_2).f3))))) = true
            ·rw [if_pos c19] at H
             have c19b0 : (!(((rd_T59 l1 x20_2).f0) == 0) || (!(((rd_T59 l1 x20_2).f1) == 0) || (!(((rd_T59 l1 x20_2).f2) == 0) || (((rd_T59 l1 x20_2).f3))))) = true := c19
             clear c19
             obtain rfl := Option.some.inj H
             have p133 : 0 ≤ (x20_2 : Int) := of_decide_eq_true (by first | (with_reducible assumption) | assumption)
             have q133 : x20_2 < (l1.length : Int) := of_decide_eq_true (by first | (with_reducible assumption) | assumption)
             obtain ⟨ad133, e133, hx133_0, hx133_1, hx133_2, hx133_3⟩ := at_T59 HR1.out x20_2 p133 q133
             (try rw [← Nbq17.out] at hx133_3)
             cases e133
             replace hx133_0 := (HB.out.cell (World.block_lt_of_cell? w _ hx133_0)).trans hx133_0
             replace hx133_1 := (HB.out.cell (World.block_lt_of_cell? w _ hx133_1)).trans hx133_1
             replace hx133_2 := (HB.out.cell (World.block_lt_of_cell? w _ hx133_2)).trans hx133_2
             replace hx133_3 := (HB.out.cell (World.block_lt_of_cell? w _ hx133_3)).trans hx133_3
             replace p133 := eq_true p133
             replace q133 := eq_true q133
             go_wp2_with (first | ((with_reducible refine gate_dst (N := 6) rfl ?_); refine box_event ?hg (N := 6) ?hd (cs := #[.int .i64 0, .int .i64 0, .int .i64 0, .bool false]) (t := 59) ?hr ?_; (case hd => rfl); (case hg => rfl); (case hr => first | (go_simp; done) | (go_simp; rfl)); intro gb134 hg w20 hbox hb; have n0_ := Aside0.mk (blk_below (g := gb131) (o := .cells #[.slice A0_0 l0_0.length c0_0] 24 (0, 0)) (by (with_reducible repeat (first | refine blk_drewN ?_ _ | refine blk_drew ?_ | refine blk_alloc ?_ _)); exact BK131.out) hb); have n1_ := Aside0.mk (below_step (by repeat (first | (with_reducible first | exact HB.out | apply below_alloc | apply pw_below_drewN | apply below_drew1 | refine below_set ?_ GE131.out) | exact HB.out)) hb); have n2_ := Aside0.mk (hbox); have n3_ := Aside0.mk ((by rw [hg]; exact (below_size (by repeat (first | (with_reducible first | exact HB.out | apply below_alloc | apply pw_below_drewN | apply below_drew1 | refine below_set ?_ GE131.out) | exact HB.out))) : w.heap.size ≤ gb134)); have n4_ := Aside0.mk ((by rw [hg]; exact (below_size (by repeat (first | (with_reducible first | exact HB.out | apply below_alloc | apply pw_below_drewN | apply below_drew1 | refine below_set ?_ GE131.out) | exact HB.out))) : w.heap.size ≤ gb134)); have n5_ := Aside0.mk ((by rw [hg]; exact Nat.ne_of_lt (blk_lt (g := gb131) (o := .cells #[.slice A0_0 l0_0.length c0_0] 24 (0, 0)) (by (with_reducible repeat (first | refine blk_drewN ?_ _ | refine blk_drew ?_ | refine blk_alloc ?_ _)); exact BK131.out)) : gb131 ≠ gb134)); have n6_ := Aside0.mk ((by rw [hg]; exact Nat.ne_of_gt (blk_lt (g := gb131) (o := .cells #[.slice A0_0 l0_0.length c0_0] 24 (0, 0)) (by (with_reducible repeat (first | refine blk_drewN ?_ _ | refine blk_drew ?_ | refine blk_alloc ?_ _)); exact BK131.out)) : gb134 ≠ gb131)); clear BK131; clear HB; have BK131 := n0_; have HB := n1_; have BK134 := n2_; have GW134 := n3_; have GE134 := n4_; have NB131_134 := n5_; have NB134_131 := n6_; clear n0_ n1_ n2_ n3_ n4_ n5_ n6_; clear hb hbox hg; have hnb21 := NB134_131.out; have hnc21 := NB131_134.out; have hcz22_0 : w20.cell? ⟨gb134, 0, none⟩ = some (.int .i64 0) := (blk_cell BK134.out 0).trans rfl; have hcz22_1 : w20.cell? ⟨gb134, 1, none⟩ = some (.int .i64 0) := (blk_cell BK134.out 1).trans rfl; have hcz22_2 : w20.cell? ⟨gb134, 2, none⟩ = some (.int .i64 0) := (blk_cell BK134.out 2).trans rfl; have hcz22_3 : w20.cell? ⟨gb134, 3, none⟩ = some (.bool false) := (blk_cell BK134.out 3).trans rfl; have hfz22_0 := blk_frozen BK134.out 0; have hfz22_1 := blk_frozen BK134.out 1; have hfz22_2 := blk_frozen BK134.out 2; have hfz22_3 := blk_frozen BK134.out 3) | ((with_reducible refine gate_callee (f := 35) rfl ?_); refine goesL_ (some 26) rfl rfl Try.func35 (by kernel_rfl) rfl #[.agg #[.int .i64 ((rd_T59 l1 x20_2).f0), .int .i64 ((rd_T59 l1 x20_2).f1), .int .i64 ((rd_T59 l1 x20_2).f2), .bool ((rd_T59 l1 x20_2).f3)]] rfl (by (try simp only [List.map_toArray, List.map_cons, List.map_nil]); first | done | rfl | (simp only [List.length_drop, List.length_take]; rfl)) ?_; (with_reducible refine (fact_fine.calls k2 ((rd_T59 l1 x20_2).f0) ((rd_T59 l1 x20_2).f1) ((rd_T59 l1 x20_2).f2) ((rd_T59 l1 x20_2).f3) true _ A14.out).mono ?_); rintro e w23 ⟨rfl, hb⟩; refine ⟨_, rfl, ?_⟩; have n0_ := Aside0.mk (blk_below (g := gb131) (o := .cells #[.slice A0_0 l0_0.length c0_0] 24 (0, 0)) (by (with_reducible repeat (first | refine blk_drewN ?_ _ | refine blk_drew ?_ | refine blk_alloc ?_ _)); refine blk_far ?_ NB131_134.out _; (with_reducible repeat (first | refine blk_drewN ?_ _ | refine blk_drew ?_ | refine blk_alloc ?_ _)); refine blk_far ?_ NB131_134.out _; (with_reducible repeat (first | refine blk_drewN ?_ _ | refine blk_drew ?_ | refine blk_alloc ?_ _)); refine blk_far ?_ NB131_134.out _; (with_reducible repeat (first | refine blk_drewN ?_ _ | refine blk_drew ?_ | refine blk_alloc ?_ _)); refine blk_far ?_ NB131_134.out _; (with_reducible repeat (first | refine blk_drewN ?_ _ | refine blk_drew ?_ | refine blk_alloc ?_ _)); exact BK131.out) hb); have n1_ := Aside0.mk (blk_below (g := gb134) (o := .cells #[.int .i64 ((rd_T59 l1 x20_2).f0), .int .i64 ((rd_T59 l1 x20_2).f1), .int .i64 ((rd_T59 l1 x20_2).f2), .bool ((rd_T59 l1 x20_2).f3)] 59 (0, 0)) (by (with_reducible repeat (first | refine blk_drewN ?_ _ | refine blk_drew ?_ | refine blk_alloc ?_ _)); refine blk_put (cs := #[.int .i64 ((rd_T59 l1 x20_2).f0), .int .i64 ((rd_T59 l1 x20_2).f1), .int .i64 ((rd_T59 l1 x20_2).f2), .bool false]) ?_ 3 _ rfl; (with_reducible repeat (first | refine blk_drewN ?_ _ | refine blk_drew ?_ | refine blk_alloc ?_ _)); refine blk_put (cs := #[.int .i64 ((rd_T59 l1 x20_2).f0), .int .i64 ((rd_T59 l1 x20_2).f1), .int .i64 0, .bool false]) ?_ 2 _ rfl; (with_reducible repeat (first | refine blk_drewN ?_ _ | refine blk_drew ?_ | refine blk_alloc ?_ _)); refine blk_put (cs := #[.int .i64 ((rd_T59 l1 x20_2).f0), .int .i64 0, .int .i64 0, .bool false]) ?_ 1 _ rfl; (with_reducible repeat (first | refine blk_drewN ?_ _ | refine blk_drew ?_ | refine blk_alloc ?_ _)); refine blk_put (cs := #[.int .i64 0, .int .i64 0, .int .i64 0, .bool false]) ?_ 0 _ rfl; (with_reducible repeat (first | refine blk_drewN ?_ _ | refine blk_drew ?_ | refine blk_alloc ?_ _)); exact BK134.out) hb); have n2_ := Aside0.mk (below_step (by repeat (first | (with_reducible first | exact HB.out | apply below_alloc | apply pw_below_drewN | apply below_drew1 | refine below_set ?_ GE131.out | refine below_set ?_ GE134.out) | exact HB.out)) hb); clear BK131; clear BK134; clear HB; have BK131 := n0_; have BK134 := n1_; have HB := n2_; clear n0_ n1_ n2_; (try clear hb); (try clear hb2); (try clear hk); (try clear hi); have hcz24_0 : w23.cell? ⟨gb131, 0, none⟩ = some (.slice A0_0 l0_0.length c0_0) := (blk_cell BK131.out 0).trans rfl; have hfz24_0 := blk_frozen BK131.out 0; have p136 : 0 ≤ (x20_2 : Int) := of_decide_eq_true (by first | (with_reducible assumption) | assumption); have q136 : x20_2 < (l0_0.length : Int) := of_decide_eq_true (by first | (with_reducible assumption) | assumption); obtain ⟨ad136, A136_7, c136_7, e136, hx136_0, hx136_1, hx136_2, hx136_3, hx136_4, hx136_5, hx136_6, hx136_7, hl136_7, hi136_7⟩ := at_T37 HR0_0.out x20_2 p136 q136; (try rw [← Nbq17.out] at hx136_2); (try rw [← Nbq17.out] at hx136_3); cases e136; replace hx136_0 := (HB.out.cell (World.block_lt_of_cell? w _ hx136_0)).trans hx136_0; replace hx136_1 := (HB.out.cell (World.block_lt_of_cell? w _ hx136_1)).trans hx136_1; replace hx136_2 := (HB.out.cell (World.block_lt_of_cell? w _ hx136_2)).trans hx136_2; replace hx136_3 := (HB.out.cell (World.block_lt_of_cell? w _ hx136_3)).trans hx136_3; replace hx136_4 := (HB.out.cell (World.block_lt_of_cell? w _ hx136_4)).trans hx136_4; replace hx136_5 := (HB.out.cell (World.block_lt_of_cell? w _ hx136_5)).trans hx136_5; replace hx136_6 := (HB.out.cell (World.block_lt_of_cell? w _ hx136_6)).trans hx136_6; replace hx136_7 := (HB.out.cell (World.block_lt_of_cell? w _ hx136_7)).trans hx136_7; have HR136_7 := Aside0.mk hi136_7; have HC136_7 := Aside0.mk hl136_7; clear hi136_7 hl136_7; replace p136 := eq_true p136; replace q136 := eq_true q136; have hcz25_0 : w23.cell? ⟨gb134, 0, none⟩ = some (.int .i64 ((rd_T59 l1 x20_2).f0)) := (blk_cell BK134.out 0).trans rfl; have hcz25_1 : w23.cell? ⟨gb134, 1, none⟩ = some (.int .i64 ((rd_T59 l1 x20_2).f1)) := (blk_cell BK134.out 1).trans rfl; have hcz25_2 : w23.cell? ⟨gb134, 2, none⟩ = some (.int .i64 ((rd_T59 l1 x20_2).f2)) := (blk_cell BK134.out 2).trans rfl; have hcz25_3 : w23.cell? ⟨gb134, 3, none⟩ = some (.bool ((rd_T59 l1 x20_2).f3)) := (blk_cell BK134.out 3).trans rfl; have hfz25_0 := blk_frozen BK134.out 0; have hfz25_1 := blk_frozen BK134.out 1; have hfz25_2 := blk_frozen BK134.out 2; have hfz25_3 := blk_frozen BK134.out 3))
             go_ret
             exact ⟨by first | rfl | (simp [errW_none, errW_some] <;> rfl) | (simp [*, errW_none, errW_some] <;> rfl), by repeat (first | (with_reducible first | exact HB.out | apply below_alloc | apply pw_below_drewN | apply below_drew1 | refine below_set ?_ GE131.out | refine below_set ?_ GE134.out) | exact HB.out)⟩
            ·rw [if_neg c19] at H
             have c19b0 : (!(((rd_T59 l1 x20_2).f0) == 0) || (!(((rd_T59 l1 x20_2).f1) == 0) || (!(((rd_T59 l1 x20_2).f2) == 0) || (((rd_T59 l1 x20_2).f3))))) = false := by simpa using c19
             clear c19
             have H' := Aside0.mk H
             clear H
             have p133 : 0 ≤ (x20_2 : Int) := of_decide_eq_true (by first | (with_reducible assumption) | assumption)
             have q133 : x20_2 < (l1.length : Int) := of_decide_eq_true (by first | (with_reducible assumption) | assumption)
             obtain ⟨ad133, e133, hx133_0, hx133_1, hx133_2, hx133_3⟩ := at_T59 HR1.out x20_2 p133 q133
             (try rw [← Nbq17.out] at hx133_3)
             cases e133
             replace hx133_0 := (HB.out.cell (World.block_lt_of_cell? w _ hx133_0)).trans hx133_0
             replace hx133_1 := (HB.out.cell (World.block_lt_of_cell? w _ hx133_1)).trans hx133_1
             replace hx133_2 := (HB.out.cell (World.block_lt_of_cell? w _ hx133_2)).trans hx133_2
             replace hx133_3 := (HB.out.cell (World.block_lt_of_cell? w _ hx133_3)).trans hx133_3
             replace p133 := eq_true p133
             replace q133 := eq_true q133
             go_wp2_with (first | ((with_reducible refine gate_dst (N := 6) rfl ?_); refine box_event ?hg (N := 6) ?hd (cs := #[.int .i64 0, .int .i64 0, .int .i64 0, .bool false]) (t := 59) ?hr ?_; (case hd => rfl); (case hg => rfl); (case hr => first | (go_simp; done) | (go_simp; rfl)); intro gb134 hg w26 hbox hb; have n0_ := Aside0.mk (blk_below (g := gb131) (o := .cells #[.slice A0_0 l0_0.length c0_0] 24 (0, 0)) (by (with_reducible repeat (first | refine blk_drewN ?_ _ | refine blk_drew ?_ | refine blk_alloc ?_ _)); exact BK131.out) hb); have n1_ := Aside0.mk (below_step (by repeat (first | (with_reducible first | exact HB.out | apply below_alloc | apply pw_below_drewN | apply below_drew1 | refine below_set ?_ GE131.out) | exact HB.out)) hb); have n2_ := Aside0.mk (hbox); have n3_ := Aside0.mk ((by rw [hg]; exact (below_size (by repeat (first | (with_reducible first | exact HB.out | apply below_alloc | apply pw_below_drewN | apply below_drew1 | refine below_set ?_ GE131.out) | exact HB.out))) : w.heap.size ≤ gb134)); have n4_ := Aside0.mk ((by rw [hg]; exact (below_size (by repeat (first | (with_reducible first | exact HB.out | apply below_alloc | apply pw_below_drewN | apply below_drew1 | refine below_set ?_ GE131.out) | exact HB.out))) : w.heap.size ≤ gb134)); have n5_ := Aside0.mk ((by rw [hg]; exact Nat.ne_of_lt (blk_lt (g := gb131) (o := .cells #[.slice A0_0 l0_0.length c0_0] 24 (0, 0)) (by (with_reducible repeat (first | refine blk_drewN ?_ _ | refine blk_drew ?_ | refine blk_alloc ?_ _)); exact BK131.out)) : gb131 ≠ gb134)); have n6_ := Aside0.mk ((by rw [hg]; exact Nat.ne_of_gt (blk_lt (g := gb131) (o := .cells #[.slice A0_0 l0_0.length c0_0] 24 (0, 0)) (by (with_reducible repeat (first | refine blk_drewN ?_ _ | refine blk_drew ?_ | refine blk_alloc ?_ _)); exact BK131.out)) : gb134 ≠ gb131)); clear BK131; clear HB; have BK131 := n0_; have HB := n1_; have BK134 := n2_; have GW134 := n3_; have GE134 := n4_; have NB131_134 := n5_; have NB134_131 := n6_; clear n0_ n1_ n2_ n3_ n4_ n5_ n6_; clear hb hbox hg; have hnb27 := NB134_131.out; have hnc27 := NB131_134.out; have hcz28_0 : w26.cell? ⟨gb134, 0, none⟩ = some (.int .i64 0) := (blk_cell BK134.out 0).trans rfl; have hcz28_1 : w26.cell? ⟨gb134, 1, none⟩ = some (.int .i64 0) := (blk_cell BK134.out 1).trans rfl; have hcz28_2 : w26.cell? ⟨gb134, 2, none⟩ = some (.int .i64 0) := (blk_cell BK134.out 2).trans rfl; have hcz28_3 : w26.cell? ⟨gb134, 3, none⟩ = some (.bool false) := (blk_cell BK134.out 3).trans rfl; have hfz28_0 := blk_frozen BK134.out 0; have hfz28_1 := blk_frozen BK134.out 1; have hfz28_2 := blk_frozen BK134.out 2; have hfz28_3 := blk_frozen BK134.out 3) | ((with_reducible refine gate_callee (f := 35) rfl ?_); refine goesL_ (some 26) rfl rfl Try.func35 (by kernel_rfl) rfl #[.agg #[.int .i64 ((rd_T59 l1 x20_2).f0), .int .i64 ((rd_T59 l1 x20_2).f1), .int .i64 ((rd_T59 l1 x20_2).f2), .bool ((rd_T59 l1 x20_2).f3)]] rfl (by (try simp only [List.map_toArray, List.map_cons, List.map_nil]); first | done | rfl | (simp only [List.length_drop, List.length_take]; rfl)) ?_; (with_reducible refine (fact_fine.calls k2 ((rd_T59 l1 x20_2).f0) ((rd_T59 l1 x20_2).f1) ((rd_T59 l1 x20_2).f2) ((rd_T59 l1 x20_2).f3) true _ A14.out).mono ?_); rintro e w29 ⟨rfl, hb⟩; refine ⟨_, rfl, ?_⟩; have n0_ := Aside0.mk (blk_below (g := gb131) (o := .cells #[.slice A0_0 l0_0.length c0_0] 24 (0, 0)) (by (with_reducible repeat (first | refine blk_drewN ?_ _ | refine blk_drew ?_ | refine blk_alloc ?_ _)); refine blk_far ?_ NB131_134.out _; (with_reducible repeat (first | refine blk_drewN ?_ _ | refine blk_drew ?_ | refine blk_alloc ?_ _)); refine blk_far ?_ NB131_134.out _; (with_reducible repeat (first | refine blk_drewN ?_ _ | refine blk_drew ?_ | refine blk_alloc ?_ _)); refine blk_far ?_ NB131_134.out _; (with_reducible repeat (first | refine blk_drewN ?_ _ | refine blk_drew ?_ | refine blk_alloc ?_ _)); refine blk_far ?_ NB131_134.out _; (with_reducible repeat (first | refine blk_drewN ?_ _ | refine blk_drew ?_ | refine blk_alloc ?_ _)); exact BK131.out) hb); have n1_ := Aside0.mk (blk_below (g := gb134) (o := .cells #[.int .i64 ((rd_T59 l1 x20_2).f0), .int .i64 ((rd_T59 l1 x20_2).f1), .int .i64 ((rd_T59 l1 x20_2).f2), .bool ((rd_T59 l1 x20_2).f3)] 59 (0, 0)) (by (with_reducible repeat (first | refine blk_drewN ?_ _ | refine blk_drew ?_ | refine blk_alloc ?_ _)); refine blk_put (cs := #[.int .i64 ((rd_T59 l1 x20_2).f0), .int .i64 ((rd_T59 l1 x20_2).f1), .int .i64 ((rd_T59 l1 x20_2).f2), .bool false]) ?_ 3 _ rfl; (with_reducible repeat (first | refine blk_drewN ?_ _ | refine blk_drew ?_ | refine blk_alloc ?_ _)); refine blk_put (cs := #[.int .i64 ((rd_T59 l1 x20_2).f0), .int .i64 ((rd_T59 l1 x20_2).f1), .int .i64 0, .bool false]) ?_ 2 _ rfl; (with_reducible repeat (first | refine blk_drewN ?_ _ | refine blk_drew ?_ | refine blk_alloc ?_ _)); refine blk_put (cs := #[.int .i64 ((rd_T59 l1 x20_2).f0), .int .i64 0, .int .i64 0, .bool false]) ?_ 1 _ rfl; (with_reducible repeat (first | refine blk_drewN ?_ _ | refine blk_drew ?_ | refine blk_alloc ?_ _)); refine blk_put (cs := #[.int .i64 0, .int .i64 0, .int .i64 0, .bool false]) ?_ 0 _ rfl; (with_reducible repeat (first | refine blk_drewN ?_ _ | refine blk_drew ?_ | refine blk_alloc ?_ _)); exact BK134.out) hb); have n2_ := Aside0.mk (below_step (by repeat (first | (with_reducible first | exact HB.out | apply below_alloc | apply pw_below_drewN | apply below_drew1 | refine below_set ?_ GE131.out | refine below_set ?_ GE134.out) | exact HB.out)) hb); clear BK131; clear BK134; clear HB; have BK131 := n0_; have BK134 := n1_; have HB := n2_; clear n0_ n1_ n2_; (try clear hb); (try clear hb2); (try clear hk); (try clear hi); have hcz30_0 : w29.cell? ⟨gb131, 0, none⟩ = some (.slice A0_0 l0_0.length c0_0) := (blk_cell BK131.out 0).trans rfl; have hfz30_0 := blk_frozen BK131.out 0; have p136 : 0 ≤ (x20_2 : Int) := of_decide_eq_true (by first | (with_reducible assumption) | assumption); have q136 : x20_2 < (l0_0.length : Int) := of_decide_eq_true (by first | (with_reducible assumption) | assumption); obtain ⟨ad136, A136_7, c136_7, e136, hx136_0, hx136_1, hx136_2, hx136_3, hx136_4, hx136_5, hx136_6, hx136_7, hl136_7, hi136_7⟩ := at_T37 HR0_0.out x20_2 p136 q136; (try rw [← Nbq17.out] at hx136_2); (try rw [← Nbq17.out] at hx136_3); cases e136; replace hx136_0 := (HB.out.cell (World.block_lt_of_cell? w _ hx136_0)).trans hx136_0; replace hx136_1 := (HB.out.cell (World.block_lt_of_cell? w _ hx136_1)).trans hx136_1; replace hx136_2 := (HB.out.cell (World.block_lt_of_cell? w _ hx136_2)).trans hx136_2; replace hx136_3 := (HB.out.cell (World.block_lt_of_cell? w _ hx136_3)).trans hx136_3; replace hx136_4 := (HB.out.cell (World.block_lt_of_cell? w _ hx136_4)).trans hx136_4; replace hx136_5 := (HB.out.cell (World.block_lt_of_cell? w _ hx136_5)).trans hx136_5; replace hx136_6 := (HB.out.cell (World.block_lt_of_cell? w _ hx136_6)).trans hx136_6; replace hx136_7 := (HB.out.cell (World.block_lt_of_cell? w _ hx136_7)).trans hx136_7; have HR136_7 := Aside0.mk hi136_7; have HC136_7 := Aside0.mk hl136_7; clear hi136_7 hl136_7; replace p136 := eq_true p136; replace q136 := eq_true q136; have hcz31_0 : w29.cell? ⟨gb134, 0, none⟩ = some (.int .i64 ((rd_T59 l1 x20_2).f0)) := (blk_cell BK134.out 0).trans rfl; have hcz31_1 : w29.cell? ⟨gb134, 1, none⟩ = some (.int .i64 ((rd_T59 l1 x20_2).f1)) := (blk_cell BK134.out 1).trans rfl; have hcz31_2 : w29.cell? ⟨gb134, 2, none⟩ = some (.int .i64 ((rd_T59 l1 x20_2).f2)) := (blk_cell BK134.out 2).trans rfl; have hcz31_3 : w29.cell? ⟨gb134, 3, none⟩ = some (.bool ((rd_T59 l1 x20_2).f3)) := (blk_cell BK134.out 3).trans rfl; have hfz31_0 := blk_frozen BK134.out 0; have hfz31_1 := blk_frozen BK134.out 1; have hfz31_2 := blk_frozen BK134.out 2; have hfz31_3 := blk_frozen BK134.out 3))
             go_roundg k2
             case measure => have := HJ2.out; have := HK2.out; omega
             case rel => exact ⟨(wrap64 (x20_2 + 1)), (by first | rfl | (simp; done) | (simp [*]; done)), H', ⟨by have := HJ2.out; have := HK2.out; omega⟩, ⟨by (with_reducible repeat (first | refine blk_drewN ?_ _ | refine blk_drew ?_ | refine blk_alloc ?_ _)); exact BK131.out⟩, ⟨by repeat (first | (with_reducible first | exact HB.out | apply below_alloc | apply pw_below_drewN | apply below_drew1 | refine below_set ?_ GE131.out | refine below_set ?_ GE134.out) | exact HB.out)⟩⟩
           ·replace c18 := Bool.eq_false_iff.mpr c18
            subst c18
            have H1 : (fact_Check.l0 k2 l1 (l1.length : Int) (wrap64 (x20_2 + 1)) l0_0) = some r := by rw [if_neg (show ¬ (false = true) by decide)] at H; exact H
            clear H
            have H := H1
            clear H1
            have H' := Aside0.mk H
            clear H
            have p133 : 0 ≤ (x20_2 : Int) := of_decide_eq_true (by first | (with_reducible assumption) | assumption)
            have q133 : x20_2 < (l1.length : Int) := of_decide_eq_true (by first | (with_reducible assumption) | assumption)
            obtain ⟨ad133, e133, hx133_0, hx133_1, hx133_2, hx133_3⟩ := at_T59 HR1.out x20_2 p133 q133
            (try rw [← Nbq17.out] at hx133_3)
            cases e133
            replace hx133_0 := (HB.out.cell (World.block_lt_of_cell? w _ hx133_0)).trans hx133_0
            replace hx133_1 := (HB.out.cell (World.block_lt_of_cell? w _ hx133_1)).trans hx133_1
            replace hx133_2 := (HB.out.cell (World.block_lt_of_cell? w _ hx133_2)).trans hx133_2
            replace hx133_3 := (HB.out.cell (World.block_lt_of_cell? w _ hx133_3)).trans hx133_3
            replace p133 := eq_true p133
            replace q133 := eq_true q133
            go_wp2_with (first | ((with_reducible refine gate_dst (N := 6) rfl ?_); refine box_event ?hg (N := 6) ?hd (cs := #[.int .i64 0, .int .i64 0, .int .i64 0, .bool false]) (t := 59) ?hr ?_; (case hd => rfl); (case hg => rfl); (case hr => first | (go_simp; done) | (go_simp; rfl)); intro gb134 hg w32 hbox hb; have n0_ := Aside0.mk (blk_below (g := gb131) (o := .cells #[.slice A0_0 l0_0.length c0_0] 24 (0, 0)) (by (with_reducible repeat (first | refine blk_drewN ?_ _ | refine blk_drew ?_ | refine blk_alloc ?_ _)); exact BK131.out) hb); have n1_ := Aside0.mk (below_step (by repeat (first | (with_reducible first | exact HB.out | apply below_alloc | apply pw_below_drewN | apply below_drew1 | refine below_set ?_ GE131.out) | exact HB.out)) hb); have n2_ := Aside0.mk (hbox); have n3_ := Aside0.mk ((by rw [hg]; exact (below_size (by repeat (first | (with_reducible first | exact HB.out | apply below_alloc | apply pw_below_drewN | apply below_drew1 | refine below_set ?_ GE131.out) | exact HB.out))) : w.heap.size ≤ gb134)); have n4_ := Aside0.mk ((by rw [hg]; exact (below_size (by repeat (first | (with_reducible first | exact HB.out | apply below_alloc | apply pw_below_drewN | apply below_drew1 | refine below_set ?_ GE131.out) | exact HB.out))) : w.heap.size ≤ gb134)); have n5_ := Aside0.mk ((by rw [hg]; exact Nat.ne_of_lt (blk_lt (g := gb131) (o := .cells #[.slice A0_0 l0_0.length c0_0] 24 (0, 0)) (by (with_reducible repeat (first | refine blk_drewN ?_ _ | refine blk_drew ?_ | refine blk_alloc ?_ _)); exact BK131.out)) : gb131 ≠ gb134)); have n6_ := Aside0.mk ((by rw [hg]; exact Nat.ne_of_gt (blk_lt (g := gb131) (o := .cells #[.slice A0_0 l0_0.length c0_0] 24 (0, 0)) (by (with_reducible repeat (first | refine blk_drewN ?_ _ | refine blk_drew ?_ | refine blk_alloc ?_ _)); exact BK131.out)) : gb134 ≠ gb131)); clear BK131; clear HB; have BK131 := n0_; have HB := n1_; have BK134 := n2_; have GW134 := n3_; have GE134 := n4_; have NB131_134 := n5_; have NB134_131 := n6_; clear n0_ n1_ n2_ n3_ n4_ n5_ n6_; clear hb hbox hg; have hnb33 := NB134_131.out; have hnc33 := NB131_134.out; have hcz34_0 : w32.cell? ⟨gb134, 0, none⟩ = some (.int .i64 0) := (blk_cell BK134.out 0).trans rfl; have hcz34_1 : w32.cell? ⟨gb134, 1, none⟩ = some (.int .i64 0) := (blk_cell BK134.out 1).trans rfl; have hcz34_2 : w32.cell? ⟨gb134, 2, none⟩ = some (.int .i64 0) := (blk_cell BK134.out 2).trans rfl; have hcz34_3 : w32.cell? ⟨gb134, 3, none⟩ = some (.bool false) := (blk_cell BK134.out 3).trans rfl; have hfz34_0 := blk_frozen BK134.out 0; have hfz34_1 := blk_frozen BK134.out 1; have hfz34_2 := blk_frozen BK134.out 2; have hfz34_3 := blk_frozen BK134.out 3) | ((with_reducible refine gate_callee (f := 35) rfl ?_); refine goesL_ (some 26) rfl rfl Try.func35 (by kernel_rfl) rfl #[.agg #[.int .i64 ((rd_T59 l1 x20_2).f0), .int .i64 ((rd_T59 l1 x20_2).f1), .int .i64 ((rd_T59 l1 x20_2).f2), .bool ((rd_T59 l1 x20_2).f3)]] rfl (by (try simp only [List.map_toArray, List.map_cons, List.map_nil]); first | done | rfl | (simp only [List.length_drop, List.length_take]; rfl)) ?_; (with_reducible refine (fact_fine.calls k2 ((rd_T59 l1 x20_2).f0) ((rd_T59 l1 x20_2).f1) ((rd_T59 l1 x20_2).f2) ((rd_T59 l1 x20_2).f3) true _ A14.out).mono ?_); rintro e w35 ⟨rfl, hb⟩; refine ⟨_, rfl, ?_⟩; have n0_ := Aside0.mk (blk_below (g := gb131) (o := .cells #[.slice A0_0 l0_0.length c0_0] 24 (0, 0)) (by (with_reducible repeat (first | refine blk_drewN ?_ _ | refine blk_drew ?_ | refine blk_alloc ?_ _)); refine blk_far ?_ NB131_134.out _; (with_reducible repeat (first | refine blk_drewN ?_ _ | refine blk_drew ?_ | refine blk_alloc ?_ _)); refine blk_far ?_ NB131_134.out _; (with_reducible repeat (first | refine blk_drewN ?_ _ | refine blk_drew ?_ | refine blk_alloc ?_ _)); refine blk_far ?_ NB131_134.out _; (with_reducible repeat (first | refine blk_drewN ?_ _ | refine blk_drew ?_ | refine blk_alloc ?_ _)); refine blk_far ?_ NB131_134.out _; (with_reducible repeat (first | refine blk_drewN ?_ _ | refine blk_drew ?_ | refine blk_alloc ?_ _)); exact BK131.out) hb); have n1_ := Aside0.mk (blk_below (g := gb134) (o := .cells #[.int .i64 ((rd_T59 l1 x20_2).f0), .int .i64 ((rd_T59 l1 x20_2).f1), .int .i64 ((rd_T59 l1 x20_2).f2), .bool ((rd_T59 l1 x20_2).f3)] 59 (0, 0)) (by (with_reducible repeat (first | refine blk_drewN ?_ _ | refine blk_drew ?_ | refine blk_alloc ?_ _)); refine blk_put (cs := #[.int .i64 ((rd_T59 l1 x20_2).f0), .int .i64 ((rd_T59 l1 x20_2).f1), .int .i64 ((rd_T59 l1 x20_2).f2), .bool false]) ?_ 3 _ rfl; (with_reducible repeat (first | refine blk_drewN ?_ _ | refine blk_drew ?_ | refine blk_alloc ?_ _)); refine blk_put (cs := #[.int .i64 ((rd_T59 l1 x20_2).f0), .int .i64 ((rd_T59 l1 x20_2).f1), .int .i64 0, .bool false]) ?_ 2 _ rfl; (with_reducible repeat (first | refine blk_drewN ?_ _ | refine blk_drew ?_ | refine blk_alloc ?_ _)); refine blk_put (cs := #[.int .i64 ((rd_T59 l1 x20_2).f0), .int .i64 0, .int .i64 0, .bool false]) ?_ 1 _ rfl; (with_reducible repeat (first | refine blk_drewN ?_ _ | refine blk_drew ?_ | refine blk_alloc ?_ _)); refine blk_put (cs := #[.int .i64 0, .int .i64 0, .int .i64 0, .bool false]) ?_ 0 _ rfl; (with_reducible repeat (first | refine blk_drewN ?_ _ | refine blk_drew ?_ | refine blk_alloc ?_ _)); exact BK134.out) hb); have n2_ := Aside0.mk (below_step (by repeat (first | (with_reducible first | exact HB.out | apply below_alloc | apply pw_below_drewN | apply below_drew1 | refine below_set ?_ GE131.out | refine below_set ?_ GE134.out) | exact HB.out)) hb); clear BK131; clear BK134; clear HB; have BK131 := n0_; have BK134 := n1_; have HB := n2_; clear n0_ n1_ n2_; (try clear hb); (try clear hb2); (try clear hk); (try clear hi); have hcz36_0 : w35.cell? ⟨gb131, 0, none⟩ = some (.slice A0_0 l0_0.length c0_0) := (blk_cell BK131.out 0).trans rfl; have hfz36_0 := blk_frozen BK131.out 0; have p136 : 0 ≤ (x20_2 : Int) := of_decide_eq_true (by first | (with_reducible assumption) | assumption); have q136 : x20_2 < (l0_0.length : Int) := of_decide_eq_true (by first | (with_reducible assumption) | assumption); obtain ⟨ad136, A136_7, c136_7, e136, hx136_0, hx136_1, hx136_2, hx136_3, hx136_4, hx136_5, hx136_6, hx136_7, hl136_7, hi136_7⟩ := at_T37 HR0_0.out x20_2 p136 q136; (try rw [← Nbq17.out] at hx136_2); (try rw [← Nbq17.out] at hx136_3); cases e136; replace hx136_0 := (HB.out.cell (World.block_lt_of_cell? w _ hx136_0)).trans hx136_0; replace hx136_1 := (HB.out.cell (World.block_lt_of_cell? w _ hx136_1)).trans hx136_1; replace hx136_2 := (HB.out.cell (World.block_lt_of_cell? w _ hx136_2)).trans hx136_2; replace hx136_3 := (HB.out.cell (World.block_lt_of_cell? w _ hx136_3)).trans hx136_3; replace hx136_4 := (HB.out.cell (World.block_lt_of_cell? w _ hx136_4)).trans hx136_4; replace hx136_5 := (HB.out.cell (World.block_lt_of_cell? w _ hx136_5)).trans hx136_5; replace hx136_6 := (HB.out.cell (World.block_lt_of_cell? w _ hx136_6)).trans hx136_6; replace hx136_7 := (HB.out.cell (World.block_lt_of_cell? w _ hx136_7)).trans hx136_7; have HR136_7 := Aside0.mk hi136_7; have HC136_7 := Aside0.mk hl136_7; clear hi136_7 hl136_7; replace p136 := eq_true p136; replace q136 := eq_true q136))
            go_roundg k2
            case measure => have := HJ2.out; have := HK2.out; omega
            case rel => exact ⟨(wrap64 (x20_2 + 1)), (by first | rfl | (simp; done) | (simp [*]; done)), H', ⟨by have := HJ2.out; have := HK2.out; omega⟩, ⟨by (with_reducible repeat (first | refine blk_drewN ?_ _ | refine blk_drew ?_ | refine blk_alloc ?_ _)); exact BK131.out⟩, ⟨by repeat (first | (with_reducible first | exact HB.out | apply below_alloc | apply pw_below_drewN | apply below_drew1 | refine below_set ?_ GE131.out | refine below_set ?_ GE134.out) | exact HB.out)⟩⟩
          ·rw [if_neg c16] at H
           exact absurd H (by simp)
         ·replace c15 := Bool.eq_false_iff.mpr c15
          subst c15
          have H1 : (some 2) = some r := by rw [if_neg (show ¬ (false = true) by decide)] at H; exact H
          clear H
          have H := H1
          clear H1
          obtain rfl := Option.some.inj H
          have p133 : 0 ≤ (x20_2 : Int) := of_decide_eq_true (by first | (with_reducible assumption) | assumption)
          have q133 : x20_2 < (l1.length : Int) := of_decide_eq_true (by first | (with_reducible assumption) | assumption)
          obtain ⟨ad133, e133, hx133_0, hx133_1, hx133_2, hx133_3⟩ := at_T59 HR1.out x20_2 p133 q133
          cases e133
          replace hx133_0 := (HB.out.cell (World.block_lt_of_cell? w _ hx133_0)).trans hx133_0
          replace hx133_1 := (HB.out.cell (World.block_lt_of_cell? w _ hx133_1)).trans hx133_1
          replace hx133_2 := (HB.out.cell (World.block_lt_of_cell? w _ hx133_2)).trans hx133_2
          replace hx133_3 := (HB.out.cell (World.block_lt_of_cell? w _ hx133_3)).trans hx133_3
          replace p133 := eq_true p133
          replace q133 := eq_true q133
          go_wp2_with (first | ((with_reducible refine gate_dst (N := 6) rfl ?_); refine box_event ?hg (N := 6) ?hd (cs := #[.int .i64 0, .int .i64 0, .int .i64 0, .bool false]) (t := 59) ?hr ?_; (case hd => rfl); (case hg => rfl); (case hr => first | (go_simp; done) | (go_simp; rfl)); intro gb134 hg w37 hbox hb; have n0_ := Aside0.mk (blk_below (g := gb131) (o := .cells #[.slice A0_0 l0_0.length c0_0] 24 (0, 0)) (by (with_reducible repeat (first | refine blk_drewN ?_ _ | refine blk_drew ?_ | refine blk_alloc ?_ _)); exact BK131.out) hb); have n1_ := Aside0.mk (below_step (by repeat (first | (with_reducible first | exact HB.out | apply below_alloc | apply pw_below_drewN | apply below_drew1 | refine below_set ?_ GE131.out) | exact HB.out)) hb); have n2_ := Aside0.mk (hbox); have n3_ := Aside0.mk ((by rw [hg]; exact (below_size (by repeat (first | (with_reducible first | exact HB.out | apply below_alloc | apply pw_below_drewN | apply below_drew1 | refine below_set ?_ GE131.out) | exact HB.out))) : w.heap.size ≤ gb134)); have n4_ := Aside0.mk ((by rw [hg]; exact (below_size (by repeat (first | (with_reducible first | exact HB.out | apply below_alloc | apply pw_below_drewN | apply below_drew1 | refine below_set ?_ GE131.out) | exact HB.out))) : w.heap.size ≤ gb134)); have n5_ := Aside0.mk ((by rw [hg]; exact Nat.ne_of_lt (blk_lt (g := gb131) (o := .cells #[.slice A0_0 l0_0.length c0_0] 24 (0, 0)) (by (with_reducible repeat (first | refine blk_drewN ?_ _ | refine blk_drew ?_ | refine blk_alloc ?_ _)); exact BK131.out)) : gb131 ≠ gb134)); have n6_ := Aside0.mk ((by rw [hg]; exact Nat.ne_of_gt (blk_lt (g := gb131) (o := .cells #[.slice A0_0 l0_0.length c0_0] 24 (0, 0)) (by (with_reducible repeat (first | refine blk_drewN ?_ _ | refine blk_drew ?_ | refine blk_alloc ?_ _)); exact BK131.out)) : gb134 ≠ gb131)); clear BK131; clear HB; have BK131 := n0_; have HB := n1_; have BK134 := n2_; have GW134 := n3_; have GE134 := n4_; have NB131_134 := n5_; have NB134_131 := n6_; clear n0_ n1_ n2_ n3_ n4_ n5_ n6_; clear hb hbox hg; have hnb38 := NB134_131.out; have hnc38 := NB131_134.out; have hcz39_0 : w37.cell? ⟨gb134, 0, none⟩ = some (.int .i64 0) := (blk_cell BK134.out 0).trans rfl; have hcz39_1 : w37.cell? ⟨gb134, 1, none⟩ = some (.int .i64 0) := (blk_cell BK134.out 1).trans rfl; have hcz39_2 : w37.cell? ⟨gb134, 2, none⟩ = some (.int .i64 0) := (blk_cell BK134.out 2).trans rfl; have hcz39_3 : w37.cell? ⟨gb134, 3, none⟩ = some (.bool false) := (blk_cell BK134.out 3).trans rfl; have hfz39_0 := blk_frozen BK134.out 0; have hfz39_1 := blk_frozen BK134.out 1; have hfz39_2 := blk_frozen BK134.out 2; have hfz39_3 := blk_frozen BK134.out 3) | ((with_reducible refine gate_callee (f := 35) rfl ?_); refine goesL_ (some 26) rfl rfl Try.func35 (by kernel_rfl) rfl #[.agg #[.int .i64 ((rd_T59 l1 x20_2).f0), .int .i64 ((rd_T59 l1 x20_2).f1), .int .i64 ((rd_T59 l1 x20_2).f2), .bool ((rd_T59 l1 x20_2).f3)]] rfl (by (try simp only [List.map_toArray, List.map_cons, List.map_nil]); first | done | rfl | (simp only [List.length_drop, List.length_take]; rfl)) ?_; (with_reducible refine (fact_fine.calls k2 ((rd_T59 l1 x20_2).f0) ((rd_T59 l1 x20_2).f1) ((rd_T59 l1 x20_2).f2) ((rd_T59 l1 x20_2).f3) false _ A14.out).mono ?_); rintro e w40 ⟨rfl, hb⟩; refine ⟨_, rfl, ?_⟩; have n0_ := Aside0.mk (blk_below (g := gb131) (o := .cells #[.slice A0_0 l0_0.length c0_0] 24 (0, 0)) (by (with_reducible repeat (first | refine blk_drewN ?_ _ | refine blk_drew ?_ | refine blk_alloc ?_ _)); refine blk_far ?_ NB131_134.out _; (with_reducible repeat (first | refine blk_drewN ?_ _ | refine blk_drew ?_ | refine blk_alloc ?_ _)); refine blk_far ?_ NB131_134.out _; (with_reducible repeat (first | refine blk_drewN ?_ _ | refine blk_drew ?_ | refine blk_alloc ?_ _)); refine blk_far ?_ NB131_134.out _; (with_reducible repeat (first | refine blk_drewN ?_ _ | refine blk_drew ?_ | refine blk_alloc ?_ _)); refine blk_far ?_ NB131_134.out _; (with_reducible repeat (first | refine blk_drewN ?_ _ | refine blk_drew ?_ | refine blk_alloc ?_ _)); exact BK131.out) hb); have n1_ := Aside0.mk (blk_below (g := gb134) (o := .cells #[.int .i64 ((rd_T59 l1 x20_2).f0), .int .i64 ((rd_T59 l1 x20_2).f1), .int .i64 ((rd_T59 l1 x20_2).f2), .bool ((rd_T59 l1 x20_2).f3)] 59 (0, 0)) (by (with_reducible repeat (first | refine blk_drewN ?_ _ | refine blk_drew ?_ | refine blk_alloc ?_ _)); refine blk_put (cs := #[.int .i64 ((rd_T59 l1 x20_2).f0), .int .i64 ((rd_T59 l1 x20_2).f1), .int .i64 ((rd_T59 l1 x20_2).f2), .bool false]) ?_ 3 _ rfl; (with_reducible repeat (first | refine blk_drewN ?_ _ | refine blk_drew ?_ | refine blk_alloc ?_ _)); refine blk_put (cs := #[.int .i64 ((rd_T59 l1 x20_2).f0), .int .i64 ((rd_T59 l1 x20_2).f1), .int .i64 0, .bool false]) ?_ 2 _ rfl; (with_reducible repeat (first | refine blk_drewN ?_ _ | refine blk_drew ?_ | refine blk_alloc ?_ _)); refine blk_put (cs := #[.int .i64 ((rd_T59 l1 x20_2).f0), .int .i64 0, .int .i64 0, .bool false]) ?_ 1 _ rfl; (with_reducible repeat (first | refine blk_drewN ?_ _ | refine blk_drew ?_ | refine blk_alloc ?_ _)); refine blk_put (cs := #[.int .i64 0, .int .i64 0, .int .i64 0, .bool false]) ?_ 0 _ rfl; (with_reducible repeat (first | refine blk_drewN ?_ _ | refine blk_drew ?_ | refine blk_alloc ?_ _)); exact BK134.out) hb); have n2_ := Aside0.mk (below_step (by repeat (first | (with_reducible first | exact HB.out | apply below_alloc | apply pw_below_drewN | apply below_drew1 | refine below_set ?_ GE131.out | refine below_set ?_ GE134.out) | exact HB.out)) hb); clear BK131; clear BK134; clear HB; have BK131 := n0_; have BK134 := n1_; have HB := n2_; clear n0_ n1_ n2_; (try clear hb); (try clear hb2); (try clear hk); (try clear hi)))
          go_ret
          exact ⟨by first | rfl | (simp [errW_none, errW_some] <;> rfl) | (simp [*, errW_none, errW_some] <;> rfl), by repeat (first | (with_reducible first | exact HB.out | apply below_alloc | apply pw_below_drewN | apply below_drew1 | refine below_set ?_ GE131.out | refine below_set ?_ GE134.out) | exact HB.out)⟩
        ·rw [if_neg c13] at H
         exact absurd H (by simp)
       ·rw [if_neg c12] at H
        exact absurd H (by simp)
      ·rw [if_neg c11] at H
       have c11b0 : decide (x20_2 < (l1.length : Int)) = false := decide_eq_false c11
       clear c11
       obtain rfl := Option.some.inj H
       go_wp2
       go_ret
       exact ⟨by first | rfl | (simp [errW_none, errW_some] <;> rfl) | (simp [*, errW_none, errW_some] <;> rfl), by repeat (first | (with_reducible first | exact HB.out | apply below_alloc | apply pw_below_drewN | apply below_drew1 | refine below_set ?_ GE131.out) | exact HB.out)⟩
end Go.Proofs.Ytihpndignekheaa.F
end

section
namespace Go.Proofs.Ytihpndignekheaa.F
open Go.RowKit Go.Proofs.YtihpndignekheaaW.PrintWords Go.Proofs.YtihpndignekheaaW.PrintLast Go.Proofs.YtihpndignekheaaW.PrintMore
attribute [local go_sem] max2_int min2_int max_two min_two max_three min_three max_four min_four
set_option linter.unusedVariables false
set_option linter.unusedSimpArgs false
theorem info56_ : (Try.prog.info? 59).map (fun i => (i.zero, i.size, i.bytes)) = some (some (.agg #[(.int .i64 0), (.int .i64 0), (.int .i64 0), (.bool false)]), 4, 32) := by kernel_rfl
set_option maxHeartbeats 8000000 in
set_option maxRecDepth 100000 in
theorem clone_walk (A : Option Addr) (c : Nat) (l : List S59) (w : World) (hr : Kd.C k59 w A l.length l) (hl : l.length ≤ 1000000) :
  Calls Try.prog 31 #[.slice A l.length c] w fun e w' => ∃ v, e = .returned v ∧ Kd.R k59 59 w' w.heap.size (fun _ => True) v l ∧ Below w.heap.size w w' := by
 have HR := Aside0.mk hr
 have HL := Aside0.mk hl
 have HB := Aside0.mk (Below.refl w.heap.size w)
 have he := fun (B : Option Addr) (n c : Nat) (w : World) => Lib.run_eql_slice_nil (P := Try.prog) w 25 59 B n c 0 0 Try.underlying25
 clear hr hl
 cases A with
 | none =>
  have h0 : l = [] := by
   cases l with
   | nil => rfl
   | cons x l => obtain ⟨ad, h, _⟩ := HR.out.2.2 (by simp); cases h
  subst h0
  go_enter Try.func31, Try.ntmps31
  go_wp2
  go_ret
  exact ⟨_, rfl, Kd.R_nil _ _ _ _ _, HB.out⟩
 | some ad =>
  have h2 := World.ownsRow_lit (base := w.heap.size) (e := 59) (size := k59.sz) w #[] 0 (Nat.le_refl _) (by simp) (by simp)
  have HO0 : Aside0 (Kd.R k59 59 (w.alloc (.cells #[] 59 (0, 0))) w.heap.size (fun _ => True) (.slice (some ⟨w.heap.size, 0, none⟩) 0 0) []) := ⟨⟨fun _ _ => trivial, [], by simpa using h2, Reps.none _ _⟩⟩
  clear h2
  go_enter Try.func31, Try.ntmps31
  go_wp2_with ((with_reducible refine gate_builtin (b := .append) (xs := #[.tmp 5, .tmp 6]) rfl ?_); at_builtin; refine Kd.R_append_rows k59 (w0 := w) w.heap.size rfl (.tmp 5) (.tmp 6) 25 59 (.agg #[(.int .i64 0), (.int .i64 0), (.int .i64 0), (.bool false)]) 32 rfl Try.underlying25 info56_ rfl (by decide) (by omega) (.slice (some ⟨w.heap.size, 0, none⟩) 0 0) [] l _ _ _ (fun _ => True) (fun _ => False) rfl rfl HO0.out (Kd.C_below HR.out (below_alloc (Below.refl _ _) _)) (fun _ _ h => h) (fun _ h => h.elim) (fun _ _ => trivial) (HB.out.alloc (Nat.le_refl _) _) (by simp) (by have := HL.out; simp; omega) ?_; intro v1 w1 hR hB hg hx; have HR1 := Aside0.mk hR; have HB1 := Aside0.mk hB; clear hR hB hg hx)
  go_ret
  exact ⟨_, rfl, HR1.out, HB1.out⟩
end Go.Proofs.Ytihpndignekheaa.F
end

section
namespace Go.Proofs.Ytihpndignekheaa.F
open Go.RowKit Go.Proofs.YtihpndignekheaaW.PrintWords Go.Proofs.YtihpndignekheaaW.PrintLast Go.Proofs.YtihpndignekheaaW.PrintMore
attribute [local go_sem] max2_int min2_int max_two min_two max_three min_three max_four min_four
set_option linter.unusedVariables false
set_option linter.unusedSimpArgs false
def fl0 : Fl := ⟨false, false, false, false, false, 0⟩
def stZ : St := ⟨fun _ => fl0, fun _ _ => ⟨false, false, false⟩⟩
theorem zero_board (pv lv : Value) : (Try.zeroCells49.setIfInBounds 0 pv).setIfInBounds 1 lv = bCells (memOf pv lv stZ) := by kernel_rfl
def stA : St := ⟨fun _ => fl0, fun _ _ => ⟨false, true, true⟩⟩
def stB (i k : Nat) : St := ⟨fun _ => fl0, fun a b => if a < i ∨ (a = i ∧ b < k) then ⟨false, true, true⟩ else ⟨false, false, false⟩⟩
theorem BoardAt.congr {w : World} {g : Nat} {pv lv : Value} {s s' : St} (h : BoardAt w g pv lv s) (h1 : ∀ i, i < 64 → s.it i = s'.it i) (h2 : ∀ i k, i < 64 → k < 4 → s.bo i k = s'.bo i k) : BoardAt w g pv lv s' := by
 refine BoardAt.of h (fun j hj => ?_)
 unfold memOf
 by_cases h0 : j = 0
 ·rw [if_pos h0, if_pos h0]
 by_cases h3 : j = 1
 ·rw [if_neg h0, if_pos h3, if_neg h0, if_pos h3]
 by_cases h4 : j < 386
 ·rw [if_neg h0, if_neg h3, if_pos h4, if_neg h0, if_neg h3, if_pos h4, h1 _ (by omega)]
 ·rw [if_neg h0, if_neg h3, if_neg h4, if_neg h0, if_neg h3, if_neg h4, h2 _ _ (by omega) (by omega)]
theorem BoardAt.putBy {w : World} {g : Nat} {pv lv : Value} {s : St} (h : BoardAt w g pv lv s) (i k : Nat) (hi : i < 64) (hk : k < 4) (b : By) : BoardAt (((w.setCell ⟨g, 386 + i * 12 + k * 3, none⟩ (.bool b.fa)).setCell ⟨g, 386 + i * 12 + k * 3 + 1, none⟩ (.bool b.wh)).setCell ⟨g, 386 + i * 12 + k * 3 + 2, none⟩ (.bool b.cl)) g pv lv (s.setBo i k b) :=
 ((h.putBo i k 0 hi hk (by omega) (.bool b.fa) ⟨b.fa, (s.bo i k).wh, (s.bo i k).cl⟩ (by exact by3_ rfl rfl rfl)).reBo 1 hi hk (by omega) (.bool b.wh) ⟨b.fa, b.wh, (s.bo i k).cl⟩ (by exact by3_ rfl rfl rfl)).reBo 2 hi hk (by omega) (.bool b.cl) b (by exact by3_ rfl rfl rfl)
theorem stB_zero {w : World} {g : Nat} {pv lv : Value} (h : BoardAt w g pv lv stZ) : BoardAt w g pv lv (stB 0 0) := h.congr (fun _ _ => rfl) (fun i k _ _ => by simp [stB, stZ])
theorem stB_next {w : World} {g : Nat} {pv lv : Value} {i k : Nat} (h : BoardAt w g pv lv ((stB i k).setBo i k ⟨false, true, true⟩)) : BoardAt w g pv lv (stB i (k + 1)) := h.congr (fun _ _ => rfl) (fun a b _ _ => by
 unfold stB St.setBo
 dsimp only
 by_cases h1 : a = i ∧ b = k
 ·rw [if_pos h1, if_pos (by omega)]
 ·rw [if_neg h1]
  by_cases h2 : a < i ∨ (a = i ∧ b < k)
  ·rw [if_pos h2, if_pos (by omega)]
  ·rw [if_neg h2, if_neg (by omega)])
theorem stB_row {w : World} {g : Nat} {pv lv : Value} {i : Nat} (h : BoardAt w g pv lv (stB i 4)) : BoardAt w g pv lv (stB (i + 1) 0) := h.congr (fun _ _ => rfl) (fun a b _ hb => by
 unfold stB
 dsimp only
 by_cases h2 : a < i ∨ (a = i ∧ b < 4)
 ·rw [if_pos h2, if_pos (by omega)]
 ·rw [if_neg h2, if_neg (by omega)])
theorem stB_all {w : World} {g : Nat} {pv lv : Value} (h : BoardAt w g pv lv (stB 64 0)) : BoardAt w g pv lv stA := h.congr (fun _ _ => rfl) (fun a b ha _ => by
 unfold stB stA
 dsimp only
 rw [if_pos (by omega)])
def turnS (p : List S37) (l : List S59) (s : St) (i : Nat) : St :=
 let s1 := if (rd_T37 p (i : Int)).f2 then s.setIt i (sagaS (rd_T37 p (i : Int)).f4.toNat (s.bo i) (s.it i)) else s.setIt i (stepS (rd_T59 l (i : Int)))
 if i = 0 then s1 else handS (rd_T37 p (i : Int)).f3 (rd_T59 l (i : Int)).f0 (s1.it i) s1 (rd_T37 p (i : Int)).f5.toNat (rd_T37 p (i : Int)).f6.toNat
def downS (p : List S37) (l : List S59) : Nat → St → St
 | 0, s => s
 | m + 1, s => downS p l m (turnS p l s m)
def haltF (p : List S37) (s : St) (i : Nat) : Fl := ⟨(s.it i).cl, (s.it i).tc, (s.it i).dn, (s.it i).sp, (s.bo (rd_T37 p (i : Int)).f5.toNat (rd_T37 p (i : Int)).f6.toNat).fa || (s.it (rd_T37 p (i : Int)).f5.toNat).ha, (s.it i).at_⟩
def haltS (p : List S37) (s : St) (i : Nat) : St := if i = 0 then s else s.setIt i (haltF p s i)
def upS (p : List S37) : Nat → Nat → St → St
 | _, 0, s => s
 | i, d + 1, s => upS p (i + 1) d (haltS p s i)
def madeS (p : List S37) (l : List S59) : St := upS p 0 p.length (downS p l p.length stA)
def ShapeP (p : List S37) : Prop := p.length ≤ 64 ∧ ∀ i : Nat, i < p.length → (0 ≤ (rd_T37 p (i : Int)).f4 ∧ (rd_T37 p (i : Int)).f4 ≤ 4) ∧ (i ≠ 0 → 0 ≤ (rd_T37 p (i : Int)).f5 ∧ (rd_T37 p (i : Int)).f5 < i ∧ 0 ≤ (rd_T37 p (i : Int)).f6 ∧ (rd_T37 p (i : Int)).f6 < 4)
def MadeB (w0 : World) (p : List S37) (Ap : Option Addr) (cp : Nat) (l : List S59) (s : St) (w' : World) (g : Nat) : Prop :=
 Below w0.heap.size w0 w' ∧ w0.heap.size ≤ g ∧ ∃ Al cl, BoardAt w' g (.slice Ap p.length cp) (.slice Al l.length cl) s ∧ Kd.C k59 w' Al l.length l
set_option maxHeartbeats 8000000 in
set_option maxRecDepth 100000 in
theorem made_board_walk (p : List S37) (Ap : Option Addr) (cp : Nat) (l : List S59) (A1 : Option Addr) (c1 : Nat) (w : World) (hr : Kd.C k37 w Ap p.length p) (hl : Kd.C k59 w A1 l.length l) (hpl : l.length = p.length) (hs : ShapeP p) :
  Calls Try.prog 29 #[.agg #[.slice Ap p.length cp], .slice A1 l.length c1] w fun e w' => ∃ g, e = .returned (.pointer (some ⟨g, 0, none⟩)) ∧ MadeB w p Ap cp l (madeS p l) w' g := by
 have HR := Aside0.mk hr
 have HL := Aside0.mk hl
 have HPL := Aside0.mk hpl
 have HS := Aside0.mk hs
 clear hr hl hpl hs
 go_enter Try.func29, Try.ntmps29
 go_wp2_with (fail)
 have HCL := Aside0.mk (fun (W : World) (hb : Below w.heap.size w W) => clone_walk A1 c1 l W (Kd.C_below HL.out hb) (by have := HPL.out; have := HS.out.1; omega))
 go_region_held2 (fun w' => w'.cell? ⟨w.heap.size, 0, none⟩ = some (.slice Ap p.length cp)) (first | (go_keep; done) | exact (blk_cell (blk_below (blk_drew (blk_new _ _)) hb2) 0).trans rfl) ((go_at_call 31; refine (HCL.out _ (below_drewN (below_alloc (Below.refl _ _) _) 1)).mono ?_; rintro e w2 ⟨v, rfl, hR2, hb2⟩; obtain ⟨A2, c2, rfl⟩ := Kd.R_slice hR2; have HR2 := Aside0.mk hR2))
 rw [zero_board]
 have HB2 := Aside0.mk ((below_drewN (below_alloc (Below.refl w.heap.size w) (.cells #[.slice Ap p.length cp] 24 (0, 0))) 1).trans (hb2.mono (by simp)))
 have HP2 : Aside0 (w2.heap[w.heap.size]? = some (.cells #[.slice Ap p.length cp] 24 (0, 0))) := ⟨blk_below (blk_drew (blk_new _ _)) hb2⟩
 have HL2 : Aside0 (Kd.C k59 w2 A2 l.length l) := ⟨(Kd.R_reads' HR2.out).2.2⟩
 have HR1 : Aside0 (Kd.C k37 w2 Ap p.length p) := ⟨Kd.C_below HR.out HB2.out⟩
 clear hR2 hb2 HCL HL HR
 obtain ⟨W, hW⟩ : ∃ W, W = w2.alloc (.cells (bCells (memOf (.slice Ap p.length cp) (.slice A2 l.length c2) stZ)) 49 (0, 0)) := ⟨_, rfl⟩
 have HBW : Aside0 (Below w2.heap.size w2 W) := ⟨by rw [hW]; exact below_alloc (Below.refl _ _) _⟩
 have HGW : Aside0 (BoardAt W w2.heap.size (.slice Ap p.length cp) (.slice A2 l.length c2) (stB 0 0)) := ⟨stB_zero (by rw [hW]; exact blk_new _ _)⟩
 rw [← hW]
 clear hW
 generalize hg : w2.heap.size = g at HGW ⊢
 go_wp2
 go_loopg [16] 64 (fun kq v16 w' => ∃ i : Nat, i + kq = 64 ∧ v16 = .int .i64 i ∧ Aside0 (Below w2.heap.size w2 w') ∧ Aside0 (BoardAt w' g (.slice Ap p.length cp) (.slice A2 l.length c2) (stB i 0)))
 case atStart => exact ⟨0, by omega, rfl, HBW, HGW⟩
 case round =>
  obtain ⟨i, hi, rfl, HB, HG⟩ := hrel
  cases gk with
  | zero =>
   obtain rfl : i = 64 := by omega
   have HG0 := Aside0.mk (stB_all HG.out)
   have HGE : Aside0 (w2.heap.size ≤ g) := ⟨by omega⟩
   clear HG HBW HGW hg hi
   have hlm : (l.length : Int) ≤ 64 := by have := HPL.out; have := HS.out.1; omega
   go_wp2
   go_loopg [8] l.length (fun kq v8 w' => ∃ s : St, v8 = .int .i64 ((kq : Int) - 1) ∧ Aside0 (kq ≤ l.length) ∧ Aside0 (Below w2.heap.size w2 w') ∧ Aside0 (BoardAt w' g (.slice Ap p.length cp) (.slice A2 l.length c2) s) ∧ Aside0 (downS p l kq s = downS p l l.length stA))
   case atStart => exact ⟨stA, rfl, ⟨Nat.le_refl _⟩, HB, HG0, ⟨rfl⟩⟩
   case round =>
    obtain ⟨s, rfl, HK, HBd, HGd, HD⟩ := hrel
    cases gk with
    | zero =>
     have HD0 : Aside0 (s = downS p l p.length stA) := ⟨by have := HD.out; rw [HPL.out] at this; exact this⟩
     clear HD HG0 HB
     have hn0 : (((0 : Nat) : Int) - 1) = -1 := by omega
     rw [hn0]
     clear hn0
     have yp : wr.cell? ⟨w.heap.size, 0, none⟩ = some (.slice Ap p.length cp) := (blk_cell (blk_below HP2.out HBd.out) 0).trans rfl
     go_wp2
     clear yp
     have hpm : (p.length : Int) ≤ 64 := by have := HS.out.1; omega
     go_loopg [59] p.length (fun kq v59 w' => ∃ (i : Nat) (s : St), i + kq = p.length ∧ v59 = .int .i64 i ∧ Aside0 (Below w2.heap.size w2 w') ∧ Aside0 (BoardAt w' g (.slice Ap p.length cp) (.slice A2 l.length c2) s) ∧ Aside0 (upS p i kq s = madeS p l))
     case atStart => exact ⟨0, s, by omega, rfl, HBd, HGd, ⟨by unfold madeS; rw [HD0.out]⟩⟩
     case round =>
      clear HGd HD0
      obtain ⟨i, s, hi, rfl, HB, HG, HU⟩ := hrel
      cases gk with
      | zero =>
       obtain rfl : i = p.length := by omega
       have HU2 : Aside0 (s = madeS p l) := ⟨HU.out⟩
       go_wp2
       go_ret
       exact ⟨g, rfl, HB2.out.trans (HB.out.mono HB2.out.size), Nat.le_trans HB2.out.size HGE.out, A2, c2, by rw [← HU2.out]; exact HG.out, Kd.C_below HL2.out HB.out⟩
      | succ d =>
       have hip : i < p.length := by omega
       have hi0 : (0 : Int) ≤ i := by omega
       have hi1 : (i : Int) < (p.length : Int) := by omega
       have hi6 : (i : Int) < 64 := by omega
       have HI := Aside0.mk hi
       have HIP := Aside0.mk hip
       have HU2 : Aside0 (upS p (i + 1) d (haltS p s i) = madeS p l) := ⟨HU.out⟩
       obtain ⟨ad, A7, c7, e0, x0, x1, x2, x3, x4, x5, x6, x7, _, _⟩ := at_T37 (Kd.C_below HR1.out HB.out) (i : Int) hi0 hi1
       subst e0
       rw [Int.toNat_natCast] at x0 x1 x2 x3 x4 x5 x6 x7
       clear hi HU
       by_cases hz : i = 0
       ·have HZ := Aside0.mk hz
        have hmz : ¬ (i : Int) > 0 := by omega
        clear hz
        go_wp2
        go_roundg d
        case measure => omega
        case rel => exact ⟨i + 1, s, by have := HI.out; omega, by go_num, ⟨below_step HB.out (below_alloc (Below.refl _ _) _)⟩, ⟨blk_alloc HG.out _⟩, ⟨by have := HU2.out; unfold haltS at this; rwa [if_pos HZ.out] at this⟩⟩
       ·obtain ⟨q1, q2, q3, q4⟩ := (HS.out.2 i hip).2 hz
        obtain ⟨j, hj⟩ := Int.eq_ofNat_of_zero_le q1
        obtain ⟨k, hk⟩ := Int.eq_ofNat_of_zero_le q3
        rw [hj] at x5
        rw [hk] at x6
        have HH : Aside0 (haltS p s i = s.setIt i ⟨(s.it i).cl, (s.it i).tc, (s.it i).dn, (s.it i).sp, (s.bo j k).fa || (s.it j).ha, (s.it i).at_⟩) := ⟨by unfold haltS haltF; rw [if_neg hz, hj, hk, Int.toNat_natCast, Int.toNat_natCast]⟩
        have hmz : (i : Int) > 0 := by omega
        have hj64 : j < 64 := by omega
        have hk4 : k < 4 := by omega
        clear hj hk q1 q2 q3 q4 hz
        go_wp2_with (fail)
        refine at_letter_ (fun W => Aside0 (Below w2.heap.size w2 W) ∧ Aside0 (BoardAt W g (.slice (some ad) p.length cp) (.slice A2 l.length c2) s) ∧ W.cell? ⟨wr.heap.size, 5, none⟩ = some (.int .i64 j) ∧ W.cell? ⟨wr.heap.size, 6, none⟩ = some (.int .i64 k))
         ⟨⟨below_step HB.out (below_alloc (Below.refl _ _) _)⟩, ⟨blk_alloc HG.out _⟩, (blk_cell (blk_new _ _) 5).trans rfl, (blk_cell (blk_new _ _) 6).trans rfl⟩ (fun W ⟨HB3, HG3, x5, x6⟩ => ?_)
        clear x0 x1 x2 x3 x4 x7 HB HG
        generalize wr.heap.size = gx at x5 x6 ⊢
        have hi64 : i < 64 := by omega
        have hj6 : (j : Int) < 64 := by omega
        have hj0 : (0 : Int) ≤ j := by omega
        have hk6 : (k : Int) < 4 := by omega
        have hk0 : (0 : Int) ≤ k := by omega
        have z0 : W.cell? ⟨g, 386 + j * 12 + k * 3, none⟩ = some (.bool (s.bo j k).fa) := HG3.out.bo j k 0 hj64 hk4 (by omega)
        have z1 : W.cell? ⟨g, 2 + j * 6 + 4, none⟩ = some (.bool (s.it j).ha) := HG3.out.it j 4 hj64 (by omega)
        have z2 := HG3.out.cell (2 + i * 6 + 4) (by omega)
        have y2 := HG3.out.free (2 + i * 6 + 4)
        obtain ⟨fa, hfa⟩ : ∃ b, (s.bo j k).fa = b := ⟨_, rfl⟩
        rw [hfa] at z0
        have HH2 : Aside0 (haltS p s i = s.setIt i ⟨(s.it i).cl, (s.it i).tc, (s.it i).dn, (s.it i).sp, fa || (s.it j).ha, (s.it i).at_⟩) := ⟨by rw [HH.out, hfa]⟩
        clear hfa HH
        cases fa
        all_goals
         go_region
         go_wp2
         go_roundg d
         case measure => omega
         case rel => first | exact ⟨i + 1, s.setIt i ⟨(s.it i).cl, (s.it i).tc, (s.it i).dn, (s.it i).sp, false || (s.it j).ha, (s.it i).at_⟩, by have := HI.out; omega, by go_num, ⟨below_drewN (HB3.out.setCell HGE.out _) 1⟩, ⟨(HG3.out.putIt i 4 hi64 (by omega) (.bool _) ⟨(s.it i).cl, (s.it i).tc, (s.it i).dn, (s.it i).sp, false || (s.it j).ha, (s.it i).at_⟩ (by exact fl6_ rfl rfl rfl rfl rfl rfl)).drew⟩, ⟨by have := HU2.out; rw [HH2.out] at this; exact this⟩⟩ | exact ⟨i + 1, s.setIt i ⟨(s.it i).cl, (s.it i).tc, (s.it i).dn, (s.it i).sp, true || (s.it j).ha, (s.it i).at_⟩, by have := HI.out; omega, by go_num, ⟨below_drewN (HB3.out.setCell HGE.out _) 1⟩, ⟨(HG3.out.putIt i 4 hi64 (by omega) (.bool _) ⟨(s.it i).cl, (s.it i).tc, (s.it i).dn, (s.it i).sp, true || (s.it j).ha, (s.it i).at_⟩ (by exact fl6_ rfl rfl rfl rfl rfl rfl)).drew⟩, ⟨by have := HU2.out; rw [HH2.out] at this; exact this⟩⟩
    | succ m =>
     have hms : m < l.length := by have := HK.out; omega
     have hmp : m < p.length := by have := HPL.out; omega
     rw [show (((m + 1 : Nat) : Int) - 1) = (m : Int) from by omega]
     have hm0 : (0 : Int) ≤ m := by omega
     have hm1 : (m : Int) < (p.length : Int) := by omega
     have hm6 : (m : Int) < 64 := by omega
     have HT : Aside0 (downS p l m (turnS p l s m) = downS p l l.length stA) := ⟨HD.out⟩
     have hsh := HS.out.2 m hmp
     obtain ⟨n, hn⟩ := Int.eq_ofNat_of_zero_le hsh.1.1
     have HN : Aside0 ((rd_T37 p (m : Int)).f4 = n ∧ n ≤ 4) := ⟨hn, by have := hsh.1.2; omega⟩
     obtain ⟨ad, A7, c7, e0, x0, x1, x2, x3, x4, x5, x6, x7, _, _⟩ := at_T37 (Kd.C_below HR1.out HBd.out) (m : Int) hm0 hm1
     subst e0
     rw [Int.toNat_natCast] at x2
     clear x0 x1 x3 x4 x5 x6 x7 hn hsh HD
     have yp : wr.cell? ⟨w.heap.size, 0, none⟩ = some (.slice (some ad) p.length cp) := (blk_cell (blk_below HP2.out HBd.out) 0).trans rfl
     obtain ⟨sub, hsub⟩ : ∃ b, (rd_T37 p (m : Int)).f2 = b := ⟨_, rfl⟩
     rw [hsub] at x2
     have HSUB := Aside0.mk hsub
     have HHM := Aside0.mk (And.intro hms hmp)
     clear hsub
     obtain ⟨s1, hs1⟩ : ∃ s1, (if sub then s.setIt m (sagaS n (s.bo m) (s.it m)) else s.setIt m (stepS (rd_T59 l (m : Int)))) = s1 := ⟨_, rfl⟩
     have HS1 := Aside0.mk hs1
     clear hs1
     by_cases hz : m = 0
     ·have hmz : ¬ (m : Int) > 0 := by omega
      have HZ := Aside0.mk hz
      clear hz
      have HT2 : Aside0 (turnS p l s m = s1) := ⟨by unfold turnS; rw [HSUB.out, HN.out.1, Int.toNat_natCast]; rw [if_pos HZ.out]; exact HS1.out⟩
      cases sub
      all_goals
       go_wp2_with (first
        | (go_at_call 36; refine (saga_walk p (some ad) cp _ s w2 _ g m n HR1.out HBd.out HGE.out HGd.out HHM.out.2 HS.out.1 HN.out.1 HN.out.2).mono ?_; rintro e w3 ⟨rfl, hb3, hG3⟩; have HB3 := Aside0.mk hb3; have HG3 := Aside0.mk hG3; clear hb3 hG3)
        | (go_at_call 37; refine (step_walk l A2 c2 _ s w2 _ g m HL2.out HBd.out HGE.out HGd.out HHM.out.1 (by have := HPL.out; have := HS.out.1; omega)).mono ?_; rintro e w3 ⟨rfl, hb3, hG3⟩; have HB3 := Aside0.mk hb3; have HG3 := Aside0.mk hG3; clear hb3 hG3))
       go_roundg m
       case measure => omega
       case rel => exact ⟨s1, by go_num, ⟨Nat.le_of_lt HHM.out.1⟩, HB3, ⟨by rw [← HS1.out]; exact HG3.out⟩, ⟨by rw [← HT2.out]; exact HT.out⟩⟩
     ·have hmpos : (0 : Int) < m := by omega
      have hsh := HS.out.2 m hmp
      obtain ⟨q1, q2, q3, q4⟩ := hsh.2 hz
      obtain ⟨j, hj⟩ := Int.eq_ofNat_of_zero_le q1
      obtain ⟨k, hk⟩ := Int.eq_ofNat_of_zero_le q3
      have HJ : Aside0 ((rd_T37 p (m : Int)).f5 = j ∧ (rd_T37 p (m : Int)).f6 = k ∧ j < 64 ∧ k < 4) := ⟨hj, hk, by omega, by omega⟩
      have HT2 : Aside0 (turnS p l s m = handS (rd_T37 p (m : Int)).f3 (rd_T59 l (m : Int)).f0 (s1.it m) s1 j k) := ⟨by unfold turnS; rw [HSUB.out, HN.out.1, Int.toNat_natCast, HJ.out.1, HJ.out.2.1, Int.toNat_natCast, Int.toNat_natCast]; rw [if_neg hz]; rw [← HS1.out]⟩
      clear hsh q1 q2 q3 q4 hj hk
      cases sub
      all_goals
       go_wp2_with (first
        | (go_at_call 36; refine (saga_walk p (some ad) cp _ s w2 _ g m n HR1.out HBd.out HGE.out HGd.out HHM.out.2 HS.out.1 HN.out.1 HN.out.2).mono ?_; rintro e w3 ⟨rfl, hb3, hG3⟩; have HB3 := Aside0.mk hb3; have HG3 : Aside0 (BoardAt w3 g (.slice (some ad) p.length cp) (.slice A2 l.length c2) s1) := ⟨by rw [← HS1.out]; exact hG3⟩; clear hb3 hG3)
        | (go_at_call 37; refine (step_walk l A2 c2 _ s w2 _ g m HL2.out HBd.out HGE.out HGd.out HHM.out.1 (by have := HPL.out; have := HS.out.1; omega)).mono ?_; rintro e w3 ⟨rfl, hb3, hG3⟩; have HB3 := Aside0.mk hb3; have HG3 : Aside0 (BoardAt w3 g (.slice (some ad) p.length cp) (.slice A2 l.length c2) s1) := ⟨by rw [← HS1.out]; exact hG3⟩; clear hb3 hG3)
        | (go_at_call 38; refine (hand_walk p (some ad) cp l A2 c2 s1 w2 _ g m j k HR1.out HL2.out HPL.out HB3.out HGE.out HG3.out HHM.out.2 HS.out.1 HJ.out.1 HJ.out.2.1 HJ.out.2.2.1 HJ.out.2.2.2).mono ?_; rintro e w4 ⟨rfl, hb4, hG4⟩; have HB4 := Aside0.mk hb4; have HG4 := Aside0.mk hG4; clear hb4 hG4))
       go_roundg m
       case measure => omega
       case rel => exact ⟨_, by go_num, ⟨Nat.le_of_lt HHM.out.1⟩, HB4, HG4, ⟨by rw [← HT2.out]; exact HT.out⟩⟩
  | succ d =>
   have h64 : (i : Int) < 64 := by omega
   have h0 : (0 : Int) ≤ i := by omega
   have HI := Aside0.mk hi
   have HGE : Aside0 (w2.heap.size ≤ g) := ⟨by omega⟩
   clear hi hg
   go_wp2
   go_loopg [19] 4 (fun kq v19 w' => ∃ k : Nat, k + kq = 4 ∧ v19 = .int .i64 k ∧ Aside0 (Below w2.heap.size w2 w') ∧ Aside0 (BoardAt w' g (.slice Ap p.length cp) (.slice A2 l.length c2) (stB i k)))
   case atStart => exact ⟨0, by omega, rfl, HB, HG⟩
   case round =>
    obtain ⟨k, hk, rfl, HBi, HGi⟩ := hrel
    cases gk with
    | zero =>
     obtain rfl : k = 4 := by omega
     go_wp2
     go_roundg d
     case measure => omega
     case rel => exact ⟨i + 1, by have := HI.out; omega, by go_num, HBi, ⟨stB_row HGi.out⟩⟩
    | succ e =>
     have hk4 : (k : Int) < 4 := by omega
     have hk0 : (0 : Int) ≤ k := by omega
     have hi6 : i < 64 := by omega
     have HK := Aside0.mk hk
     have z0 := HGi.out.cell (386 + i * 12 + k * 3) (by omega)
     have z1 := HGi.out.cell (386 + i * 12 + k * 3 + 1) (by omega)
     have z2 := HGi.out.cell (386 + i * 12 + k * 3 + 2) (by omega)
     have y0 := HGi.out.free (386 + i * 12 + k * 3)
     have y1 := HGi.out.free (386 + i * 12 + k * 3 + 1)
     have y2 := HGi.out.free (386 + i * 12 + k * 3 + 2)
     clear hk
     go_wp2
     go_roundg e
     case measure => omega
     case rel => exact ⟨k + 1, by have := HK.out; omega, by go_num, ⟨((HBi.out.setCell HGE.out _).setCell HGE.out _).setCell HGE.out _⟩, ⟨stB_next (HGi.out.putBy i k hi6 (by omega) ⟨false, true, true⟩)⟩⟩
end Go.Proofs.Ytihpndignekheaa.F
end

section
namespace Go.Proofs.Ytihpndignekheaa.F
open Go.RowKit Go.Proofs.YtihpndignekheaaW.PrintWords Go.Proofs.YtihpndignekheaaW.PrintLast Go.Proofs.YtihpndignekheaaW.PrintMore
attribute [local go_sem] max2_int min2_int max_two min_two max_three min_three max_four min_four
set_option linter.unusedVariables false
set_option linter.unusedSimpArgs false
structure BdAt (w : World) (g : Nat) (p : List S37) (Ap : Option Addr) (cp : Nat) (l : List S59) (Al : Option Addr) (cl : Nat) (s : St) : Prop where
 bd : BoardAt w g (.slice Ap p.length cp) (.slice Al l.length cl) s
 pl : Kd.C k37 w Ap p.length p
 fl : Kd.C k59 w Al l.length l
 len : l.length = p.length
 few : p.length ≤ 64
theorem BdAt.below {w w' : World} {g : Nat} {p : List S37} {Ap : Option Addr} {cp : Nat} {l : List S59} {Al : Option Addr} {cl : Nat} {s : St} (h : BdAt w g p Ap cp l Al cl s) (hb : Below w.heap.size w w') : BdAt w' g p Ap cp l Al cl s :=
 ⟨blk_below h.bd hb, Kd.C_below h.pl hb, Kd.C_below h.fl hb, h.len, h.few⟩
theorem size_none (w : World) : Calls Try.prog 25 #[.pointer none] w fun e w' => e = .returned (.int .i64 0) ∧ w' = w := by
 go_enter Try.func25, Try.ntmps25
 go_wp2
 go_ret
 exact ⟨rfl, rfl⟩
section
variable {w : World} {g : Nat} {p : List S37} {Ap : Option Addr} {cp : Nat} {l : List S59} {Al : Option Addr} {cl : Nat} {s : St}
theorem size_walk (h : BdAt w g p Ap cp l Al cl s) : Calls Try.prog 25 #[.pointer (some ⟨g, 0, none⟩)] w fun e w' => e = .returned (.int .i64 l.length) ∧ w' = w := by
 have y1 : w.cell? ⟨g, 1, none⟩ = some (.slice Al l.length cl) := h.bd.cell 1 (by omega)
 clear h
 go_enter Try.func25, Try.ntmps25
 go_wp2
 go_ret
 exact ⟨rfl, rfl⟩
def standF (f : S59) : Int := if f.f0 = 0 then 0 else if f.f0 = 1 then 1 else if f.f0 = 3 then 3 else if f.f1 = 0 then 2 else if f.f3 then 5 else 4
theorem stand_walk (f : S59) (w : World) : Calls Try.prog 34 #[.agg #[.int .i64 f.f0, .int .i64 f.f1, .int .i64 f.f2, .bool f.f3]] w fun e w' => e = .returned (.int .i64 (standF f)) ∧ Below w.heap.size w w' := by
 obtain ⟨a, b, c, d⟩ := f
 have HB := Aside0.mk (below_alloc (Below.refl w.heap.size w) (.cells #[.int .i64 a, .int .i64 b, .int .i64 c, .bool d] 59 (0, 0)))
 dsimp only
 go_enter Try.func34, Try.ntmps34
 go_wp2
 all_goals
  go_ret
  refine ⟨?_, HB.out⟩
  unfold standF
  first | rfl | (simp_all; done)
def flagsF (f : Fl) : Int := if f.tc then (if f.dn then 2 else if f.sp then 3 else if f.ha then (if f.cl then 5 else 4) else 1) else 0
def statusB (p : List S37) (l : List S59) (s : St) (i : Nat) : Int := if (rd_T37 p (i : Int)).f2 then flagsF (s.it i) else standF (rd_T59 l (i : Int))
set_option maxHeartbeats 8000000 in
set_option maxRecDepth 100000 in
theorem status_walk (h : BdAt w g p Ap cp l Al cl s) (i : Nat) (hi : i < p.length) : Calls Try.prog 26 #[.pointer (some ⟨g, 0, none⟩), .int .i64 i] w fun e w' => e = .returned (.int .i64 (statusB p l s i)) ∧ Below w.heap.size w w' := by
 have hlen := h.len
 have hfew := h.few
 have hi64 : i < 64 := by omega
 obtain ⟨ad, A7, c7, e0, x0, x1, x2, x3, x4, x5, x6, x7, _, _⟩ := at_T37 h.pl (i : Int) (by omega) (by omega)
 obtain ⟨al, e1, q0, q1, q2, q3⟩ := at_T59 h.fl (i : Int) (by omega) (by omega)
 subst e0
 subst e1
 rw [Int.toNat_natCast] at x2 q0 q1 q2 q3
 have y0 : w.cell? ⟨g, 0, none⟩ = some (.slice (some ad) p.length cp) := h.bd.cell 0 (by omega)
 have y1 : w.cell? ⟨g, 1, none⟩ = some (.slice (some al) l.length cl) := h.bd.cell 1 (by omega)
 have z0 : w.cell? ⟨g, 2 + i * 6, none⟩ = some (.bool (s.it i).cl) := h.bd.it i 0 hi64 (by omega)
 have z1 : w.cell? ⟨g, 2 + i * 6 + 1, none⟩ = some (.bool (s.it i).tc) := h.bd.it i 1 hi64 (by omega)
 have z2 : w.cell? ⟨g, 2 + i * 6 + 2, none⟩ = some (.bool (s.it i).dn) := h.bd.it i 2 hi64 (by omega)
 have z3 : w.cell? ⟨g, 2 + i * 6 + 3, none⟩ = some (.bool (s.it i).sp) := h.bd.it i 3 hi64 (by omega)
 have z4 : w.cell? ⟨g, 2 + i * 6 + 4, none⟩ = some (.bool (s.it i).ha) := h.bd.it i 4 hi64 (by omega)
 have z5 : w.cell? ⟨g, 2 + i * 6 + 5, none⟩ = some (.int .i64 (s.it i).at_) := h.bd.it i 5 hi64 (by omega)
 have h0 : (0 : Int) ≤ i := by omega
 have h1 : (i : Int) < (p.length : Int) := by omega
 have h2 : (i : Int) < (l.length : Int) := by omega
 have h6 : (i : Int) < 64 := by omega
 have HSW := Aside0.mk (fun w => stand_walk (rd_T59 l (i : Int)) w)
 unfold statusB
 obtain ⟨⟨fcl, ftc, fdn, fsp, fha, fat⟩, hf⟩ : ∃ f, s.it i = f := ⟨_, rfl⟩
 rw [hf] at z0 z1 z2 z3 z4 z5 ⊢
 obtain ⟨r, hr⟩ : ∃ r, standF (rd_T59 l (i : Int)) = r := ⟨_, rfl⟩
 rw [hr] at HSW ⊢
 obtain ⟨⟨fa, fb, fc, fd⟩, hff⟩ : ∃ f, rd_T59 l (i : Int) = f := ⟨_, rfl⟩
 rw [hff] at q0 q1 q2 q3 HSW
 obtain ⟨sub, hsub⟩ : ∃ b, (rd_T37 p (i : Int)).f2 = b := ⟨_, rfl⟩
 rw [hsub] at x2 ⊢
 clear h x0 x1 x3 x4 x5 x6 x7 hf hff hr hsub hlen hfew hi64 hi
 cases sub
 case false =>
  go_enter Try.func26, Try.ntmps26
  go_wp2_with (go_at_call 34; refine (HSW.out _).mono ?_; rintro e w2 ⟨rfl, hb⟩; have HB := Aside0.mk hb; clear hb)
  go_ret
  exact ⟨rfl, HB.out⟩
 case true =>
  have HB := Aside0.mk (below_alloc (Below.refl w.heap.size w) (.cells #[.bool fcl, .bool ftc, .bool fdn, .bool fsp, .bool fha, .int .i64 fat] 42 (0, 0)))
  cases ftc
  case' true =>
   cases fdn
   case' false =>
    cases fsp
    case' false =>
     cases fha
     case' true => cases fcl
  all_goals
   go_enter Try.func26, Try.ntmps26
   go_wp2
   go_ret
   exact ⟨rfl, HB.out⟩
end
end Go.Proofs.Ytihpndignekheaa.F
end

section
namespace Go.Proofs.Ytihpndignekheaa.F
open Go.RowKit Go.Proofs.YtihpndignekheaaW.PrintWords Go.Proofs.YtihpndignekheaaW.PrintLast Go.Proofs.YtihpndignekheaaW.PrintMore
attribute [local go_sem] max2_int min2_int max_two min_two max_three min_three max_four min_four
set_option linter.unusedVariables false
set_option linter.unusedSimpArgs false
def subB (p : List S37) (i : Int) : Bool := decide (0 ≤ i) && (decide (i < (p.length : Int)) && (rd_T37 p i).f2)
theorem sub_none (i : Int) (w : World) : Calls Try.prog 27 #[.pointer none, .int .i64 i] w fun e w' => e = .returned (.bool false) ∧ w' = w := by
 by_cases h : 0 ≤ i
 all_goals
  go_enter Try.func27, Try.ntmps27
  go_wp2_with (go_at_call 25; refine (size_none _).mono ?_; rintro e w2 ⟨rfl, rfl⟩)
  go_ret
  exact ⟨by simp; try omega, rfl⟩
section
variable {w : World} {g : Nat} {p : List S37} {Ap : Option Addr} {cp : Nat} {l : List S59} {Al : Option Addr} {cl : Nat} {s : St}
set_option maxHeartbeats 4000000 in
theorem sub_walk (h : BdAt w g p Ap cp l Al cl s) (i : Int) : Calls Try.prog 27 #[.pointer (some ⟨g, 0, none⟩), .int .i64 i] w fun e w' => e = .returned (.bool (subB p i)) ∧ w' = w := by
 have hlen : (l.length : Int) = p.length := by have := h.len; omega
 have HZ := Aside0.mk (size_walk h)
 unfold subB
 by_cases h0 : 0 ≤ i
 ·by_cases h1 : i < (p.length : Int)
  ·obtain ⟨ad, A7, c7, e0, x0, x1, x2, x3, x4, x5, x6, x7, _, _⟩ := at_T37 h.pl i h0 h1
   subst e0
   have y0 : w.cell? ⟨g, 0, none⟩ = some (.slice (some ad) p.length cp) := h.bd.cell 0 (by omega)
   have h2 : i < (l.length : Int) := by omega
   clear x0 x1 x3 x4 x5 x6 x7 h hlen
   go_enter Try.func27, Try.ntmps27
   go_wp2_with (go_at_call 25; refine HZ.out.mono ?_; rintro e w2 ⟨rfl, rfl⟩)
   go_ret
   exact ⟨by simp [h0, h1]; try (intros; omega), rfl⟩
  ·have h2 : ¬ i < (l.length : Int) := by omega
   clear h hlen
   go_enter Try.func27, Try.ntmps27
   go_wp2_with (go_at_call 25; refine HZ.out.mono ?_; rintro e w2 ⟨rfl, rfl⟩)
   go_ret
   exact ⟨by simp [h0, h1]; try (intros; omega), rfl⟩
 ·clear h hlen
  go_enter Try.func27, Try.ntmps27
  go_wp2_with (go_at_call 25; refine HZ.out.mono ?_; rintro e w2 ⟨rfl, rfl⟩)
  go_ret
  exact ⟨by simp [h0]; try (intros; omega), rfl⟩
end
theorem at_none (i : Int) (w : World) : Calls Try.prog 15 #[.pointer none, .int .i64 i] w fun e w' => e = .returned (.int .i64 0) ∧ w' = w := by
 go_enter Try.func15, Try.ntmps15
 go_wp2_with (go_at_call 25; refine (size_none _).mono ?_; rintro e w2 ⟨rfl, rfl⟩)
 go_ret
 exact ⟨rfl, rfl⟩
theorem falling_none (i a : Int) (w : World) : Calls Try.prog 16 #[.pointer none, .int .i64 i, .int .i64 a] w fun e w' => e = .returned (.bool false) ∧ w' = w := by
 go_enter Try.func16, Try.ntmps16
 go_wp2_with (go_at_call 27; refine (sub_none _ _).mono ?_; rintro e w2 ⟨rfl, rfl⟩)
 go_ret
 exact ⟨rfl, rfl⟩
theorem verdict_none (w : World) : Calls Try.prog 14 #[.pointer none] w fun e w' => e = .returned (.int .i64 0) ∧ w' = w := by
 go_enter Try.func14, Try.ntmps14
 go_wp2_with (go_at_call 25; refine (size_none _).mono ?_; rintro e w2 ⟨rfl, rfl⟩)
 go_ret
 exact ⟨rfl, rfl⟩
section
variable {w : World} {g : Nat} {p : List S37} {Ap : Option Addr} {cp : Nat} {l : List S59} {Al : Option Addr} {cl : Nat} {s : St}
def atB (p : List S37) (s : St) (i : Int) : Int := if subB p i then (s.it i.toNat).at_ else -1
set_option maxHeartbeats 4000000 in
theorem at_walk (h : BdAt w g p Ap cp l Al cl s) (hp : 0 < p.length) (i : Int) : Calls Try.prog 15 #[.pointer (some ⟨g, 0, none⟩), .int .i64 i] w fun e w' => e = .returned (.int .i64 (atB p s i)) ∧ w' = w := by
 have HZ := Aside0.mk (size_walk h)
 have HS := Aside0.mk (sub_walk h i)
 have hl : ¬ (l.length : Int) = 0 := by have := h.len; omega
 unfold atB
 cases hb : subB p i with
 | false =>
  rw [hb] at HS
  clear h hb
  go_enter Try.func15, Try.ntmps15
  go_wp2_with (first
   | (go_at_call 25; refine HZ.out.mono ?_; rintro e w2 ⟨rfl, rfl⟩)
   | (go_at_call 27; refine HS.out.mono ?_; rintro e w2 ⟨rfl, rfl⟩))
  go_ret
  exact ⟨rfl, rfl⟩
 | true =>
  have hx := hb
  unfold subB at hx
  simp only [Bool.and_eq_true, decide_eq_true_eq] at hx
  obtain ⟨n, rfl⟩ := Int.eq_ofNat_of_zero_le hx.1
  have h6 : (n : Int) < 64 := by have := h.few; omega
  have z5 : w.cell? ⟨g, 2 + n * 6 + 5, none⟩ = some (.int .i64 (s.it n).at_) := h.bd.it n 5 (by omega) (by omega)
  have h0 : (0 : Int) ≤ n := by omega
  rw [hb] at HS
  clear h hb hx
  go_enter Try.func15, Try.ntmps15
  go_wp2_with (first
   | (go_at_call 25; refine HZ.out.mono ?_; rintro e w2 ⟨rfl, rfl⟩)
   | (go_at_call 27; refine HS.out.mono ?_; rintro e w2 ⟨rfl, rfl⟩))
  go_ret
  exact ⟨by simp, rfl⟩
def verdictB (p : List S37) (l : List S59) (s : St) : Int := max 1 (statusB p l s 0)
set_option maxHeartbeats 4000000 in
theorem verdict_walk (h : BdAt w g p Ap cp l Al cl s) (hp : 0 < p.length) : Calls Try.prog 14 #[.pointer (some ⟨g, 0, none⟩)] w fun e w' => e = .returned (.int .i64 (verdictB p l s)) ∧ Below w.heap.size w w' := by
 have HZ := Aside0.mk (size_walk h)
 have HS := Aside0.mk (status_walk h 0 hp)
 have hl : ¬ (l.length : Int) = 0 := by have := h.len; omega
 clear h
 unfold verdictB
 go_enter Try.func14, Try.ntmps14
 go_wp2_with (first
  | (go_at_call 25; refine HZ.out.mono ?_; rintro e w2 ⟨rfl, rfl⟩)
  | (go_at_call 26; refine HS.out.mono ?_; rintro e w2 ⟨rfl, hb⟩; have HB := Aside0.mk hb; clear hb))
 all_goals
  go_ret
  refine ⟨?_, HB.out⟩
  show Ending.returned (.int .i64 _) = Ending.returned (.int .i64 _)
  congr 2
  omega
end
end Go.Proofs.Ytihpndignekheaa.F
end

section
namespace Go.Proofs.Ytihpndignekheaa.F
open Go.RowKit Go.Proofs.YtihpndignekheaaW.PrintWords Go.Proofs.YtihpndignekheaaW.PrintLast Go.Proofs.YtihpndignekheaaW.PrintMore
attribute [local go_sem] max2_int min2_int max_two min_two max_three min_three max_four min_four
set_option linter.unusedVariables false
set_option linter.unusedSimpArgs false
theorem all_none (w : World) : Calls Try.prog 13 #[.pointer none] w fun e w' => ∃ v, e = .returned v ∧ Kd.R (Kd.int .i64) 32 w' w.heap.size (fun _ => True) v [] ∧ Below w.heap.size w w' := by
 go_enter Try.func13, Try.ntmps13
 go_wp2_with (go_at_call 25; refine (size_none _).mono ?_; rintro e w2 ⟨rfl, rfl⟩)
 go_loopg [3, 7] 0 (fun kq v3 v7 w' => v3 = .slice none 0 0 ∧ v7 = .int .i64 0 ∧ Aside0 (w' = w2))
 case atStart => exact ⟨rfl, rfl, ⟨rfl⟩⟩
 case round =>
  obtain ⟨rfl, rfl, HW⟩ := hrel
  go_wp2
  go_ret
  exact ⟨_, rfl, Kd.R_nil _ _ _ _ _, by rw [HW.out]; exact Below.refl _ _⟩
section
variable {w : World} {g : Nat} {p : List S37} {Ap : Option Addr} {cp : Nat} {l : List S59} {Al : Option Addr} {cl : Nat} {s : St}
def allB (p : List S37) (l : List S59) (s : St) : List Int := (List.range' 0 p.length).map (statusB p l s)
set_option maxHeartbeats 8000000 in
set_option maxRecDepth 100000 in
theorem all_walk (h : BdAt w g p Ap cp l Al cl s) : Calls Try.prog 13 #[.pointer (some ⟨g, 0, none⟩)] w fun e w' => ∃ v, e = .returned v ∧ Kd.R (Kd.int .i64) 32 w' w.heap.size (fun _ => True) v (allB p l s) ∧ Below w.heap.size w w' := by
 have HZ := Aside0.mk (size_walk h)
 have HH := Aside0.mk h
 have hlen := h.len
 have hfew := h.few
 have hl64 : (l.length : Int) ≤ 64 := by omega
 have HLN := Aside0.mk hlen
 clear h hfew hlen
 go_enter Try.func13, Try.ntmps13
 go_wp2_with (go_at_call 25; refine HZ.out.mono ?_; rintro e w2 ⟨rfl, rfl⟩)
 go_loopg [3, 7] l.length (fun kq v3 v7 w' => ∃ (i : Nat) (out : List Int), i + kq = l.length ∧ v7 = .int .i64 i ∧ (∃ A c, v3 = .slice A out.length c) ∧ Aside0 (out.length = i) ∧ Aside0 (out ++ (List.range' i kq).map (statusB p l s) = allB p l s) ∧ Aside0 (Kd.R (Kd.int .i64) 32 w' w2.heap.size (fun _ => True) v3 out) ∧ Aside0 (Below w2.heap.size w2 w'))
 case atStart => exact ⟨0, [], by omega, rfl, ⟨none, 0, rfl⟩, ⟨rfl⟩, ⟨by unfold allB; rw [HLN.out]; rfl⟩, ⟨Kd.R_nil _ _ _ _ _⟩, ⟨Below.refl _ _⟩⟩
 case round =>
  obtain ⟨i, out, hi, rfl, ⟨A, c, rfl⟩, HO1, HA, HO, HB⟩ := hrel
  cases gk with
  | zero =>
   obtain rfl : i = l.length := by omega
   have HA2 : Aside0 (out = allB p l s) := ⟨by have := HA.out; simpa using this⟩
   clear hi HA
   go_wp2
   go_ret
   exact ⟨_, rfl, by rw [← HA2.out]; exact HO.out, HB.out⟩
  | succ d =>
   have hlt : (i : Int) < (l.length : Int) := by omega
   have HI := Aside0.mk hi
   have HST := Aside0.mk (fun (W : World) (hb : Below w2.heap.size w2 W) => status_walk (HH.out.below hb) i (by have := HLN.out; omega))
   have HA2 : Aside0 ((out ++ [statusB p l s i]) ++ (List.range' (i + 1) d).map (statusB p l s) = allB p l s) := ⟨by have := HA.out; rw [List.range'_succ] at this; simpa using this⟩
   have HOL : Aside0 (out.length < 64) := ⟨by have := HO1.out; omega⟩
   generalize statusB p l s i = x at HST HA2
   clear hi HA
   go_wp2_with (first
    | (go_at_call 26; refine (HST.out _ HB.out).mono ?_; rintro e w3 ⟨rfl, hb⟩; have HB3 := Aside0.mk (HB.out.trans (hb.mono HB.out.size)); have HO3 := Aside0.mk (Kd.R_below HO.out hb); clear hb)
    | (((with_reducible refine gate_builtin (b := .append) (xs := #[.tmp 10, .tmp 14]) rfl ?_); (try (refine gate_guard (by rfl) ?_; dsimp only)); at_builtin; refine Kd.R_append (Kd.int .i64) (w0 := w2) w2.heap.size rfl (.tmp 10) (.tmp 14) 28 32 (.int .i64 0) 8 rfl Try.underlying28 info32 rfl (by decide) (by omega) (.slice A out.length c) out x [.int .i64 x] (fun _ => True) (fun _ => False) rfl (by simp [Act.eval]) ?aP (fun _ hk => hk.elim) ?aF ?aO ?aB ?aS ?aL ?_; (case aP => exact rfl); (case aF => exact (fun _ _ => trivial)); (case aO => exact (by (with_reducible repeat (first | apply Kd.R_alloc | apply Kd.R_drewN | apply Kd.R_drew)); exact HO3.out)); (case aB => exact HB3.out); (case aS => exact HB3.out.size); (case aL => have := HOL.out; omega); intro v4 w4 ho hb hg hat; have HO4 := Aside0.mk ho; have HB4 := Aside0.mk hb; obtain ⟨A4, c4, hv4⟩ := Kd.R_slice ho; clear ho hb hg hat)))
   subst hv4
   go_roundg d
   case measure => omega
   case rel => exact ⟨i + 1, out ++ [x], by have := HI.out; omega, by go_num, ⟨A4, c4, by simp⟩, ⟨by have := HO1.out; simp; omega⟩, HA2, ⟨by have h := HO4.out; simpa using h⟩, HB4⟩
end
end Go.Proofs.Ytihpndignekheaa.F
end

section
namespace Go.Proofs.Ytihpndignekheaa.F
open Go.RowKit Go.Proofs.YtihpndignekheaaW.PrintWords Go.Proofs.YtihpndignekheaaW.PrintLast Go.Proofs.YtihpndignekheaaW.PrintMore
attribute [local go_sem] max2_int min2_int max_two min_two max_three min_three max_four min_four
set_option linter.unusedVariables false
set_option linter.unusedSimpArgs false
abbrev kV (f : S59) (t : Int) : Value := .agg #[.int .i64 f.f0, .int .i64 f.f1, .int .i64 f.f2, .bool f.f3, .int .i64 t]
abbrev factV (f : S59) : Value := .agg #[.int .i64 f.f0, .int .i64 f.f1, .int .i64 f.f2, .bool f.f3]
theorem bel_drew {B : Nat} {a w : World} (h : Below B a w) : Below B a w.drew := below_drewN h 1
theorem blk2_ (w : World) (o1 o2 : Obj) : ((w.alloc o1).alloc o2).heap[w.heap.size + 1]? = some o2 := by
 have h := blk_new (w.alloc o1) o2
 rwa [show (w.alloc o1).heap.size = w.heap.size + 1 from by simp] at h
theorem known_start_walk (f : S59) (t : Int) (w : World) : Calls Try.prog 53 #[kV f t] w fun e w' => e = .returned (.tuple #[factV ⟨1, 0, 0, false⟩, .bool (f.f0 == 0)]) ∧ Below w.heap.size w w' := by
 obtain ⟨f0, f1, f2, f3⟩ := f
 unfold kV
 go_enter Try.func53, Try.ntmps53
 go_wp2
 go_region
 go_wp2
 refine bodyPost_ret (results_ct rfl _ _ (w.heap.size + 1) 59 #[.int .i64 1, .int .i64 0, .int .i64 0, .bool false] (0, 0) _ rfl (blk_drew (blk2_ _ _ _)) Try.underlying59 rfl (by kernel_rfl)) rfl ?_
 exact ⟨rfl, bel_drew (below_alloc (below_alloc (Below.refl _ _) _) _)⟩
theorem known_ok_walk (f : S59) (t : Int) (w : World) : Calls Try.prog 54 #[kV f t] w fun e w' => e = .returned (.tuple #[factV ⟨2, 0, 0, false⟩, .bool (f.f0 == 1)]) ∧ Below w.heap.size w w' := by
 obtain ⟨f0, f1, f2, f3⟩ := f
 unfold kV
 go_enter Try.func54, Try.ntmps54
 go_wp2
 go_region
 go_wp2
 refine bodyPost_ret (results_ct rfl _ _ (w.heap.size + 1) 59 #[.int .i64 2, .int .i64 0, .int .i64 0, .bool false] (0, 0) _ rfl (blk_drew (blk2_ _ _ _)) Try.underlying59 rfl (by kernel_rfl)) rfl ?_
 exact ⟨rfl, bel_drew (below_alloc (below_alloc (Below.refl _ _) _) _)⟩
theorem known_fail_walk (f : S59) (t : Int) (w : World) : Calls Try.prog 55 #[kV f t] w fun e w' => e = .returned (.tuple #[factV ⟨3, 0, 0, false⟩, .bool (f.f0 == 1)]) ∧ Below w.heap.size w w' := by
 obtain ⟨f0, f1, f2, f3⟩ := f
 unfold kV
 go_enter Try.func55, Try.ntmps55
 go_wp2
 go_region
 go_wp2
 refine bodyPost_ret (results_ct rfl _ _ (w.heap.size + 1) 59 #[.int .i64 3, .int .i64 0, .int .i64 0, .bool false] (0, 0) _ rfl (blk_drew (blk2_ _ _ _)) Try.underlying59 rfl (by kernel_rfl)) rfl ?_
 exact ⟨rfl, bel_drew (below_alloc (below_alloc (Below.refl _ _) _) _)⟩
theorem known_undo_walk (f : S59) (t : Int) (w : World) : Calls Try.prog 56 #[kV f t] w fun e w' => e = .returned (.tuple #[factV ⟨f.f0, wrap64 (f.f1 + 1), f.f2, f.f3⟩, .bool (f.f0 == 2 && !f.f3 && f.f1 == t && f.f2 == t)]) ∧ Below w.heap.size w w' := by
 obtain ⟨f0, f1, f2, f3⟩ := f
 unfold kV factV
 cases c0 : f0 == 2
 case' true =>
  cases f3
  case' false => cases c1 : f1 == t
 all_goals
  go_enter Try.func56, Try.ntmps56
  go_wp2
  go_region
  go_wp2
  refine bodyPost_ret (results_ct rfl _ _ (w.heap.size + 1) 59 #[_, _, _, _] (0, 0) _ rfl (blk_drew (blk_alloc (blk2_ _ _ _) _)) Try.underlying59 rfl (by kernel_rfl)) rfl ?_
  exact ⟨rfl, bel_drew (below_alloc (below_alloc (below_alloc (Below.refl _ _) _) _) _)⟩
set_option maxHeartbeats 8000000 in
theorem known_undone_walk (f : S59) (t : Int) (w : World) : Calls Try.prog 57 #[kV f t] w fun e w' => e = .returned (.tuple #[factV ⟨f.f0, f.f1, f.f2, true⟩, .bool (f.f1 == wrap64 (f.f2 + 1) && !f.f3 && f.f2 == t)]) ∧ Below w.heap.size w w' := by
 obtain ⟨f0, f1, f2, f3⟩ := f
 unfold kV factV
 cases c1 : f1 == wrap64 (f2 + 1)
 case' true => cases f3
 all_goals
  go_enter Try.func57, Try.ntmps57
  go_wp2
  go_region_calls
 all_goals
  go_wp2
  refine bodyPost_ret (results_ct rfl _ _ (w.heap.size + 1) 59 #[_, _, _, _] (0, 0) _ rfl (by repeat (first | refine blk_drew ?_ | exact blk2_ _ _ _ | refine blk_alloc ?_ _)) Try.underlying59 rfl (by kernel_rfl)) rfl ?_
  exact ⟨rfl, by repeat (first | exact Below.refl _ _ | refine bel_drew ?_ | refine below_alloc ?_ _)⟩
end Go.Proofs.Ytihpndignekheaa.F
end

section
namespace Go.Proofs.Ytihpndignekheaa.F
open Go.RowKit Go.Proofs.YtihpndignekheaaW.PrintWords Go.Proofs.YtihpndignekheaaW.PrintLast Go.Proofs.YtihpndignekheaaW.PrintMore
attribute [local go_sem] max2_int min2_int max_two min_two max_three min_three max_four min_four
set_option linter.unusedVariables false
set_option linter.unusedSimpArgs false
def fact_known_open.f (a0_0 : Int) (a0_1 : Int) (a0_2 : Int) (a0_3 : Bool) (a0_4 : Int) : Option (Bool) := if a0_1 = (wrap64 (a0_2 + 1)) then (if a0_3 = true then (some false) else (some (a0_2 == a0_4))) else (some false)
set_option maxHeartbeats 8000000 in
set_option maxRecDepth 100000 in
theorem fact_known_open.calls (a0_0 : Int) (a0_1 : Int) (a0_2 : Int) (a0_3 : Bool) (a0_4 : Int) (r : Bool) (w : World) (h : fact_known_open.f a0_0 a0_1 a0_2 a0_3 a0_4 = some r) :
  Calls Try.prog 67 #[.agg #[.int .i64 a0_0, .int .i64 a0_1, .int .i64 a0_2, .bool a0_3, .int .i64 a0_4]] w fun e w' => e = .returned (.bool r) ∧ Below w.heap.size w w' := by
 have hu96 := Try.underlying96
 have HB := Aside0.mk (Below.refl w.heap.size w)
 have H : (if a0_1 = (wrap64 (a0_2 + 1)) then (if a0_3 = true then (some false) else (some (a0_2 == a0_4))) else (some false)) = some r := h
 clear h
 by_cases c2 : a0_1 = (wrap64 (a0_2 + 1))
 ·rw [if_pos c2] at H
  have c2b0 : (a0_1 == (wrap64 (a0_2 + 1))) = true := beq_iff_eq.mpr c2
  have c2b1 : (a0_1 != (wrap64 (a0_2 + 1))) = false := bne_eq_false_iff_eq.mpr c2
  clear c2
  by_cases c3 : a0_3 = true
  ·subst c3
   have H1 : (some false) = some r := by rw [if_pos rfl] at H; exact H
   clear H
   have H := H1
   clear H1
   obtain rfl := Option.some.inj H
   go_enter Try.func67, Try.ntmps67
   go_wp2_with (first | ((with_reducible refine gate_dst (N := 1) rfl ?_); refine box_event ?hg (N := 1) ?hd (cs := #[.int .i64 a0_0, .int .i64 a0_1, .int .i64 a0_2, .bool true, .int .i64 a0_4]) (t := 96) ?hr ?_; (case hd => rfl); (case hg => rfl); (case hr => first | (go_simp; done) | (go_simp; rfl)); intro gb137 hg w4 hbox hb; have n0_ := Aside0.mk (below_step (by repeat (first | (with_reducible first | exact HB.out | apply below_alloc | apply pw_below_drewN | apply below_drew1) | exact HB.out)) hb); have n1_ := Aside0.mk (hbox); have n2_ := Aside0.mk ((by rw [hg]; exact (below_size (by repeat (first | (with_reducible first | exact HB.out | apply below_alloc | apply pw_below_drewN | apply below_drew1) | exact HB.out))) : w.heap.size ≤ gb137)); have n3_ := Aside0.mk ((by rw [hg]; exact (below_size (by repeat (first | (with_reducible first | exact HB.out | apply below_alloc | apply pw_below_drewN | apply below_drew1) | exact HB.out))) : w.heap.size ≤ gb137)); clear HB; have HB := n0_; have BK137 := n1_; have GW137 := n2_; have GE137 := n3_; clear n0_ n1_ n2_ n3_; clear hb hbox hg; have hcz5_0 : w4.cell? ⟨gb137, 0, none⟩ = some (.int .i64 a0_0) := (blk_cell BK137.out 0).trans rfl; have hcz5_1 : w4.cell? ⟨gb137, 1, none⟩ = some (.int .i64 a0_1) := (blk_cell BK137.out 1).trans rfl; have hcz5_2 : w4.cell? ⟨gb137, 2, none⟩ = some (.int .i64 a0_2) := (blk_cell BK137.out 2).trans rfl; have hcz5_3 : w4.cell? ⟨gb137, 3, none⟩ = some (.bool true) := (blk_cell BK137.out 3).trans rfl; have hcz5_4 : w4.cell? ⟨gb137, 4, none⟩ = some (.int .i64 a0_4) := (blk_cell BK137.out 4).trans rfl; have hfz5_0 := blk_frozen BK137.out 0; have hfz5_1 := blk_frozen BK137.out 1; have hfz5_2 := blk_frozen BK137.out 2; have hfz5_3 := blk_frozen BK137.out 3; have hfz5_4 := blk_frozen BK137.out 4))
   go_ret
   exact ⟨by first | rfl | (simp [errW_none, errW_some] <;> rfl) | (simp [*, errW_none, errW_some] <;> rfl), by repeat (first | (with_reducible first | exact HB.out | apply below_alloc | apply pw_below_drewN | apply below_drew1 | refine below_set ?_ GE137.out) | exact HB.out)⟩
  ·replace c3 := Bool.eq_false_iff.mpr c3
   subst c3
   have H1 : (some (a0_2 == a0_4)) = some r := by rw [if_neg (show ¬ (false = true) by decide)] at H; exact H
   clear H
   have H := H1
   clear H1
   obtain rfl := Option.some.inj H
   go_enter Try.func67, Try.ntmps67
   go_wp2_with (first | ((with_reducible refine gate_dst (N := 1) rfl ?_); refine box_event ?hg (N := 1) ?hd (cs := #[.int .i64 a0_0, .int .i64 a0_1, .int .i64 a0_2, .bool false, .int .i64 a0_4]) (t := 96) ?hr ?_; (case hd => rfl); (case hg => rfl); (case hr => first | (go_simp; done) | (go_simp; rfl)); intro gb137 hg w6 hbox hb; have n0_ := Aside0.mk (below_step (by repeat (first | (with_reducible first | exact HB.out | apply below_alloc | apply pw_below_drewN | apply below_drew1) | exact HB.out)) hb); have n1_ := Aside0.mk (hbox); have n2_ := Aside0.mk ((by rw [hg]; exact (below_size (by repeat (first | (with_reducible first | exact HB.out | apply below_alloc | apply pw_below_drewN | apply below_drew1) | exact HB.out))) : w.heap.size ≤ gb137)); have n3_ := Aside0.mk ((by rw [hg]; exact (below_size (by repeat (first | (with_reducible first | exact HB.out | apply below_alloc | apply pw_below_drewN | apply below_drew1) | exact HB.out))) : w.heap.size ≤ gb137)); clear HB; have HB := n0_; have BK137 := n1_; have GW137 := n2_; have GE137 := n3_; clear n0_ n1_ n2_ n3_; clear hb hbox hg; have hcz7_0 : w6.cell? ⟨gb137, 0, none⟩ = some (.int .i64 a0_0) := (blk_cell BK137.out 0).trans rfl; have hcz7_1 : w6.cell? ⟨gb137, 1, none⟩ = some (.int .i64 a0_1) := (blk_cell BK137.out 1).trans rfl; have hcz7_2 : w6.cell? ⟨gb137, 2, none⟩ = some (.int .i64 a0_2) := (blk_cell BK137.out 2).trans rfl; have hcz7_3 : w6.cell? ⟨gb137, 3, none⟩ = some (.bool false) := (blk_cell BK137.out 3).trans rfl; have hcz7_4 : w6.cell? ⟨gb137, 4, none⟩ = some (.int .i64 a0_4) := (blk_cell BK137.out 4).trans rfl; have hfz7_0 := blk_frozen BK137.out 0; have hfz7_1 := blk_frozen BK137.out 1; have hfz7_2 := blk_frozen BK137.out 2; have hfz7_3 := blk_frozen BK137.out 3; have hfz7_4 := blk_frozen BK137.out 4))
   go_ret
   exact ⟨by first | rfl | (simp [errW_none, errW_some] <;> rfl) | (simp [*, errW_none, errW_some] <;> rfl), by repeat (first | (with_reducible first | exact HB.out | apply below_alloc | apply pw_below_drewN | apply below_drew1 | refine below_set ?_ GE137.out) | exact HB.out)⟩
 ·rw [if_neg c2] at H
  have c2b0 : (a0_1 == (wrap64 (a0_2 + 1))) = false := beq_eq_false_iff_ne.mpr c2
  have c2b1 : (a0_1 != (wrap64 (a0_2 + 1))) = true := bne_iff_ne.mpr c2
  obtain rfl := Option.some.inj H
  go_enter Try.func67, Try.ntmps67
  go_wp2_with (first | ((with_reducible refine gate_dst (N := 1) rfl ?_); refine box_event ?hg (N := 1) ?hd (cs := #[.int .i64 a0_0, .int .i64 a0_1, .int .i64 a0_2, .bool a0_3, .int .i64 a0_4]) (t := 96) ?hr ?_; (case hd => rfl); (case hg => rfl); (case hr => first | (go_simp; done) | (go_simp; rfl)); intro gb137 hg w8 hbox hb; have n0_ := Aside0.mk (below_step (by repeat (first | (with_reducible first | exact HB.out | apply below_alloc | apply pw_below_drewN | apply below_drew1) | exact HB.out)) hb); have n1_ := Aside0.mk (hbox); have n2_ := Aside0.mk ((by rw [hg]; exact (below_size (by repeat (first | (with_reducible first | exact HB.out | apply below_alloc | apply pw_below_drewN | apply below_drew1) | exact HB.out))) : w.heap.size ≤ gb137)); have n3_ := Aside0.mk ((by rw [hg]; exact (below_size (by repeat (first | (with_reducible first | exact HB.out | apply below_alloc | apply pw_below_drewN | apply below_drew1) | exact HB.out))) : w.heap.size ≤ gb137)); clear HB; have HB := n0_; have BK137 := n1_; have GW137 := n2_; have GE137 := n3_; clear n0_ n1_ n2_ n3_; clear hb hbox hg; have hcz9_0 : w8.cell? ⟨gb137, 0, none⟩ = some (.int .i64 a0_0) := (blk_cell BK137.out 0).trans rfl; have hcz9_1 : w8.cell? ⟨gb137, 1, none⟩ = some (.int .i64 a0_1) := (blk_cell BK137.out 1).trans rfl; have hcz9_2 : w8.cell? ⟨gb137, 2, none⟩ = some (.int .i64 a0_2) := (blk_cell BK137.out 2).trans rfl; have hcz9_3 : w8.cell? ⟨gb137, 3, none⟩ = some (.bool a0_3) := (blk_cell BK137.out 3).trans rfl; have hcz9_4 : w8.cell? ⟨gb137, 4, none⟩ = some (.int .i64 a0_4) := (blk_cell BK137.out 4).trans rfl; have hfz9_0 := blk_frozen BK137.out 0; have hfz9_1 := blk_frozen BK137.out 1; have hfz9_2 := blk_frozen BK137.out 2; have hfz9_3 := blk_frozen BK137.out 3; have hfz9_4 := blk_frozen BK137.out 4))
  go_ret
  exact ⟨by first | rfl | (simp [errW_none, errW_some] <;> rfl) | (simp [*, errW_none, errW_some] <;> rfl), by repeat (first | (with_reducible first | exact HB.out | apply below_alloc | apply pw_below_drewN | apply below_drew1 | refine below_set ?_ GE137.out) | exact HB.out)⟩
def fact_known_slip.f (a0_0 : Int) (a0_1 : Int) (a0_2 : Int) (a0_3 : Bool) (a0_4 : Int) : Option (Int × Int × Int × Bool × Bool) := (fact_known_open.f a0_0 a0_1 a0_2 a0_3 a0_4).bind fun t141 => (if t141 = true then (some (a0_0, a0_1, wrap64 (a0_2 + 1), a0_3, decide (a0_4 < 3))) else (some (a0_0, a0_1, wrap64 (a0_2 + 1), a0_3, false)))
def fact_known_slip.T3 : Bool × List (List Nat × List Nat) := (true, [([], []), ([], []), ([1], [1]), ([2, 2], [2]), ([3], [3]), ([4, 3], [3, 4]), ([5, 3], [3, 5]), ([3, 6], [3, 6]), ([0, 3, 0], [0]), ([7, 8, 0, 1, 2, 3, 4, 5, 6, 7, 8], [7])])
def fact_known_slip.B3 : List Nat := [0, 0, 2, 6, 14, 30, 62, 126, 15, 511]
theorem fact_known_slip.tab3 : rtab .any (opsOf Try.f58 3) = fact_known_slip.T3 := by kernel_rfl
theorem fact_known_slip.bits3 : waitsOk fact_known_slip.T3.2 fact_known_slip.B3 = true := by kernel_rfl
set_option maxHeartbeats 8000000 in
set_option maxRecDepth 100000 in
theorem fact_known_slip.calls (a0_0 : Int) (a0_1 : Int) (a0_2 : Int) (a0_3 : Bool) (a0_4 : Int) (r1 : Int) (r2 : Int) (r3 : Int) (r4 : Bool) (r5 : Bool) (w : World) (h : fact_known_slip.f a0_0 a0_1 a0_2 a0_3 a0_4 = some (r1, r2, r3, r4, r5)) :
  Calls Try.prog 58 #[.agg #[.int .i64 a0_0, .int .i64 a0_1, .int .i64 a0_2, .bool a0_3, .int .i64 a0_4]] w fun e w' => e = .returned (.tuple #[.agg #[.int .i64 r1, .int .i64 r2, .int .i64 r3, .bool r4], .bool r5]) ∧ Below w.heap.size w w' := by
 have hu96 := Try.underlying96
 have hu59 := Try.underlying59
 have HB := Aside0.mk (Below.refl w.heap.size w)
 have H : ((fact_known_open.f a0_0 a0_1 a0_2 a0_3 a0_4).bind fun t141 => (if t141 = true then (some (a0_0, a0_1, wrap64 (a0_2 + 1), a0_3, decide (a0_4 < 3))) else (some (a0_0, a0_1, wrap64 (a0_2 + 1), a0_3, false)))) = some (r1, r2, r3, r4, r5) := h
 clear h
 replace H := Option.bind_eq_some_iff.mp H
 obtain ⟨t141, A20, H⟩ := H
 replace H : (if t141 = true then (some (a0_0, a0_1, wrap64 (a0_2 + 1), a0_3, decide (a0_4 < 3))) else (some (a0_0, a0_1, wrap64 (a0_2 + 1), a0_3, false))) = some (r1, r2, r3, r4, r5) := H
 have A2 := Aside0.mk A20
 clear A20
 by_cases c3 : t141 = true
 ·subst c3
  have H1 : (some (a0_0, a0_1, wrap64 (a0_2 + 1), a0_3, decide (a0_4 < 3))) = some (r1, r2, r3, r4, r5) := by rw [if_pos rfl] at H; exact H
  clear H
  have H := H1
  clear H1
  simp only [Option.some.injEq, Prod.mk.injEq] at H
  obtain ⟨rfl, rfl, rfl, rfl, rfl⟩ := H
  go_enter Try.func58, Try.ntmps58
  try go_wp2_with (first | ((with_reducible refine gate_dst (N := 1) rfl ?_); refine box_event ?hg (N := 1) ?hd (cs := #[.int .i64 a0_0, .int .i64 a0_1, .int .i64 a0_2, .bool a0_3, .int .i64 a0_4]) (t := 96) ?hr ?_; (case hd => rfl); (case hg => rfl); (case hr => first | (go_simp; done) | (go_simp; rfl)); intro gb138 hg w4 hbox hb; have n0_ := Aside0.mk (below_step (by repeat (first | (with_reducible first | exact HB.out | apply below_alloc | apply pw_below_drewN | apply below_drew1) | exact HB.out)) hb); have n1_ := Aside0.mk (hbox); have n2_ := Aside0.mk ((by rw [hg]; exact (below_size (by repeat (first | (with_reducible first | exact HB.out | apply below_alloc | apply pw_below_drewN | apply below_drew1) | exact HB.out))) : w.heap.size ≤ gb138)); have n3_ := Aside0.mk ((by rw [hg]; exact (below_size (by repeat (first | (with_reducible first | exact HB.out | apply below_alloc | apply pw_below_drewN | apply below_drew1) | exact HB.out))) : w.heap.size ≤ gb138)); clear HB; have HB := n0_; have BK138 := n1_; have GW138 := n2_; have GE138 := n3_; clear n0_ n1_ n2_ n3_; clear hb hbox hg) | ((with_reducible refine gate_dst (N := 2) rfl ?_); refine box_event ?hg (N := 2) ?hd (cs := #[.int .i64 0, .int .i64 0, .int .i64 0, .bool false]) (t := 59) ?hr ?_; (case hd => rfl); (case hg => rfl); (case hr => first | (go_simp; done) | (go_simp; rfl)); intro gb139 hg w5 hbox hb; have n0_ := Aside0.mk (blk_below (g := gb138) (o := .cells #[.int .i64 a0_0, .int .i64 a0_1, .int .i64 a0_2, .bool a0_3, .int .i64 a0_4] 96 (0, 0)) (by (with_reducible repeat (first | refine blk_drewN ?_ _ | refine blk_drew ?_ | refine blk_alloc ?_ _)); exact BK138.out) hb); have n1_ := Aside0.mk (below_step (by repeat (first | (with_reducible first | exact HB.out | apply below_alloc | apply pw_below_drewN | apply below_drew1 | refine below_set ?_ GE138.out) | exact HB.out)) hb); have n2_ := Aside0.mk (hbox); have n3_ := Aside0.mk ((by rw [hg]; exact (below_size (by repeat (first | (with_reducible first | exact HB.out | apply below_alloc | apply pw_below_drewN | apply below_drew1 | refine below_set ?_ GE138.out) | exact HB.out))) : w.heap.size ≤ gb139)); have n4_ := Aside0.mk ((by rw [hg]; exact (below_size (by repeat (first | (with_reducible first | exact HB.out | apply below_alloc | apply pw_below_drewN | apply below_drew1 | refine below_set ?_ GE138.out) | exact HB.out))) : w.heap.size ≤ gb139)); have n5_ := Aside0.mk ((by rw [hg]; exact Nat.ne_of_lt (blk_lt (g := gb138) (o := .cells #[.int .i64 a0_0, .int .i64 a0_1, .int .i64 a0_2, .bool a0_3, .int .i64 a0_4] 96 (0, 0)) (by (with_reducible repeat (first | refine blk_drewN ?_ _ | refine blk_drew ?_ | refine blk_alloc ?_ _)); exact BK138.out)) : gb138 ≠ gb139)); have n6_ := Aside0.mk ((by rw [hg]; exact Nat.ne_of_gt (blk_lt (g := gb138) (o := .cells #[.int .i64 a0_0, .int .i64 a0_1, .int .i64 a0_2, .bool a0_3, .int .i64 a0_4] 96 (0, 0)) (by (with_reducible repeat (first | refine blk_drewN ?_ _ | refine blk_drew ?_ | refine blk_alloc ?_ _)); exact BK138.out)) : gb139 ≠ gb138)); clear BK138; clear HB; have BK138 := n0_; have HB := n1_; have BK139 := n2_; have GW139 := n3_; have GE139 := n4_; have NB138_139 := n5_; have NB139_138 := n6_; clear n0_ n1_ n2_ n3_ n4_ n5_ n6_; clear hb hbox hg; have hnb6 := NB138_139.out; have hnc6 := NB139_138.out; have hcz7_0 : w5.cell? ⟨gb138, 0, none⟩ = some (.int .i64 a0_0) := (blk_cell BK138.out 0).trans rfl; have hcz7_1 : w5.cell? ⟨gb138, 1, none⟩ = some (.int .i64 a0_1) := (blk_cell BK138.out 1).trans rfl; have hcz7_2 : w5.cell? ⟨gb138, 2, none⟩ = some (.int .i64 a0_2) := (blk_cell BK138.out 2).trans rfl; have hcz7_3 : w5.cell? ⟨gb138, 3, none⟩ = some (.bool a0_3) := (blk_cell BK138.out 3).trans rfl; have hcz7_4 : w5.cell? ⟨gb138, 4, none⟩ = some (.int .i64 a0_4) := (blk_cell BK138.out 4).trans rfl; have hfz7_0 := blk_frozen BK138.out 0; have hfz7_1 := blk_frozen BK138.out 1; have hfz7_2 := blk_frozen BK138.out 2; have hfz7_3 := blk_frozen BK138.out 3; have hfz7_4 := blk_frozen BK138.out 4) | ((with_reducible refine gate_dst (N := 4) rfl ?_); refine box_event ?hg (N := 4) ?hd (cs := #[.int .i64 0, .int .i64 0, .int .i64 0, .bool false]) (t := 59) ?hr ?_; (case hd => rfl); (case hg => rfl); (case hr => first | (go_simp; done) | (go_simp; rfl)); intro gb140 hg w8 hbox hb; have n0_ := Aside0.mk (blk_below (g := gb138) (o := .cells #[.int .i64 a0_0, .int .i64 a0_1, .int .i64 a0_2, .bool a0_3, .int .i64 a0_4] 96 (0, 0)) (by (with_reducible repeat (first | refine blk_drewN ?_ _ | refine blk_drew ?_ | refine blk_alloc ?_ _)); exact BK138.out) hb); have n1_ := Aside0.mk (blk_below (g := gb139) (o := .cells #[.int .i64 0, .int .i64 0, .int .i64 0, .bool false] 59 (0, 0)) (by (with_reducible repeat (first | refine blk_drewN ?_ _ | refine blk_drew ?_ | refine blk_alloc ?_ _)); exact BK139.out) hb); have n2_ := Aside0.mk (below_step (by repeat (first | (with_reducible first | exact HB.out | apply below_alloc | apply pw_below_drewN | apply below_drew1 | refine below_set ?_ GE138.out | refine below_set ?_ GE139.out) | exact HB.out)) hb); have n3_ := Aside0.mk (hbox); have n4_ := Aside0.mk ((by rw [hg]; exact (below_size (by repeat (first | (with_reducible first | exact HB.out | apply below_alloc | apply pw_below_drewN | apply below_drew1 | refine below_set ?_ GE138.out | refine below_set ?_ GE139.out) | exact HB.out))) : w.heap.size ≤ gb140)); have n5_ := Aside0.mk ((by rw [hg]; exact (below_size (by repeat (first | (with_reducible first | exact HB.out | apply below_alloc | apply pw_below_drewN | apply below_drew1 | refine below_set ?_ GE138.out | refine below_set ?_ GE139.out) | exact HB.out))) : w.heap.size ≤ gb140)); have n6_ := Aside0.mk ((by rw [hg]; exact Nat.ne_of_lt (blk_lt (g := gb138) (o := .cells #[.int .i64 a0_0, .int .i64 a0_1, .int .i64 a0_2, .bool a0_3, .int .i64 a0_4] 96 (0, 0)) (by (with_reducible repeat (first | refine blk_drewN ?_ _ | refine blk_drew ?_ | refine blk_alloc ?_ _)); exact BK138.out)) : gb138 ≠ gb140)); have n7_ := Aside0.mk ((by rw [hg]; exact Nat.ne_of_gt (blk_lt (g := gb138) (o := .cells #[.int .i64 a0_0, .int .i64 a0_1, .int .i64 a0_2, .bool a0_3, .int .i64 a0_4] 96 (0, 0)) (by (with_reducible repeat (first | refine blk_drewN ?_ _ | refine blk_drew ?_ | refine blk_alloc ?_ _)); exact BK138.out)) : gb140 ≠ gb138)); have n8_ := Aside0.mk ((by rw [hg]; exact Nat.ne_of_lt (blk_lt (g := gb139) (o := .cells #[.int .i64 0, .int .i64 0, .int .i64 0, .bool false] 59 (0, 0)) (by (with_reducible repeat (first | refine blk_drewN ?_ _ | refine blk_drew ?_ | refine blk_alloc ?_ _)); exact BK139.out)) : gb139 ≠ gb140)); have n9_ := Aside0.mk ((by rw [hg]; exact Nat.ne_of_gt (blk_lt (g := gb139) (o := .cells #[.int .i64 0, .int .i64 0, .int .i64 0, .bool false] 59 (0, 0)) (by (with_reducible repeat (first | refine blk_drewN ?_ _ | refine blk_drew ?_ | refine blk_alloc ?_ _)); exact BK139.out)) : gb140 ≠ gb139)); clear BK138; clear BK139; clear HB; have BK138 := n0_; have BK139 := n1_; have HB := n2_; have BK140 := n3_; have GW140 := n4_; have GE140 := n5_; have NB138_140 := n6_; have NB140_138 := n7_; have NB139_140 := n8_; have NB140_139 := n9_; clear n0_ n1_ n2_ n3_ n4_ n5_ n6_ n7_ n8_ n9_; clear hb hbox hg; have hnb9 := NB140_138.out; have hnc9 := NB138_140.out; have hnb10 := NB140_139.out; have hnc10 := NB139_140.out; have hcz11_0 : w8.cell? ⟨gb140, 0, none⟩ = some (.int .i64 0) := (blk_cell BK140.out 0).trans rfl; have hcz11_1 : w8.cell? ⟨gb140, 1, none⟩ = some (.int .i64 0) := (blk_cell BK140.out 1).trans rfl; have hcz11_2 : w8.cell? ⟨gb140, 2, none⟩ = some (.int .i64 0) := (blk_cell BK140.out 2).trans rfl; have hcz11_3 : w8.cell? ⟨gb140, 3, none⟩ = some (.bool false) := (blk_cell BK140.out 3).trans rfl; have hfz11_0 := blk_frozen BK140.out 0; have hfz11_1 := blk_frozen BK140.out 1; have hfz11_2 := blk_frozen BK140.out 2; have hfz11_3 := blk_frozen BK140.out 3))
  have n0_ : Aside0 ((((((w8.setCell ⟨gb140, 0, none⟩ (.int .i64 a0_0)).setCell ⟨gb140, 1, none⟩ (.int .i64 a0_1)).setCell ⟨gb140, 2, none⟩ (.int .i64 a0_2)).setCell ⟨gb140, 3, none⟩ (.bool a0_3)).setCell ⟨gb140, 2, none⟩ (.int .i64 (wrap64 (a0_2 + 1)))).heap[gb138]? = some (.cells #[.int .i64 a0_0, .int .i64 a0_1, .int .i64 a0_2, .bool a0_3, .int .i64 a0_4] 96 (0, 0))) := ⟨by (with_reducible repeat (first | refine blk_drewN ?_ _ | refine blk_drew ?_ | refine blk_alloc ?_ _)); refine blk_far ?_ NB138_140.out _; (with_reducible repeat (first | refine blk_drewN ?_ _ | refine blk_drew ?_ | refine blk_alloc ?_ _)); refine blk_far ?_ NB138_140.out _; (with_reducible repeat (first | refine blk_drewN ?_ _ | refine blk_drew ?_ | refine blk_alloc ?_ _)); refine blk_far ?_ NB138_140.out _; (with_reducible repeat (first | refine blk_drewN ?_ _ | refine blk_drew ?_ | refine blk_alloc ?_ _)); refine blk_far ?_ NB138_140.out _; (with_reducible repeat (first | refine blk_drewN ?_ _ | refine blk_drew ?_ | refine blk_alloc ?_ _)); refine blk_far ?_ NB138_140.out _; (with_reducible repeat (first | refine blk_drewN ?_ _ | refine blk_drew ?_ | refine blk_alloc ?_ _)); exact BK138.out⟩
  have n1_ : Aside0 ((((((w8.setCell ⟨gb140, 0, none⟩ (.int .i64 a0_0)).setCell ⟨gb140, 1, none⟩ (.int .i64 a0_1)).setCell ⟨gb140, 2, none⟩ (.int .i64 a0_2)).setCell ⟨gb140, 3, none⟩ (.bool a0_3)).setCell ⟨gb140, 2, none⟩ (.int .i64 (wrap64 (a0_2 + 1)))).heap[gb139]? = some (.cells #[.int .i64 0, .int .i64 0, .int .i64 0, .bool false] 59 (0, 0))) := ⟨by (with_reducible repeat (first | refine blk_drewN ?_ _ | refine blk_drew ?_ | refine blk_alloc ?_ _)); refine blk_far ?_ NB139_140.out _; (with_reducible repeat (first | refine blk_drewN ?_ _ | refine blk_drew ?_ | refine blk_alloc ?_ _)); refine blk_far ?_ NB139_140.out _; (with_reducible repeat (first | refine blk_drewN ?_ _ | refine blk_drew ?_ | refine blk_alloc ?_ _)); refine blk_far ?_ NB139_140.out _; (with_reducible repeat (first | refine blk_drewN ?_ _ | refine blk_drew ?_ | refine blk_alloc ?_ _)); refine blk_far ?_ NB139_140.out _; (with_reducible repeat (first | refine blk_drewN ?_ _ | refine blk_drew ?_ | refine blk_alloc ?_ _)); refine blk_far ?_ NB139_140.out _; (with_reducible repeat (first | refine blk_drewN ?_ _ | refine blk_drew ?_ | refine blk_alloc ?_ _)); exact BK139.out⟩
  have n2_ : Aside0 ((((((w8.setCell ⟨gb140, 0, none⟩ (.int .i64 a0_0)).setCell ⟨gb140, 1, none⟩ (.int .i64 a0_1)).setCell ⟨gb140, 2, none⟩ (.int .i64 a0_2)).setCell ⟨gb140, 3, none⟩ (.bool a0_3)).setCell ⟨gb140, 2, none⟩ (.int .i64 (wrap64 (a0_2 + 1)))).heap[gb140]? = some (.cells #[.int .i64 a0_0, .int .i64 a0_1, .int .i64 (wrap64 (a0_2 + 1)), .bool a0_3] 59 (0, 0))) := ⟨by (with_reducible repeat (first | refine blk_drewN ?_ _ | refine blk_drew ?_ | refine blk_alloc ?_ _)); refine blk_put (cs := #[.int .i64 a0_0, .int .i64 a0_1, .int .i64 a0_2, .bool a0_3]) ?_ 2 _ rfl; (with_reducible repeat (first | refine blk_drewN ?_ _ | refine blk_drew ?_ | refine blk_alloc ?_ _)); refine blk_put (cs := #[.int .i64 a0_0, .int .i64 a0_1, .int .i64 a0_2, .bool false]) ?_ 3 _ rfl; (with_reducible repeat (first | refine blk_drewN ?_ _ | refine blk_drew ?_ | refine blk_alloc ?_ _)); refine blk_put (cs := #[.int .i64 a0_0, .int .i64 a0_1, .int .i64 0, .bool false]) ?_ 2 _ rfl; (with_reducible repeat (first | refine blk_drewN ?_ _ | refine blk_drew ?_ | refine blk_alloc ?_ _)); refine blk_put (cs := #[.int .i64 a0_0, .int .i64 0, .int .i64 0, .bool false]) ?_ 1 _ rfl; (with_reducible repeat (first | refine blk_drewN ?_ _ | refine blk_drew ?_ | refine blk_alloc ?_ _)); refine blk_put (cs := #[.int .i64 0, .int .i64 0, .int .i64 0, .bool false]) ?_ 0 _ rfl; (with_reducible repeat (first | refine blk_drewN ?_ _ | refine blk_drew ?_ | refine blk_alloc ?_ _)); exact BK140.out⟩
  have n3_ : Aside0 (Below w.heap.size w (((((w8.setCell ⟨gb140, 0, none⟩ (.int .i64 a0_0)).setCell ⟨gb140, 1, none⟩ (.int .i64 a0_1)).setCell ⟨gb140, 2, none⟩ (.int .i64 a0_2)).setCell ⟨gb140, 3, none⟩ (.bool a0_3)).setCell ⟨gb140, 2, none⟩ (.int .i64 (wrap64 (a0_2 + 1))))) := ⟨by repeat (first | (with_reducible first | exact HB.out | apply below_alloc | apply pw_below_drewN | apply below_drew1 | refine below_set ?_ GE138.out | refine below_set ?_ GE139.out | refine below_set ?_ GE140.out) | exact HB.out)⟩
  (try clear BK138)
  (try clear BK139)
  (try clear BK140)
  (try clear HB)
  generalize (((((w8.setCell ⟨gb140, 0, none⟩ (.int .i64 a0_0)).setCell ⟨gb140, 1, none⟩ (.int .i64 a0_1)).setCell ⟨gb140, 2, none⟩ (.int .i64 a0_2)).setCell ⟨gb140, 3, none⟩ (.bool a0_3)).setCell ⟨gb140, 2, none⟩ (.int .i64 (wrap64 (a0_2 + 1)))) = w12 at n0_ n1_ n2_ n3_ ⊢
  have BK138 := n0_
  have BK139 := n1_
  have BK140 := n2_
  have HB := n3_
  clear n0_ n1_ n2_ n3_
  have n0_ := Aside0.mk (blk_drew BK138.out)
  have n1_ := Aside0.mk (blk_drew BK139.out)
  have n2_ := Aside0.mk (blk_drew BK140.out)
  have n3_ := Aside0.mk (below_drew1 HB.out)
  clear BK138
  clear BK139
  clear BK140
  clear HB
  have BK138 := n0_
  have BK139 := n1_
  have BK140 := n2_
  have HB := n3_
  clear n0_ n1_ n2_ n3_
  refine start_ (n := 10) (S := fun w' => w'.cell? ⟨gb140, 0, none⟩ = some (.int .i64 a0_0) ∧ w'.cell? ⟨gb140, 1, none⟩ = some (.int .i64 a0_1) ∧ w'.cell? ⟨gb140, 2, none⟩ = some (.int .i64 (wrap64 (a0_2 + 1))) ∧ w'.cell? ⟨gb140, 3, none⟩ = some (.bool a0_3) ∧ w'.cell? ⟨gb138, 0, none⟩ = some (.int .i64 a0_0) ∧ w'.cell? ⟨gb138, 1, none⟩ = some (.int .i64 a0_1) ∧ w'.cell? ⟨gb138, 2, none⟩ = some (.int .i64 a0_2) ∧ w'.cell? ⟨gb138, 3, none⟩ = some (.bool a0_3) ∧ w'.cell? ⟨gb138, 4, none⟩ = some (.int .i64 a0_4)) (ds := []) #[false, false, false, false, false, false, false, false, false, false] (by kernel_rfl) rfl rfl ⟨(blk_cell BK140.out 0).trans rfl, (blk_cell BK140.out 1).trans rfl, (blk_cell BK140.out 2).trans rfl, (blk_cell BK140.out 3).trans rfl, (blk_cell BK138.out 0).trans rfl, (blk_cell BK138.out 1).trans rfl, (blk_cell BK138.out 2).trans rfl, (blk_cell BK138.out 3).trans rfl, (blk_cell BK138.out 4).trans rfl⟩ (fun hHeld => ?_); refine with_tabW fact_known_slip.tab3 fact_known_slip.bits3 (fun HT_ HW_ => ?_)
  generalize w12.drew = w13 at BK138 BK139 BK140 HB hHeld ⊢
  refine take_ (i := 0) (N := some 11) (v := ?_) (a' := ?_) #[true, false, false, false, false, false, false, false, false, false] rfl rfl (take_ofW HT_.out HW_.out (by kernel_rfl)) (fun _ _ _ h => h) (Or.inl ⟨by rfl, ?_⟩) hHeld ?_ ?_
  rotate_left
  ·rintro w' ⟨s0, s1, s2, s3, s4, s5, s6, s7, s8⟩
   go_simp
   with_reducible rfl
  rotate_left
  ·simp only [Act.put, List.setIfInBounds_toArray, List.set_cons_zero, List.set_cons_succ, i64_w, i32_w]
   rfl
  refine take_ (i := 1) (N := some 12) (v := ?_) (a' := ?_) #[true, true, false, false, false, false, false, false, false, false] rfl rfl (take_ofW HT_.out HW_.out (by kernel_rfl)) (fun _ _ _ h => h) (Or.inl ⟨by rfl, ?_⟩) hHeld ?_ ?_
  rotate_left
  ·rintro w' ⟨s0, s1, s2, s3, s4, s5, s6, s7, s8⟩
   go_simp
   with_reducible rfl
  rotate_left
  ·simp only [Act.put, List.setIfInBounds_toArray, List.set_cons_zero, List.set_cons_succ, i64_w, i32_w]
   rfl
  refine one_ (i := 2) (N := some 13) #[true, true, true, false, false, false, false, false, false, false] rfl rfl (one_of HT_.out (by kernel_rfl)) (by decide) (fun K hK => ?_)
  refine goes_ Try.func67 (by kernel_rfl) rfl #[.agg #[.int .i64 a0_0, .int .i64 a0_1, .int .i64 a0_2, .bool a0_3, .int .i64 a0_4]] (by rfl) rfl rfl (by (try simp only [List.map_toArray, List.map_cons, List.map_nil]); first | done | rfl | (simp only [List.length_drop, List.length_take]; rfl)) ?_
  with_reducible refine (fact_known_open.calls a0_0 a0_1 a0_2 a0_3 a0_4 true _ A2.out).mono ?_
  rintro e w14 ⟨rfl, hb⟩
  refine ⟨_, rfl, ?_⟩
  have n0_ := Aside0.mk (blk_below (g := gb138) (o := .cells #[.int .i64 a0_0, .int .i64 a0_1, .int .i64 a0_2, .bool a0_3, .int .i64 a0_4] 96 (0, 0)) (by (with_reducible repeat (first | refine blk_drewN ?_ _ | refine blk_drew ?_ | refine blk_alloc ?_ _)); exact BK138.out) hb)
  have n1_ := Aside0.mk (blk_below (g := gb139) (o := .cells #[.int .i64 0, .int .i64 0, .int .i64 0, .bool false] 59 (0, 0)) (by (with_reducible repeat (first | refine blk_drewN ?_ _ | refine blk_drew ?_ | refine blk_alloc ?_ _)); exact BK139.out) hb)
  have n2_ := Aside0.mk (blk_below (g := gb140) (o := .cells #[.int .i64 a0_0, .int .i64 a0_1, .int .i64 (wrap64 (a0_2 + 1)), .bool a0_3] 59 (0, 0)) (by (with_reducible repeat (first | refine blk_drewN ?_ _ | refine blk_drew ?_ | refine blk_alloc ?_ _)); exact BK140.out) hb)
  have n3_ := Aside0.mk (below_step (by repeat (first | (with_reducible first | exact HB.out | apply below_alloc | apply pw_below_drewN | apply below_drew1 | refine below_set ?_ GE138.out | refine below_set ?_ GE139.out | refine below_set ?_ GE140.out) | exact HB.out)) hb)
  clear BK138
  clear BK139
  clear BK140
  clear HB
  have BK138 := n0_
  have BK139 := n1_
  have BK140 := n2_
  have HB := n3_
  clear n0_ n1_ n2_ n3_
  (try clear hb)
  (try clear hb2)
  (try clear hk)
  (try clear hi)
  refine hK.out _ _ ⟨(blk_cell BK140.out 0).trans rfl, (blk_cell BK140.out 1).trans rfl, (blk_cell BK140.out 2).trans rfl, (blk_cell BK140.out 3).trans rfl, (blk_cell BK138.out 0).trans rfl, (blk_cell BK138.out 1).trans rfl, (blk_cell BK138.out 2).trans rfl, (blk_cell BK138.out 3).trans rfl, (blk_cell BK138.out 4).trans rfl⟩ (fun hHeld => ?_)
  clear hK K
  refine norm_ (a' := ?_) ?_ ?_
  rotate_left
  ·show Act.put _ (some 13) _ = _
   simp only [Act.put, List.setIfInBounds_toArray, List.set_cons_zero, List.set_cons_succ, i64_w, i32_w]
   rfl
  refine pure_ (i := 3) (N := some 14) (v := ?_) (a' := ?_) #[true, true, true, true, false, false, false, false, false, false] rfl rfl (any_of HT_.out (by kernel_rfl)) (fun _ _ _ h => h) (Or.inl ⟨by rfl, ?_⟩) ?_ ?_
  rotate_left
  ·intro w'
   go_simp
   with_reducible rfl
  rotate_left
  ·simp only [Act.put, List.setIfInBounds_toArray, List.set_cons_zero, List.set_cons_succ, i64_w, i32_w]
   rfl
  refine pure_ (i := 4) (N := some 15) (v := ?_) (a' := ?_) #[true, true, true, true, true, false, false, false, false, false] rfl rfl (any_of HT_.out (by kernel_rfl)) (fun _ _ _ h => h) (Or.inl ⟨by rfl, ?_⟩) ?_ ?_
  rotate_left
  ·intro w'
   go_simp
   with_reducible rfl
  rotate_left
  ·simp only [Act.put, List.setIfInBounds_toArray, List.set_cons_zero, List.set_cons_succ, i64_w, i32_w]
   rfl
  refine take_ (i := 5) (N := some 16) (v := ?_) (a' := ?_) #[true, true, true, true, true, true, false, false, false, false] rfl rfl (take_ofW HT_.out HW_.out (by kernel_rfl)) (fun _ _ _ h => h) (Or.inl ⟨by rfl, ?_⟩) hHeld ?_ ?_
  rotate_left
  ·rintro w' ⟨s0, s1, s2, s3, s4, s5, s6, s7, s8⟩
   go_simp
   with_reducible rfl
  rotate_left
  ·simp only [Act.put, List.setIfInBounds_toArray, List.set_cons_zero, List.set_cons_succ, i64_w, i32_w]
   rfl
  refine pure_ (i := 6) (N := some 17) (v := ?_) (a' := ?_) #[true, true, true, true, true, true, true, false, false, false] rfl rfl (any_of HT_.out (by kernel_rfl)) (fun _ _ _ h => h) (Or.inl ⟨by rfl, ?_⟩) ?_ ?_
  rotate_left
  ·intro w'
   go_simp
   with_reducible rfl
  rotate_left
  ·simp only [Act.put, List.setIfInBounds_toArray, List.set_cons_zero, List.set_cons_succ, i64_w, i32_w]
   rfl
  refine pure_ (i := 7) (N := some 18) (v := ?_) (a' := ?_) #[true, true, true, true, true, true, true, true, false, false] rfl rfl (any_of HT_.out (by kernel_rfl)) (fun _ _ _ h => h) (Or.inl ⟨by rfl, ?_⟩) ?_ ?_
  rotate_left
  ·intro w'
   go_simp
   with_reducible rfl
  rotate_left
  ·simp only [Act.put, List.setIfInBounds_toArray, List.set_cons_zero, List.set_cons_succ, i64_w, i32_w]
   rfl
  refine one_ (i := 8) (N := none) #[true, true, true, true, true, true, true, true, true, false] rfl rfl (one_of HT_.out (by kernel_rfl)) (by decide) (fun K hK => ?_)
  have hs15 : w14.cell? ⟨gb139, 0, none⟩ = some (.int .i64 0) := (blk_cell BK139.out 0).trans rfl
  have hfs15 := blk_frozen BK139.out 0
  have hns15_0 := NB138_139.out
  have hns15_2 := NB140_139.out
  have hms15_0 := NB139_138.out
  have hms15_2 := NB139_140.out
  have hs16 : w14.cell? ⟨gb139, 1, none⟩ = some (.int .i64 0) := (blk_cell BK139.out 1).trans rfl
  have hfs16 := blk_frozen BK139.out 1
  have hns16_0 := NB138_139.out
  have hns16_2 := NB140_139.out
  have hms16_0 := NB139_138.out
  have hms16_2 := NB139_140.out
  have hs17 : w14.cell? ⟨gb139, 2, none⟩ = some (.int .i64 0) := (blk_cell BK139.out 2).trans rfl
  have hfs17 := blk_frozen BK139.out 2
  have hns17_0 := NB138_139.out
  have hns17_2 := NB140_139.out
  have hms17_0 := NB139_138.out
  have hms17_2 := NB139_140.out
  have hs18 : w14.cell? ⟨gb139, 3, none⟩ = some (.bool false) := (blk_cell BK139.out 3).trans rfl
  have hfs18 := blk_frozen BK139.out 3
  have hns18_0 := NB138_139.out
  have hns18_2 := NB140_139.out
  have hms18_0 := NB139_138.out
  have hms18_2 := NB139_140.out
  refine skip_ (w1 := ?_) (by rfl) rfl ?_ ?_
  rotate_left
  ·go_simp
   rfl
  refine hK.out _ _ ⟨((cell_far (p := ⟨gb139, _, none⟩) NB140_139.out _).trans (((cell_far (p := ⟨gb139, _, none⟩) NB140_139.out _).trans (((cell_far (p := ⟨gb139, _, none⟩) NB140_139.out _).trans (((cell_far (p := ⟨gb139, _, none⟩) NB140_139.out _).trans (hHeld.1)))))))), ((cell_far (p := ⟨gb139, _, none⟩) NB140_139.out _).trans (((cell_far (p := ⟨gb139, _, none⟩) NB140_139.out _).trans (((cell_far (p := ⟨gb139, _, none⟩) NB140_139.out _).trans (((cell_far (p := ⟨gb139, _, none⟩) NB140_139.out _).trans (hHeld.2.1)))))))), ((cell_far (p := ⟨gb139, _, none⟩) NB140_139.out _).trans (((cell_far (p := ⟨gb139, _, none⟩) NB140_139.out _).trans (((cell_far (p := ⟨gb139, _, none⟩) NB140_139.out _).trans (((cell_far (p := ⟨gb139, _, none⟩) NB140_139.out _).trans (hHeld.2.2.1)))))))), ((cell_far (p := ⟨gb139, _, none⟩) NB140_139.out _).trans (((cell_far (p := ⟨gb139, _, none⟩) NB140_139.out _).trans (((cell_far (p := ⟨gb139, _, none⟩) NB140_139.out _).trans (((cell_far (p := ⟨gb139, _, none⟩) NB140_139.out _).trans (hHeld.2.2.2.1)))))))), ((cell_far (p := ⟨gb139, _, none⟩) NB138_139.out _).trans (((cell_far (p := ⟨gb139, _, none⟩) NB138_139.out _).trans (((cell_far (p := ⟨gb139, _, none⟩) NB138_139.out _).trans (((cell_far (p := ⟨gb139, _, none⟩) NB138_139.out _).trans (hHeld.2.2.2.2.1)))))))), ((cell_far (p := ⟨gb139, _, none⟩) NB138_139.out _).trans (((cell_far (p := ⟨gb139, _, none⟩) NB138_139.out _).trans (((cell_far (p := ⟨gb139, _, none⟩) NB138_139.out _).trans (((cell_far (p := ⟨gb139, _, none⟩) NB138_139.out _).trans (hHeld.2.2.2.2.2.1)))))))), ((cell_far (p := ⟨gb139, _, none⟩) NB138_139.out _).trans (((cell_far (p := ⟨gb139, _, none⟩) NB138_139.out _).trans (((cell_far (p := ⟨gb139, _, none⟩) NB138_139.out _).trans (((cell_far (p := ⟨gb139, _, none⟩) NB138_139.out _).trans (hHeld.2.2.2.2.2.2.1)))))))), ((cell_far (p := ⟨gb139, _, none⟩) NB138_139.out _).trans (((cell_far (p := ⟨gb139, _, none⟩) NB138_139.out _).trans (((cell_far (p := ⟨gb139, _, none⟩) NB138_139.out _).trans (((cell_far (p := ⟨gb139, _, none⟩) NB138_139.out _).trans (hHeld.2.2.2.2.2.2.2.1)))))))), ((cell_far (p := ⟨gb139, _, none⟩) NB138_139.out _).trans (((cell_far (p := ⟨gb139, _, none⟩) NB138_139.out _).trans (((cell_far (p := ⟨gb139, _, none⟩) NB138_139.out _).trans (((cell_far (p := ⟨gb139, _, none⟩) NB138_139.out _).trans (hHeld.2.2.2.2.2.2.2.2))))))))⟩ (fun hHeld => ?_)
  clear hK K
  refine pure_ (i := 9) (N := some 3) (v := ?_) (a' := ?_) #[true, true, true, true, true, true, true, true, true, true] rfl rfl (any_of HT_.out (by kernel_rfl)) (fun _ _ _ h => h) (Or.inl ⟨by rfl, ?_⟩) ?_ ?_
  rotate_left
  ·intro w'
   go_simp
   with_reducible rfl
  rotate_left
  ·simp only [Act.put, List.setIfInBounds_toArray, List.set_cons_zero, List.set_cons_succ, i64_w, i32_w]
   rfl
  refine done_ (done_of HT_.out (by kernel_rfl)) ?_
  try go_wp2
  refine bodyPost_ret (results_ct rfl _ _ gb139 59 #[.int .i64 a0_0, .int .i64 a0_1, .int .i64 (wrap64 (a0_2 + 1)), .bool a0_3] (0, 0) _ rfl (by (with_reducible repeat (first | refine blk_drewN ?_ _ | refine blk_drew ?_ | refine blk_alloc ?_ _)); refine blk_put (cs := #[.int .i64 a0_0, .int .i64 a0_1, .int .i64 (wrap64 (a0_2 + 1)), .bool false]) ?_ 3 _ rfl; (with_reducible repeat (first | refine blk_drewN ?_ _ | refine blk_drew ?_ | refine blk_alloc ?_ _)); refine blk_put (cs := #[.int .i64 a0_0, .int .i64 a0_1, .int .i64 0, .bool false]) ?_ 2 _ rfl; (with_reducible repeat (first | refine blk_drewN ?_ _ | refine blk_drew ?_ | refine blk_alloc ?_ _)); refine blk_put (cs := #[.int .i64 a0_0, .int .i64 0, .int .i64 0, .bool false]) ?_ 1 _ rfl; (with_reducible repeat (first | refine blk_drewN ?_ _ | refine blk_drew ?_ | refine blk_alloc ?_ _)); refine blk_put (cs := #[.int .i64 0, .int .i64 0, .int .i64 0, .bool false]) ?_ 0 _ rfl; (with_reducible repeat (first | refine blk_drewN ?_ _ | refine blk_drew ?_ | refine blk_alloc ?_ _)); exact BK139.out) Try.underlying59 rfl (by kernel_rfl)) rfl ?_
  exact ⟨by first | rfl | (simp [errW_none, errW_some] <;> rfl) | (simp [*, errW_none, errW_some] <;> rfl), by repeat (first | (with_reducible first | exact HB.out | apply below_alloc | apply pw_below_drewN | apply below_drew1 | refine below_set ?_ GE138.out | refine below_set ?_ GE139.out | refine below_set ?_ GE140.out) | exact HB.out)⟩
 ·replace c3 := Bool.eq_false_iff.mpr c3
  subst c3
  have H1 : (some (a0_0, a0_1, wrap64 (a0_2 + 1), a0_3, false)) = some (r1, r2, r3, r4, r5) := by rw [if_neg (show ¬ (false = true) by decide)] at H; exact H
  clear H
  have H := H1
  clear H1
  simp only [Option.some.injEq, Prod.mk.injEq] at H
  obtain ⟨rfl, rfl, rfl, rfl, rfl⟩ := H
  go_enter Try.func58, Try.ntmps58
  try go_wp2_with (first | ((with_reducible refine gate_dst (N := 1) rfl ?_); refine box_event ?hg (N := 1) ?hd (cs := #[.int .i64 a0_0, .int .i64 a0_1, .int .i64 a0_2, .bool a0_3, .int .i64 a0_4]) (t := 96) ?hr ?_; (case hd => rfl); (case hg => rfl); (case hr => first | (go_simp; done) | (go_simp; rfl)); intro gb138 hg w19 hbox hb; have n0_ := Aside0.mk (below_step (by repeat (first | (with_reducible first | exact HB.out | apply below_alloc | apply pw_below_drewN | apply below_drew1) | exact HB.out)) hb); have n1_ := Aside0.mk (hbox); have n2_ := Aside0.mk ((by rw [hg]; exact (below_size (by repeat (first | (with_reducible first | exact HB.out | apply below_alloc | apply pw_below_drewN | apply below_drew1) | exact HB.out))) : w.heap.size ≤ gb138)); have n3_ := Aside0.mk ((by rw [hg]; exact (below_size (by repeat (first | (with_reducible first | exact HB.out | apply below_alloc | apply pw_below_drewN | apply below_drew1) | exact HB.out))) : w.heap.size ≤ gb138)); clear HB; have HB := n0_; have BK138 := n1_; have GW138 := n2_; have GE138 := n3_; clear n0_ n1_ n2_ n3_; clear hb hbox hg) | ((with_reducible refine gate_dst (N := 2) rfl ?_); refine box_event ?hg (N := 2) ?hd (cs := #[.int .i64 0, .int .i64 0, .int .i64 0, .bool false]) (t := 59) ?hr ?_; (case hd => rfl); (case hg => rfl); (case hr => first | (go_simp; done) | (go_simp; rfl)); intro gb139 hg w20 hbox hb; have n0_ := Aside0.mk (blk_below (g := gb138) (o := .cells #[.int .i64 a0_0, .int .i64 a0_1, .int .i64 a0_2, .bool a0_3, .int .i64 a0_4] 96 (0, 0)) (by (with_reducible repeat (first | refine blk_drewN ?_ _ | refine blk_drew ?_ | refine blk_alloc ?_ _)); exact BK138.out) hb); have n1_ := Aside0.mk (below_step (by repeat (first | (with_reducible first | exact HB.out | apply below_alloc | apply pw_below_drewN | apply below_drew1 | refine below_set ?_ GE138.out) | exact HB.out)) hb); have n2_ := Aside0.mk (hbox); have n3_ := Aside0.mk ((by rw [hg]; exact (below_size (by repeat (first | (with_reducible first | exact HB.out | apply below_alloc | apply pw_below_drewN | apply below_drew1 | refine below_set ?_ GE138.out) | exact HB.out))) : w.heap.size ≤ gb139)); have n4_ := Aside0.mk ((by rw [hg]; exact (below_size (by repeat (first | (with_reducible first | exact HB.out | apply below_alloc | apply pw_below_drewN | apply below_drew1 | refine below_set ?_ GE138.out) | exact HB.out))) : w.heap.size ≤ gb139)); have n5_ := Aside0.mk ((by rw [hg]; exact Nat.ne_of_lt (blk_lt (g := gb138) (o := .cells #[.int .i64 a0_0, .int .i64 a0_1, .int .i64 a0_2, .bool a0_3, .int .i64 a0_4] 96 (0, 0)) (by (with_reducible repeat (first | refine blk_drewN ?_ _ | refine blk_drew ?_ | refine blk_alloc ?_ _)); exact BK138.out)) : gb138 ≠ gb139)); have n6_ := Aside0.mk ((by rw [hg]; exact Nat.ne_of_gt (blk_lt (g := gb138) (o := .cells #[.int .i64 a0_0, .int .i64 a0_1, .int .i64 a0_2, .bool a0_3, .int .i64 a0_4] 96 (0, 0)) (by (with_reducible repeat (first | refine blk_drewN ?_ _ | refine blk_drew ?_ | refine blk_alloc ?_ _)); exact BK138.out)) : gb139 ≠ gb138)); clear BK138; clear HB; have BK138 := n0_; have HB := n1_; have BK139 := n2_; have GW139 := n3_; have GE139 := n4_; have NB138_139 := n5_; have NB139_138 := n6_; clear n0_ n1_ n2_ n3_ n4_ n5_ n6_; clear hb hbox hg; have hnb21 := NB138_139.out; have hnc21 := NB139_138.out; have hcz22_0 : w20.cell? ⟨gb138, 0, none⟩ = some (.int .i64 a0_0) := (blk_cell BK138.out 0).trans rfl; have hcz22_1 : w20.cell? ⟨gb138, 1, none⟩ = some (.int .i64 a0_1) := (blk_cell BK138.out 1).trans rfl; have hcz22_2 : w20.cell? ⟨gb138, 2, none⟩ = some (.int .i64 a0_2) := (blk_cell BK138.out 2).trans rfl; have hcz22_3 : w20.cell? ⟨gb138, 3, none⟩ = some (.bool a0_3) := (blk_cell BK138.out 3).trans rfl; have hcz22_4 : w20.cell? ⟨gb138, 4, none⟩ = some (.int .i64 a0_4) := (blk_cell BK138.out 4).trans rfl; have hfz22_0 := blk_frozen BK138.out 0; have hfz22_1 := blk_frozen BK138.out 1; have hfz22_2 := blk_frozen BK138.out 2; have hfz22_3 := blk_frozen BK138.out 3; have hfz22_4 := blk_frozen BK138.out 4) | ((with_reducible refine gate_dst (N := 4) rfl ?_); refine box_event ?hg (N := 4) ?hd (cs := #[.int .i64 0, .int .i64 0, .int .i64 0, .bool false]) (t := 59) ?hr ?_; (case hd => rfl); (case hg => rfl); (case hr => first | (go_simp; done) | (go_simp; rfl)); intro gb140 hg w23 hbox hb; have n0_ := Aside0.mk (blk_below (g := gb138) (o := .cells #[.int .i64 a0_0, .int .i64 a0_1, .int .i64 a0_2, .bool a0_3, .int .i64 a0_4] 96 (0, 0)) (by (with_reducible repeat (first | refine blk_drewN ?_ _ | refine blk_drew ?_ | refine blk_alloc ?_ _)); exact BK138.out) hb); have n1_ := Aside0.mk (blk_below (g := gb139) (o := .cells #[.int .i64 0, .int .i64 0, .int .i64 0, .bool false] 59 (0, 0)) (by (with_reducible repeat (first | refine blk_drewN ?_ _ | refine blk_drew ?_ | refine blk_alloc ?_ _)); exact BK139.out) hb); have n2_ := Aside0.mk (below_step (by repeat (first | (with_reducible first | exact HB.out | apply below_alloc | apply pw_below_drewN | apply below_drew1 | refine below_set ?_ GE138.out | refine below_set ?_ GE139.out) | exact HB.out)) hb); have n3_ := Aside0.mk (hbox); have n4_ := Aside0.mk ((by rw [hg]; exact (below_size (by repeat (first | (with_reducible first | exact HB.out | apply below_alloc | apply pw_below_drewN | apply below_drew1 | refine below_set ?_ GE138.out | refine below_set ?_ GE139.out) | exact HB.out))) : w.heap.size ≤ gb140)); have n5_ := Aside0.mk ((by rw [hg]; exact (below_size (by repeat (first | (with_reducible first | exact HB.out | apply below_alloc | apply pw_below_drewN | apply below_drew1 | refine below_set ?_ GE138.out | refine below_set ?_ GE139.out) | exact HB.out))) : w.heap.size ≤ gb140)); have n6_ := Aside0.mk ((by rw [hg]; exact Nat.ne_of_lt (blk_lt (g := gb138) (o := .cells #[.int .i64 a0_0, .int .i64 a0_1, .int .i64 a0_2, .bool a0_3, .int .i64 a0_4] 96 (0, 0)) (by (with_reducible repeat (first | refine blk_drewN ?_ _ | refine blk_drew ?_ | refine blk_alloc ?_ _)); exact BK138.out)) : gb138 ≠ gb140)); have n7_ := Aside0.mk ((by rw [hg]; exact Nat.ne_of_gt (blk_lt (g := gb138) (o := .cells #[.int .i64 a0_0, .int .i64 a0_1, .int .i64 a0_2, .bool a0_3, .int .i64 a0_4] 96 (0, 0)) (by (with_reducible repeat (first | refine blk_drewN ?_ _ | refine blk_drew ?_ | refine blk_alloc ?_ _)); exact BK138.out)) : gb140 ≠ gb138)); have n8_ := Aside0.mk ((by rw [hg]; exact Nat.ne_of_lt (blk_lt (g := gb139) (o := .cells #[.int .i64 0, .int .i64 0, .int .i64 0, .bool false] 59 (0, 0)) (by (with_reducible repeat (first | refine blk_drewN ?_ _ | refine blk_drew ?_ | refine blk_alloc ?_ _)); exact BK139.out)) : gb139 ≠ gb140)); have n9_ := Aside0.mk ((by rw [hg]; exact Nat.ne_of_gt (blk_lt (g := gb139) (o := .cells #[.int .i64 0, .int .i64 0, .int .i64 0, .bool false] 59 (0, 0)) (by (with_reducible repeat (first | refine blk_drewN ?_ _ | refine blk_drew ?_ | refine blk_alloc ?_ _)); exact BK139.out)) : gb140 ≠ gb139)); clear BK138; clear BK139; clear HB; have BK138 := n0_; have BK139 := n1_; have HB := n2_; have BK140 := n3_; have GW140 := n4_; have GE140 := n5_; have NB138_140 := n6_; have NB140_138 := n7_; have NB139_140 := n8_; have NB140_139 := n9_; clear n0_ n1_ n2_ n3_ n4_ n5_ n6_ n7_ n8_ n9_; clear hb hbox hg; have hnb24 := NB140_138.out; have hnc24 := NB138_140.out; have hnb25 := NB140_139.out; have hnc25 := NB139_140.out; have hcz26_0 : w23.cell? ⟨gb140, 0, none⟩ = some (.int .i64 0) := (blk_cell BK140.out 0).trans rfl; have hcz26_1 : w23.cell? ⟨gb140, 1, none⟩ = some (.int .i64 0) := (blk_cell BK140.out 1).trans rfl; have hcz26_2 : w23.cell? ⟨gb140, 2, none⟩ = some (.int .i64 0) := (blk_cell BK140.out 2).trans rfl; have hcz26_3 : w23.cell? ⟨gb140, 3, none⟩ = some (.bool false) := (blk_cell BK140.out 3).trans rfl; have hfz26_0 := blk_frozen BK140.out 0; have hfz26_1 := blk_frozen BK140.out 1; have hfz26_2 := blk_frozen BK140.out 2; have hfz26_3 := blk_frozen BK140.out 3))
  have n0_ : Aside0 ((((((w23.setCell ⟨gb140, 0, none⟩ (.int .i64 a0_0)).setCell ⟨gb140, 1, none⟩ (.int .i64 a0_1)).setCell ⟨gb140, 2, none⟩ (.int .i64 a0_2)).setCell ⟨gb140, 3, none⟩ (.bool a0_3)).setCell ⟨gb140, 2, none⟩ (.int .i64 (wrap64 (a0_2 + 1)))).heap[gb138]? = some (.cells #[.int .i64 a0_0, .int .i64 a0_1, .int .i64 a0_2, .bool a0_3, .int .i64 a0_4] 96 (0, 0))) := ⟨by (with_reducible repeat (first | refine blk_drewN ?_ _ | refine blk_drew ?_ | refine blk_alloc ?_ _)); refine blk_far ?_ NB138_140.out _; (with_reducible repeat (first | refine blk_drewN ?_ _ | refine blk_drew ?_ | refine blk_alloc ?_ _)); refine blk_far ?_ NB138_140.out _; (with_reducible repeat (first | refine blk_drewN ?_ _ | refine blk_drew ?_ | refine blk_alloc ?_ _)); refine blk_far ?_ NB138_140.out _; (with_reducible repeat (first | refine blk_drewN ?_ _ | refine blk_drew ?_ | refine blk_alloc ?_ _)); refine blk_far ?_ NB138_140.out _; (with_reducible repeat (first | refine blk_drewN ?_ _ | refine blk_drew ?_ | refine blk_alloc ?_ _)); refine blk_far ?_ NB138_140.out _; (with_reducible repeat (first | refine blk_drewN ?_ _ | refine blk_drew ?_ | refine blk_alloc ?_ _)); exact BK138.out⟩
  have n1_ : Aside0 ((((((w23.setCell ⟨gb140, 0, none⟩ (.int .i64 a0_0)).setCell ⟨gb140, 1, none⟩ (.int .i64 a0_1)).setCell ⟨gb140, 2, none⟩ (.int .i64 a0_2)).setCell ⟨gb140, 3, none⟩ (.bool a0_3)).setCell ⟨gb140, 2, none⟩ (.int .i64 (wrap64 (a0_2 + 1)))).heap[gb139]? = some (.cells #[.int .i64 0, .int .i64 0, .int .i64 0, .bool false] 59 (0, 0))) := ⟨by (with_reducible repeat (first | refine blk_drewN ?_ _ | refine blk_drew ?_ | refine blk_alloc ?_ _)); refine blk_far ?_ NB139_140.out _; (with_reducible repeat (first | refine blk_drewN ?_ _ | refine blk_drew ?_ | refine blk_alloc ?_ _)); refine blk_far ?_ NB139_140.out _; (with_reducible repeat (first | refine blk_drewN ?_ _ | refine blk_drew ?_ | refine blk_alloc ?_ _)); refine blk_far ?_ NB139_140.out _; (with_reducible repeat (first | refine blk_drewN ?_ _ | refine blk_drew ?_ | refine blk_alloc ?_ _)); refine blk_far ?_ NB139_140.out _; (with_reducible repeat (first | refine blk_drewN ?_ _ | refine blk_drew ?_ | refine blk_alloc ?_ _)); refine blk_far ?_ NB139_140.out _; (with_reducible repeat (first | refine blk_drewN ?_ _ | refine blk_drew ?_ | refine blk_alloc ?_ _)); exact BK139.out⟩
  have n2_ : Aside0 ((((((w23.setCell ⟨gb140, 0, none⟩ (.int .i64 a0_0)).setCell ⟨gb140, 1, none⟩ (.int .i64 a0_1)).setCell ⟨gb140, 2, none⟩ (.int .i64 a0_2)).setCell ⟨gb140, 3, none⟩ (.bool a0_3)).setCell ⟨gb140, 2, none⟩ (.int .i64 (wrap64 (a0_2 + 1)))).heap[gb140]? = some (.cells #[.int .i64 a0_0, .int .i64 a0_1, .int .i64 (wrap64 (a0_2 + 1)), .bool a0_3] 59 (0, 0))) := ⟨by (with_reducible repeat (first | refine blk_drewN ?_ _ | refine blk_drew ?_ | refine blk_alloc ?_ _)); refine blk_put (cs := #[.int .i64 a0_0, .int .i64 a0_1, .int .i64 a0_2, .bool a0_3]) ?_ 2 _ rfl; (with_reducible repeat (first | refine blk_drewN ?_ _ | refine blk_drew ?_ | refine blk_alloc ?_ _)); refine blk_put (cs := #[.int .i64 a0_0, .int .i64 a0_1, .int .i64 a0_2, .bool false]) ?_ 3 _ rfl; (with_reducible repeat (first | refine blk_drewN ?_ _ | refine blk_drew ?_ | refine blk_alloc ?_ _)); refine blk_put (cs := #[.int .i64 a0_0, .int .i64 a0_1, .int .i64 0, .bool false]) ?_ 2 _ rfl; (with_reducible repeat (first | refine blk_drewN ?_ _ | refine blk_drew ?_ | refine blk_alloc ?_ _)); refine blk_put (cs := #[.int .i64 a0_0, .int .i64 0, .int .i64 0, .bool false]) ?_ 1 _ rfl; (with_reducible repeat (first | refine blk_drewN ?_ _ | refine blk_drew ?_ | refine blk_alloc ?_ _)); refine blk_put (cs := #[.int .i64 0, .int .i64 0, .int .i64 0, .bool false]) ?_ 0 _ rfl; (with_reducible repeat (first | refine blk_drewN ?_ _ | refine blk_drew ?_ | refine blk_alloc ?_ _)); exact BK140.out⟩
  have n3_ : Aside0 (Below w.heap.size w (((((w23.setCell ⟨gb140, 0, none⟩ (.int .i64 a0_0)).setCell ⟨gb140, 1, none⟩ (.int .i64 a0_1)).setCell ⟨gb140, 2, none⟩ (.int .i64 a0_2)).setCell ⟨gb140, 3, none⟩ (.bool a0_3)).setCell ⟨gb140, 2, none⟩ (.int .i64 (wrap64 (a0_2 + 1))))) := ⟨by repeat (first | (with_reducible first | exact HB.out | apply below_alloc | apply pw_below_drewN | apply below_drew1 | refine below_set ?_ GE138.out | refine below_set ?_ GE139.out | refine below_set ?_ GE140.out) | exact HB.out)⟩
  (try clear BK138)
  (try clear BK139)
  (try clear BK140)
  (try clear HB)
  generalize (((((w23.setCell ⟨gb140, 0, none⟩ (.int .i64 a0_0)).setCell ⟨gb140, 1, none⟩ (.int .i64 a0_1)).setCell ⟨gb140, 2, none⟩ (.int .i64 a0_2)).setCell ⟨gb140, 3, none⟩ (.bool a0_3)).setCell ⟨gb140, 2, none⟩ (.int .i64 (wrap64 (a0_2 + 1)))) = w27 at n0_ n1_ n2_ n3_ ⊢
  have BK138 := n0_
  have BK139 := n1_
  have BK140 := n2_
  have HB := n3_
  clear n0_ n1_ n2_ n3_
  have n0_ := Aside0.mk (blk_drew BK138.out)
  have n1_ := Aside0.mk (blk_drew BK139.out)
  have n2_ := Aside0.mk (blk_drew BK140.out)
  have n3_ := Aside0.mk (below_drew1 HB.out)
  clear BK138
  clear BK139
  clear BK140
  clear HB
  have BK138 := n0_
  have BK139 := n1_
  have BK140 := n2_
  have HB := n3_
  clear n0_ n1_ n2_ n3_
  refine start_ (n := 10) (S := fun w' => w'.cell? ⟨gb140, 0, none⟩ = some (.int .i64 a0_0) ∧ w'.cell? ⟨gb140, 1, none⟩ = some (.int .i64 a0_1) ∧ w'.cell? ⟨gb140, 2, none⟩ = some (.int .i64 (wrap64 (a0_2 + 1))) ∧ w'.cell? ⟨gb140, 3, none⟩ = some (.bool a0_3) ∧ w'.cell? ⟨gb138, 0, none⟩ = some (.int .i64 a0_0) ∧ w'.cell? ⟨gb138, 1, none⟩ = some (.int .i64 a0_1) ∧ w'.cell? ⟨gb138, 2, none⟩ = some (.int .i64 a0_2) ∧ w'.cell? ⟨gb138, 3, none⟩ = some (.bool a0_3) ∧ w'.cell? ⟨gb138, 4, none⟩ = some (.int .i64 a0_4)) (ds := []) #[false, false, false, false, false, false, false, false, false, false] (by kernel_rfl) rfl rfl ⟨(blk_cell BK140.out 0).trans rfl, (blk_cell BK140.out 1).trans rfl, (blk_cell BK140.out 2).trans rfl, (blk_cell BK140.out 3).trans rfl, (blk_cell BK138.out 0).trans rfl, (blk_cell BK138.out 1).trans rfl, (blk_cell BK138.out 2).trans rfl, (blk_cell BK138.out 3).trans rfl, (blk_cell BK138.out 4).trans rfl⟩ (fun hHeld => ?_); refine with_tabW fact_known_slip.tab3 fact_known_slip.bits3 (fun HT_ HW_ => ?_)
  generalize w27.drew = w28 at BK138 BK139 BK140 HB hHeld ⊢
  refine take_ (i := 0) (N := some 11) (v := ?_) (a' := ?_) #[true, false, false, false, false, false, false, false, false, false] rfl rfl (take_ofW HT_.out HW_.out (by kernel_rfl)) (fun _ _ _ h => h) (Or.inl ⟨by rfl, ?_⟩) hHeld ?_ ?_
  rotate_left
  ·rintro w' ⟨s0, s1, s2, s3, s4, s5, s6, s7, s8⟩
   go_simp
   with_reducible rfl
  rotate_left
  ·simp only [Act.put, List.setIfInBounds_toArray, List.set_cons_zero, List.set_cons_succ, i64_w, i32_w]
   rfl
  refine take_ (i := 1) (N := some 12) (v := ?_) (a' := ?_) #[true, true, false, false, false, false, false, false, false, false] rfl rfl (take_ofW HT_.out HW_.out (by kernel_rfl)) (fun _ _ _ h => h) (Or.inl ⟨by rfl, ?_⟩) hHeld ?_ ?_
  rotate_left
  ·rintro w' ⟨s0, s1, s2, s3, s4, s5, s6, s7, s8⟩
   go_simp
   with_reducible rfl
  rotate_left
  ·simp only [Act.put, List.setIfInBounds_toArray, List.set_cons_zero, List.set_cons_succ, i64_w, i32_w]
   rfl
  refine one_ (i := 2) (N := some 13) #[true, true, true, false, false, false, false, false, false, false] rfl rfl (one_of HT_.out (by kernel_rfl)) (by decide) (fun K hK => ?_)
  refine goes_ Try.func67 (by kernel_rfl) rfl #[.agg #[.int .i64 a0_0, .int .i64 a0_1, .int .i64 a0_2, .bool a0_3, .int .i64 a0_4]] (by rfl) rfl rfl (by (try simp only [List.map_toArray, List.map_cons, List.map_nil]); first | done | rfl | (simp only [List.length_drop, List.length_take]; rfl)) ?_
  with_reducible refine (fact_known_open.calls a0_0 a0_1 a0_2 a0_3 a0_4 false _ A2.out).mono ?_
  rintro e w29 ⟨rfl, hb⟩
  refine ⟨_, rfl, ?_⟩
  have n0_ := Aside0.mk (blk_below (g := gb138) (o := .cells #[.int .i64 a0_0, .int .i64 a0_1, .int .i64 a0_2, .bool a0_3, .int .i64 a0_4] 96 (0, 0)) (by (with_reducible repeat (first | refine blk_drewN ?_ _ | refine blk_drew ?_ | refine blk_alloc ?_ _)); exact BK138.out) hb)
  have n1_ := Aside0.mk (blk_below (g := gb139) (o := .cells #[.int .i64 0, .int .i64 0, .int .i64 0, .bool false] 59 (0, 0)) (by (with_reducible repeat (first | refine blk_drewN ?_ _ | refine blk_drew ?_ | refine blk_alloc ?_ _)); exact BK139.out) hb)
  have n2_ := Aside0.mk (blk_below (g := gb140) (o := .cells #[.int .i64 a0_0, .int .i64 a0_1, .int .i64 (wrap64 (a0_2 + 1)), .bool a0_3] 59 (0, 0)) (by (with_reducible repeat (first | refine blk_drewN ?_ _ | refine blk_drew ?_ | refine blk_alloc ?_ _)); exact BK140.out) hb)
  have n3_ := Aside0.mk (below_step (by repeat (first | (with_reducible first | exact HB.out | apply below_alloc | apply pw_below_drewN | apply below_drew1 | refine below_set ?_ GE138.out | refine below_set ?_ GE139.out | refine below_set ?_ GE140.out) | exact HB.out)) hb)
  clear BK138
  clear BK139
  clear BK140
  clear HB
  have BK138 := n0_
  have BK139 := n1_
  have BK140 := n2_
  have HB := n3_
  clear n0_ n1_ n2_ n3_
  (try clear hb)
  (try clear hb2)
  (try clear hk)
  (try clear hi)
  refine hK.out _ _ ⟨(blk_cell BK140.out 0).trans rfl, (blk_cell BK140.out 1).trans rfl, (blk_cell BK140.out 2).trans rfl, (blk_cell BK140.out 3).trans rfl, (blk_cell BK138.out 0).trans rfl, (blk_cell BK138.out 1).trans rfl, (blk_cell BK138.out 2).trans rfl, (blk_cell BK138.out 3).trans rfl, (blk_cell BK138.out 4).trans rfl⟩ (fun hHeld => ?_)
  clear hK K
  refine norm_ (a' := ?_) ?_ ?_
  rotate_left
  ·show Act.put _ (some 13) _ = _
   simp only [Act.put, List.setIfInBounds_toArray, List.set_cons_zero, List.set_cons_succ, i64_w, i32_w]
   rfl
  refine pure_ (i := 3) (N := some 14) (v := ?_) (a' := ?_) #[true, true, true, true, false, false, false, false, false, false] rfl rfl (any_of HT_.out (by kernel_rfl)) (fun _ _ _ h => h) (Or.inl ⟨by rfl, ?_⟩) ?_ ?_
  rotate_left
  ·intro w'
   go_simp
   with_reducible rfl
  rotate_left
  ·simp only [Act.put, List.setIfInBounds_toArray, List.set_cons_zero, List.set_cons_succ, i64_w, i32_w]
   rfl
  refine pure_ (i := 4) (N := some 15) (v := undef) (a' := ?_) #[true, true, true, true, true, false, false, false, false, false] rfl rfl (any_of HT_.out (by kernel_rfl)) (fun _ _ _ h => h) (Or.inr ⟨by rfl, rfl⟩) ?_ ?_
  rotate_left
  ·simp only [Act.put, List.setIfInBounds_toArray, List.set_cons_zero, List.set_cons_succ, i64_w, i32_w]
   rfl
  refine pure_ (i := 5) (N := some 16) (v := undef) (a' := ?_) #[true, true, true, true, true, true, false, false, false, false] rfl rfl (any_of HT_.out (by kernel_rfl)) (fun _ _ _ h => h) (Or.inr ⟨by rfl, rfl⟩) ?_ ?_
  rotate_left
  ·simp only [Act.put, List.setIfInBounds_toArray, List.set_cons_zero, List.set_cons_succ, i64_w, i32_w]
   rfl
  refine pure_ (i := 6) (N := some 17) (v := undef) (a' := ?_) #[true, true, true, true, true, true, true, false, false, false] rfl rfl (any_of HT_.out (by kernel_rfl)) (fun _ _ _ h => h) (Or.inr ⟨by rfl, rfl⟩) ?_ ?_
  rotate_left
  ·simp only [Act.put, List.setIfInBounds_toArray, List.set_cons_zero, List.set_cons_succ, i64_w, i32_w]
   rfl
  refine pure_ (i := 7) (N := some 18) (v := ?_) (a' := ?_) #[true, true, true, true, true, true, true, true, false, false] rfl rfl (any_of HT_.out (by kernel_rfl)) (fun _ _ _ h => h) (Or.inl ⟨by rfl, ?_⟩) ?_ ?_
  rotate_left
  ·intro w'
   go_simp
   with_reducible rfl
  rotate_left
  ·simp only [Act.put, List.setIfInBounds_toArray, List.set_cons_zero, List.set_cons_succ, i64_w, i32_w]
   rfl
  refine one_ (i := 8) (N := none) #[true, true, true, true, true, true, true, true, true, false] rfl rfl (one_of HT_.out (by kernel_rfl)) (by decide) (fun K hK => ?_)
  have hs30 : w29.cell? ⟨gb139, 0, none⟩ = some (.int .i64 0) := (blk_cell BK139.out 0).trans rfl
  have hfs30 := blk_frozen BK139.out 0
  have hns30_0 := NB138_139.out
  have hns30_2 := NB140_139.out
  have hms30_0 := NB139_138.out
  have hms30_2 := NB139_140.out
  have hs31 : w29.cell? ⟨gb139, 1, none⟩ = some (.int .i64 0) := (blk_cell BK139.out 1).trans rfl
  have hfs31 := blk_frozen BK139.out 1
  have hns31_0 := NB138_139.out
  have hns31_2 := NB140_139.out
  have hms31_0 := NB139_138.out
  have hms31_2 := NB139_140.out
  have hs32 : w29.cell? ⟨gb139, 2, none⟩ = some (.int .i64 0) := (blk_cell BK139.out 2).trans rfl
  have hfs32 := blk_frozen BK139.out 2
  have hns32_0 := NB138_139.out
  have hns32_2 := NB140_139.out
  have hms32_0 := NB139_138.out
  have hms32_2 := NB139_140.out
  have hs33 : w29.cell? ⟨gb139, 3, none⟩ = some (.bool false) := (blk_cell BK139.out 3).trans rfl
  have hfs33 := blk_frozen BK139.out 3
  have hns33_0 := NB138_139.out
  have hns33_2 := NB140_139.out
  have hms33_0 := NB139_138.out
  have hms33_2 := NB139_140.out
  refine skip_ (w1 := ?_) (by rfl) rfl ?_ ?_
  rotate_left
  ·go_simp
   rfl
  refine hK.out _ _ ⟨((cell_far (p := ⟨gb139, _, none⟩) NB140_139.out _).trans (((cell_far (p := ⟨gb139, _, none⟩) NB140_139.out _).trans (((cell_far (p := ⟨gb139, _, none⟩) NB140_139.out _).trans (((cell_far (p := ⟨gb139, _, none⟩) NB140_139.out _).trans (hHeld.1)))))))), ((cell_far (p := ⟨gb139, _, none⟩) NB140_139.out _).trans (((cell_far (p := ⟨gb139, _, none⟩) NB140_139.out _).trans (((cell_far (p := ⟨gb139, _, none⟩) NB140_139.out _).trans (((cell_far (p := ⟨gb139, _, none⟩) NB140_139.out _).trans (hHeld.2.1)))))))), ((cell_far (p := ⟨gb139, _, none⟩) NB140_139.out _).trans (((cell_far (p := ⟨gb139, _, none⟩) NB140_139.out _).trans (((cell_far (p := ⟨gb139, _, none⟩) NB140_139.out _).trans (((cell_far (p := ⟨gb139, _, none⟩) NB140_139.out _).trans (hHeld.2.2.1)))))))), ((cell_far (p := ⟨gb139, _, none⟩) NB140_139.out _).trans (((cell_far (p := ⟨gb139, _, none⟩) NB140_139.out _).trans (((cell_far (p := ⟨gb139, _, none⟩) NB140_139.out _).trans (((cell_far (p := ⟨gb139, _, none⟩) NB140_139.out _).trans (hHeld.2.2.2.1)))))))), ((cell_far (p := ⟨gb139, _, none⟩) NB138_139.out _).trans (((cell_far (p := ⟨gb139, _, none⟩) NB138_139.out _).trans (((cell_far (p := ⟨gb139, _, none⟩) NB138_139.out _).trans (((cell_far (p := ⟨gb139, _, none⟩) NB138_139.out _).trans (hHeld.2.2.2.2.1)))))))), ((cell_far (p := ⟨gb139, _, none⟩) NB138_139.out _).trans (((cell_far (p := ⟨gb139, _, none⟩) NB138_139.out _).trans (((cell_far (p := ⟨gb139, _, none⟩) NB138_139.out _).trans (((cell_far (p := ⟨gb139, _, none⟩) NB138_139.out _).trans (hHeld.2.2.2.2.2.1)))))))), ((cell_far (p := ⟨gb139, _, none⟩) NB138_139.out _).trans (((cell_far (p := ⟨gb139, _, none⟩) NB138_139.out _).trans (((cell_far (p := ⟨gb139, _, none⟩) NB138_139.out _).trans (((cell_far (p := ⟨gb139, _, none⟩) NB138_139.out _).trans (hHeld.2.2.2.2.2.2.1)))))))), ((cell_far (p := ⟨gb139, _, none⟩) NB138_139.out _).trans (((cell_far (p := ⟨gb139, _, none⟩) NB138_139.out _).trans (((cell_far (p := ⟨gb139, _, none⟩) NB138_139.out _).trans (((cell_far (p := ⟨gb139, _, none⟩) NB138_139.out _).trans (hHeld.2.2.2.2.2.2.2.1)))))))), ((cell_far (p := ⟨gb139, _, none⟩) NB138_139.out _).trans (((cell_far (p := ⟨gb139, _, none⟩) NB138_139.out _).trans (((cell_far (p := ⟨gb139, _, none⟩) NB138_139.out _).trans (((cell_far (p := ⟨gb139, _, none⟩) NB138_139.out _).trans (hHeld.2.2.2.2.2.2.2.2))))))))⟩ (fun hHeld => ?_)
  clear hK K
  refine pure_ (i := 9) (N := some 3) (v := ?_) (a' := ?_) #[true, true, true, true, true, true, true, true, true, true] rfl rfl (any_of HT_.out (by kernel_rfl)) (fun _ _ _ h => h) (Or.inl ⟨by rfl, ?_⟩) ?_ ?_
  rotate_left
  ·intro w'
   go_simp
   with_reducible rfl
  rotate_left
  ·simp only [Act.put, List.setIfInBounds_toArray, List.set_cons_zero, List.set_cons_succ, i64_w, i32_w]
   rfl
  refine done_ (done_of HT_.out (by kernel_rfl)) ?_
  try go_wp2
  refine bodyPost_ret (results_ct rfl _ _ gb139 59 #[.int .i64 a0_0, .int .i64 a0_1, .int .i64 (wrap64 (a0_2 + 1)), .bool a0_3] (0, 0) _ rfl (by (with_reducible repeat (first | refine blk_drewN ?_ _ | refine blk_drew ?_ | refine blk_alloc ?_ _)); refine blk_put (cs := #[.int .i64 a0_0, .int .i64 a0_1, .int .i64 (wrap64 (a0_2 + 1)), .bool false]) ?_ 3 _ rfl; (with_reducible repeat (first | refine blk_drewN ?_ _ | refine blk_drew ?_ | refine blk_alloc ?_ _)); refine blk_put (cs := #[.int .i64 a0_0, .int .i64 a0_1, .int .i64 0, .bool false]) ?_ 2 _ rfl; (with_reducible repeat (first | refine blk_drewN ?_ _ | refine blk_drew ?_ | refine blk_alloc ?_ _)); refine blk_put (cs := #[.int .i64 a0_0, .int .i64 0, .int .i64 0, .bool false]) ?_ 1 _ rfl; (with_reducible repeat (first | refine blk_drewN ?_ _ | refine blk_drew ?_ | refine blk_alloc ?_ _)); refine blk_put (cs := #[.int .i64 0, .int .i64 0, .int .i64 0, .bool false]) ?_ 0 _ rfl; (with_reducible repeat (first | refine blk_drewN ?_ _ | refine blk_drew ?_ | refine blk_alloc ?_ _)); exact BK139.out) Try.underlying59 rfl (by kernel_rfl)) rfl ?_
  exact ⟨by first | rfl | (simp [errW_none, errW_some] <;> rfl) | (simp [*, errW_none, errW_some] <;> rfl), by repeat (first | (with_reducible first | exact HB.out | apply below_alloc | apply pw_below_drewN | apply below_drew1 | refine below_set ?_ GE138.out | refine below_set ?_ GE139.out | refine below_set ?_ GE140.out) | exact HB.out)⟩
end Go.Proofs.Ytihpndignekheaa.F
end

section
namespace Go.Proofs.Ytihpndignekheaa.F
open Go.RowKit Go.Proofs.YtihpndignekheaaW.PrintWords Go.Proofs.YtihpndignekheaaW.PrintLast Go.Proofs.YtihpndignekheaaW.PrintMore
attribute [local go_sem] max2_int min2_int max_two min_two max_three min_three max_four min_four
set_option linter.unusedVariables false
set_option linter.unusedSimpArgs false
def badN (n : Int) : Bool := decide (n < 0) || decide (n > 1099511627776)
def stampB (l : List Int) : Bool := decide (1 ≤ l.length) && (decide (l.length ≤ 64) && !l.any badN)
set_option maxHeartbeats 4000000 in
theorem badN_lit (n : Int) (w : World) : Calls Try.prog 66 (#[.int .i64 n] ++ #[]) w fun e w' => e = .returned (.bool (badN n)) ∧ Below w.heap.size w w' := by
 show Calls Try.prog 66 #[.int .i64 n] w _
 by_cases h0 : n < 0
 ·have hd : decide (n < 0) = true := decide_eq_true h0
  go_enter Try.func66, Try.ntmps66
  go_wp2
  go_ret
  exact ⟨by simp [badN, h0], Below.refl _ _⟩
 ·have hd : decide (n < 0) = false := decide_eq_false h0
  go_enter Try.func66, Try.ntmps66
  go_wp2
  go_ret
  exact ⟨by rw [show badN n = decide (n > 1099511627776) from by unfold badN; rw [hd]; rfl]; rfl, Below.refl _ _⟩
def stamp_Check.f (l0 : List Int) : Option Int := some (if stampB l0 then 0 else 2)
set_option maxHeartbeats 8000000 in
set_option maxRecDepth 100000 in
theorem stamp_Check.calls (A0 : Option Addr) (c0 : Nat) (l0 : List Int) (r : Int) (w : World) (hr0 : Kd.C (Kd.int .i64) w A0 l0.length l0) (hc0 : l0.length ≤ c0) (h : stamp_Check.f l0 = some r) :
  Calls Try.prog 52 #[.slice A0 l0.length c0] w fun e w' => e = .returned (.int .i64 r) ∧ Below w.heap.size w w' := by
 unfold stamp_Check.f at h
 have HQ := Aside0.mk (Option.some.inj h)
 have HE := Aside0.mk (enters_of Try.func66 (P := Try.prog) (f := 66) (by kernel_rfl) rfl)
 have HC := Aside0.mk (contains_func_int 66 #[] HE.out badN A0 c0 l0 w hr0 (fun i hi W _ => badN_lit _ W))
 clear hr0 hc0 h
 by_cases h1 : (l0.length : Int) < 1
 ·have hd1 : decide ((l0.length : Int) < 1) = true := decide_eq_true h1
  have hx : stampB l0 = false := by unfold stampB; rw [decide_eq_false (by omega)]; rfl
  go_enter Try.func52, Try.ntmps52
  go_wp2
  go_ret
  exact ⟨by rw [← HQ.out, hx]; rfl, Below.refl _ _⟩
 ·have hd1 : decide ((l0.length : Int) < 1) = false := decide_eq_false h1
  by_cases h2 : (l0.length : Int) > 64
  ·have hd2 : decide ((l0.length : Int) > 64) = true := decide_eq_true h2
   have hx : stampB l0 = false := by unfold stampB; rw [decide_eq_false (by omega : ¬ l0.length ≤ 64)]; simp
   go_enter Try.func52, Try.ntmps52
   go_wp2
   go_ret
   exact ⟨by rw [← HQ.out, hx]; rfl, Below.refl _ _⟩
  ·have hd2 : decide ((l0.length : Int) > 64) = false := decide_eq_false h2
   have hx : stampB l0 = !l0.any badN := by unfold stampB; rw [decide_eq_true (by omega : 1 ≤ l0.length), decide_eq_true (by omega : l0.length ≤ 64)]; rfl
   have HX := Aside0.mk hx
   clear hx
   obtain ⟨v, hv⟩ : ∃ v, l0.any badN = v := ⟨_, rfl⟩
   rw [hv] at HC HX
   clear hv
   cases v
   all_goals
    go_enter Try.func52, Try.ntmps52
    go_wp2_with (go_at_call 64; refine HC.out.mono ?_; rintro e w2 ⟨rfl, hb⟩; have HB := Aside0.mk hb; clear hb)
    go_ret
    exact ⟨by rw [← HQ.out, HX.out]; rfl, HB.out⟩
end Go.Proofs.Ytihpndignekheaa.F
end

section
namespace Go.Proofs.Ytihpndignekheaa.F
open Go.RowKit Go.Proofs.YtihpndignekheaaW.PrintWords Go.Proofs.YtihpndignekheaaW.PrintLast Go.Proofs.YtihpndignekheaaW.PrintMore
attribute [local go_sem] max2_int min2_int max_two min_two max_three min_three max_four min_four
set_option linter.unusedVariables false
set_option linter.unusedSimpArgs false
def itemOk (it : Int) : Bool := decide (it > 0) && decide (it < 64)
def ofV (k it t : Int) : Value :=
 if k = 1 ∨ k = 2 ∨ k = 3 then (if itemOk it && decide (t = 0) then .iface 119 (.agg #[.int .i64 it]) else .iface 108 (.agg #[]))
 else if k = 4 ∨ k = 5 ∨ k = 6 then (if itemOk it && (decide (t ≥ 0) && decide (t ≤ 3)) then .iface 121 (.agg #[.int .i64 it, .int .i64 t]) else .iface 108 (.agg #[]))
 else .iface 108 (.agg #[])
def eventB (k it t : Int) (s : List Int) : Bool := (if k = 1 ∨ k = 2 ∨ k = 3 then itemOk it && decide (t = 0) else if k = 4 ∨ k = 5 ∨ k = 6 then itemOk it && (decide (t ≥ 0) && decide (t ≤ 3)) else false) && stampB s
set_option maxHeartbeats 8000000 in
set_option maxRecDepth 100000 in
theorem of_event_walk (k it t : Int) (A : Option Addr) (n c : Nat) (w : World) : Calls Try.prog 51 #[.agg #[.int .i64 k, .int .i64 it, .int .i64 t, .slice A n c]] w fun e w' => e = .returned (ofV k it t) ∧ Below w.heap.size w w' := by
 have HB0 := Aside0.mk ((Below.refl w.heap.size w).alloc (Nat.le_refl _) (.cells #[.int .i64 k, .int .i64 it, .int .i64 t, .slice A n c] 68 (0, 0)))
 obtain ⟨v, hv⟩ : ∃ v, ofV k it t = v := ⟨_, rfl⟩
 have HV := Aside0.mk hv
 rw [hv]
 clear hv
 have hk : k = 1 ∨ k = 2 ∨ k = 3 ∨ k = 4 ∨ k = 5 ∨ k = 6 ∨ (¬ k = 1 ∧ ¬ k = 2 ∧ ¬ k = 3 ∧ ¬ k = 4 ∧ ¬ k = 5 ∧ ¬ k = 6) := by omega
 have ht : t = 0 ∨ (¬ t = 0 ∧ t ≥ 0 ∧ t ≤ 3) ∨ (¬ t = 0 ∧ t ≥ 0 ∧ ¬ t ≤ 3) ∨ (¬ t = 0 ∧ ¬ t ≥ 0) := by omega
 rcases hk with hk | hk | hk | hk | hk | hk | hk
 case' inr.inr.inr.inr.inr.inr =>
  have HK := Aside0.mk hk
  obtain ⟨k1, k2, k3, k4, k5, k6⟩ := hk
  clear ht
  go_enter Try.func51, Try.ntmps51
  go_wp2
  all_goals
   go_ret
   refine ⟨?_, HB0.out⟩
   rw [← HV.out]
   have h := HK.out
   simp [ofV, h]
  done
 all_goals
  subst hk
  rcases ht with ht | ht | ht | ht
 all_goals by_cases c1 : it > 0
 all_goals by_cases c2 : it < 64
 all_goals first | (exfalso; omega) | skip
 all_goals
  have HC := Aside0.mk (And.intro c1 (And.intro c2 ht))
  try obtain ⟨t1, ht⟩ := ht
  try obtain ⟨t2, ht⟩ := ht
  try subst t
  go_enter Try.func51, Try.ntmps51
  go_wp2
 all_goals
  go_ret
  refine ⟨?_, HB0.out⟩
  rw [← HV.out]
  have h := HC.out
  first | (simp [ofV, itemOk, h]; done) | (simp [ofV, itemOk, h]; omega)
end Go.Proofs.Ytihpndignekheaa.F
end

section
namespace Go.Proofs.Ytihpndignekheaa.F
open Go.RowKit Go.Proofs.YtihpndignekheaaW.PrintWords Go.Proofs.YtihpndignekheaaW.PrintLast Go.Proofs.YtihpndignekheaaW.PrintMore
attribute [local go_sem] max2_int min2_int max_two min_two max_three min_three max_four min_four
set_option linter.unusedVariables false
set_option linter.unusedSimpArgs false
def ofB (k it t : Int) : Bool := if k = 1 ∨ k = 2 ∨ k = 3 then itemOk it && decide (t = 0) else if k = 4 ∨ k = 5 ∨ k = 6 then itemOk it && (decide (t ≥ 0) && decide (t ≤ 3)) else false
theorem eventB_of (k it t : Int) (s : List Int) : eventB k it t s = (ofB k it t && stampB s) := rfl
theorem ofV_cases (k it t : Int) : (ofB k it t = false ∧ ofV k it t = .iface 108 (.agg #[])) ∨ (ofB k it t = true ∧ ∃ a, ofV k it t = .iface 119 a) ∨ (ofB k it t = true ∧ ∃ a, ofV k it t = .iface 121 a) := by
 unfold ofB ofV
 split
 ·split
  ·rename_i h; exact .inr (.inl ⟨h, _, rfl⟩)
  ·rename_i h; exact .inl ⟨by simpa using h, rfl⟩
 ·split
  ·split
   ·rename_i h; exact .inr (.inr ⟨h, _, rfl⟩)
   ·rename_i h; exact .inl ⟨by simpa using h, rfl⟩
  ·exact .inl ⟨rfl, rfl⟩
def Stop2_ (p : Prop) : Prop := p
theorem stop2_ {p : Prop} (h : Stop2_ p) : p := h
theorem ta_nobody (w : World) : (Instr.typeAssert (.iface 108 (.agg #[])) 110 108 true).run Try.prog w = .ok (.tuple #[.agg #[], .bool true]) w := by kernel_rfl
theorem ta_step (a : Value) (w : World) : (Instr.typeAssert (.iface 119 a) 110 108 true).run Try.prog w = .ok (.tuple #[.agg #[], .bool false]) w := by kernel_rfl
theorem ta_undo (a : Value) (w : World) : (Instr.typeAssert (.iface 121 a) 110 108 true).run Try.prog w = .ok (.tuple #[.agg #[], .bool false]) w := by kernel_rfl
set_option maxHeartbeats 8000000 in
set_option maxRecDepth 100000 in
theorem event_check_walk (k it t : Int) (A0 : Option Addr) (c0 : Nat) (l0 : List Int) (w : World) (hr0 : Kd.C (Kd.int .i64) w A0 l0.length l0) (hc0 : l0.length ≤ c0) :
  Calls Try.prog 40 #[.agg #[.int .i64 k, .int .i64 it, .int .i64 t, .slice A0 l0.length c0]] w fun e w' => e = .returned (.int .i64 (if eventB k it t l0 then 0 else 2)) ∧ Below w.heap.size w w' := by
 have HR0 := Aside0.mk hr0
 have HC0 := Aside0.mk hc0
 clear hr0 hc0
 have HG0 : Aside0 ((w.alloc (.cells #[.int .i64 k, .int .i64 it, .int .i64 t, .slice A0 l0.length c0] 68 (0, 0))).heap[w.heap.size]? = some (.cells #[.int .i64 k, .int .i64 it, .int .i64 t, .slice A0 l0.length c0] 68 (0, 0))) := ⟨blk_new w _⟩
 have HB0 := Aside0.mk ((Below.refl w.heap.size w).alloc (Nat.le_refl _) (.cells #[.int .i64 k, .int .i64 it, .int .i64 t, .slice A0 l0.length c0] 68 (0, 0)))
 obtain ⟨v, hv⟩ : ∃ v, (if eventB k it t l0 then (0 : Int) else 2) = v := ⟨_, rfl⟩
 have HV := Aside0.mk hv
 rw [hv]
 clear hv
 have h1 := ta_nobody
 have h2 := ta_step
 have h3 := ta_undo
 obtain ⟨q, hq⟩ : ∃ q, stampB l0 = q := ⟨_, rfl⟩
 have HQ := Aside0.mk hq
 clear hq
 have HF : Aside0 (stamp_Check.f l0 = some (if q then 0 else 2)) := ⟨by unfold stamp_Check.f; rw [HQ.out]⟩
 rcases ofV_cases k it t with ⟨hB, hx⟩ | ⟨hB, a, hx⟩ | ⟨hB, a, hx⟩
 ·have HX := Aside0.mk hx
  have HO := Aside0.mk hB
  clear hx hB
  go_enter Try.func40, Try.ntmps40
  go_wp2_with (go_at_call 51; refine stop2_ ?_)
  unfold Stop2_
  refine (of_event_walk k it t A0 l0.length c0 _).mono ?_
  rw [HX.out]
  rintro e w2 ⟨rfl, hb⟩
  have HB1 := Aside0.mk (HB0.out.trans (hb.mono HB0.out.size))
  have HG1 := Aside0.mk (blk_below HG0.out hb)
  have HR1 := Aside0.mk (Kd.C_below HR0.out HB1.out)
  have hlt := Nat.lt_of_lt_of_le (show w.heap.size < (w.alloc (.cells #[.int .i64 k, .int .i64 it, .int .i64 t, .slice A0 l0.length c0] 68 (0, 0))).heap.size by simp) hb.size
  clear hb
  have hne : ¬ w.heap.size = w2.heap.size := by omega
  have c3 : w2.cell? ⟨w.heap.size, 3, none⟩ = some (.slice A0 l0.length c0) := blk_cell HG1.out 3
  go_wp2
  go_ret
  refine ⟨?_, ?_⟩
  ·rw [← HV.out, eventB_of, HO.out]; rfl
  ·exact HB1.out.alloc HB1.out.size _
 ·have HX := Aside0.mk hx
  have HO := Aside0.mk hB
  clear hx hB
  cases q
  all_goals
   go_enter Try.func40, Try.ntmps40
   go_wp2_with (go_at_call 51; refine stop2_ ?_)
   unfold Stop2_
   refine (of_event_walk k it t A0 l0.length c0 _).mono ?_
   rw [HX.out]
   rintro e w2 ⟨rfl, hb⟩
   have HB1 := Aside0.mk (HB0.out.trans (hb.mono HB0.out.size))
   have HG1 := Aside0.mk (blk_below HG0.out hb)
   have HR1 := Aside0.mk (Kd.C_below HR0.out HB1.out)
   have hlt := Nat.lt_of_lt_of_le (show w.heap.size < (w.alloc (.cells #[.int .i64 k, .int .i64 it, .int .i64 t, .slice A0 l0.length c0] 68 (0, 0))).heap.size by simp) hb.size
   clear hb
   have hne : ¬ w.heap.size = w2.heap.size := by omega
   have c3 : w2.cell? ⟨w.heap.size, 3, none⟩ = some (.slice A0 l0.length c0) := blk_cell HG1.out 3
   go_wp2_with (go_at_call 52; refine (stamp_Check.calls A0 c0 l0 _ _ (Kd.C_below HR1.out (below_alloc (Below.refl _ _) _)) HC0.out HF.out).mono ?_; rintro e w4 ⟨rfl, hb⟩; have HB4 := Aside0.mk ((HB1.out.alloc HB1.out.size _).trans (hb.mono (HB1.out.alloc HB1.out.size _).size)); clear hb)
   go_ret
   refine ⟨?_, HB4.out⟩
   rw [← HV.out, eventB_of, HO.out, HQ.out]
   rfl
 ·have HX := Aside0.mk hx
  have HO := Aside0.mk hB
  clear hx hB
  cases q
  all_goals
   go_enter Try.func40, Try.ntmps40
   go_wp2_with (go_at_call 51; refine stop2_ ?_)
   unfold Stop2_
   refine (of_event_walk k it t A0 l0.length c0 _).mono ?_
   rw [HX.out]
   rintro e w2 ⟨rfl, hb⟩
   have HB1 := Aside0.mk (HB0.out.trans (hb.mono HB0.out.size))
   have HG1 := Aside0.mk (blk_below HG0.out hb)
   have HR1 := Aside0.mk (Kd.C_below HR0.out HB1.out)
   have hlt := Nat.lt_of_lt_of_le (show w.heap.size < (w.alloc (.cells #[.int .i64 k, .int .i64 it, .int .i64 t, .slice A0 l0.length c0] 68 (0, 0))).heap.size by simp) hb.size
   clear hb
   have hne : ¬ w.heap.size = w2.heap.size := by omega
   have c3 : w2.cell? ⟨w.heap.size, 3, none⟩ = some (.slice A0 l0.length c0) := blk_cell HG1.out 3
   go_wp2_with (go_at_call 52; refine (stamp_Check.calls A0 c0 l0 _ _ (Kd.C_below HR1.out (below_alloc (Below.refl _ _) _)) HC0.out HF.out).mono ?_; rintro e w4 ⟨rfl, hb⟩; have HB4 := Aside0.mk ((HB1.out.alloc HB1.out.size _).trans (hb.mono (HB1.out.alloc HB1.out.size _).size)); clear hb)
   go_ret
   refine ⟨?_, HB4.out⟩
   rw [← HV.out, eventB_of, HO.out, HQ.out]
   rfl
end Go.Proofs.Ytihpndignekheaa.F
end

section
namespace Go.Proofs.Ytihpndignekheaa.F
open Go.RowKit Go.Proofs.YtihpndignekheaaW.PrintWords Go.Proofs.YtihpndignekheaaW.PrintLast Go.Proofs.YtihpndignekheaaW.PrintMore
def schedOk (md : Region.Mode) (ops : Array Oper) (ds : List Nat) (lEnd : Array Bool) : Array Bool → List (Nat × Bool × Option Tmp) → Bool
 | l, [] => l == lEnd
 | l, (i, true, _) :: r => takeB md ops ds l (l.setIfInBounds i true) i && schedOk md ops ds lEnd (l.setIfInBounds i true) r
 | l, (i, false, _) :: r => anyB md ops l (l.setIfInBounds i true) i && schedOk md ops ds lEnd (l.setIfInBounds i true) r
section
variable {P : Program} {md : Region.Mode} {ops : Array Oper} {Q : Exit → Act → World → Prop} {S : World → Prop} {ds : List Nat}
def WS (P : Program) (md : Region.Mode) (ops : Array Oper) (Q : Exit → Act → World → Prop) (S : World → Prop) (ds : List Nat) (fuel : Nat) (lEnd : Array Bool) (sched : List (Nat × Bool × Option Tmp)) (a : Act) (w : World) : Prop :=
 ∀ l, schedOk md ops ds lEnd l sched = true → wpAnyLast P md ops Q S ds (fuel + sched.length) l a w
theorem ws_ {n : Nat} {l : Array Bool} {a : Act} {w : World} (fuel : Nat) (lEnd : Array Bool) (sched : List (Nat × Bool × Option Tmp)) (hc : schedOk md ops ds lEnd l sched = true) (hn : n = fuel + sched.length) (h : WS P md ops Q S ds fuel lEnd sched a w) : wpAnyLast P md ops Q S ds n l a w := by
 subst hn
 exact h l hc
theorem ws_nil {fuel : Nat} {lEnd : Array Bool} {a : Act} {w : World} (h : wpAnyLast P md ops Q S ds fuel lEnd a w) : WS P md ops Q S ds fuel lEnd [] a w := fun l hl => by
 simp only [schedOk, beq_iff_eq] at hl
 subst hl
 exact h
theorem ws_pure {i : Nat} {r : List (Nat × Bool × Option Tmp)} {N : Option Tmp} {oi : Oper} {v : Value} {fuel : Nat} {lEnd : Array Bool} {a : Act} {w : World} (hi : ops[i]? = some oi) (hN : oi.dst = N)
  (hQ : ∀ c a w, Q (.panic c) (a.put oi.dst v) w → Q (.panic c) a w) (hy : Yields P ops oi v a) {a' : Act} (ha : a.put N v = a')
  (h : WS P md ops Q S ds fuel lEnd r a' w) : WS P md ops Q S ds fuel lEnd ((i, false, N) :: r) a w := fun l hl => by
 simp only [schedOk, Bool.and_eq_true] at hl
 exact pure_ (fuel := fuel + r.length) _ hi hN hl.1 hQ hy ha (h _ hl.2)
theorem ws_take {i : Nat} {r : List (Nat × Bool × Option Tmp)} {N : Option Tmp} {oi : Oper} {v : Value} {fuel : Nat} {lEnd : Array Bool} {a : Act} {w : World} (hi : ops[i]? = some oi) (hN : oi.dst = N)
  (hQ : ∀ c a w, Q (.panic c) (a.put oi.dst v) w → Q (.panic c) a w) (hy : YieldsIf P ops S oi v a) (hS : S w) {a' : Act} (ha : a.put N v = a')
  (h : WS P md ops Q S ds fuel lEnd r a' w) : WS P md ops Q S ds fuel lEnd ((i, true, N) :: r) a w := fun l hl => by
 simp only [schedOk, Bool.and_eq_true] at hl
 exact take_ (fuel := fuel + r.length) _ hi hN hl.1 hQ hy hS ha (h _ hl.2)
end
end Go.Proofs.Ytihpndignekheaa.F
end

section
namespace Go.Proofs.Ytihpndignekheaa.F
open Go.RowKit Go.Proofs.YtihpndignekheaaW.PrintWords Go.Proofs.YtihpndignekheaaW.PrintLast Go.Proofs.YtihpndignekheaaW.PrintMore
attribute [local go_sem] max2_int min2_int max_two min_two max_three min_three max_four min_four
set_option linter.unusedVariables false
set_option linter.unusedSimpArgs false
def doesF (k : Int) : Nat := if k = 1 then 53 else if k = 2 then 54 else if k = 3 then 55 else if k = 4 then 56 else if k = 5 then 57 else 58
set_option maxHeartbeats 8000000 in
set_option maxRecDepth 100000 in
theorem does_walk (f : S59) (t k : Int) (w : World) : Calls Try.prog 41 #[kV f t, .int .i64 k] w fun e w' => e = .returned (.func (.func (doesF k)) #[kV f t] #[]) ∧ Below w.heap.size w w' := by
 unfold kV
 have HB := Aside0.mk ((Below.refl w.heap.size w).alloc (Nat.le_refl _) (.cells #[.int .i64 f.f0, .int .i64 f.f1, .int .i64 f.f2, .bool f.f3, .int .i64 t] 96 (0, 0)))
 have hk : k = 1 ∨ k = 2 ∨ k = 3 ∨ k = 4 ∨ k = 5 ∨ (¬ k = 1 ∧ ¬ k = 2 ∧ ¬ k = 3 ∧ ¬ k = 4 ∧ ¬ k = 5) := by omega
 obtain ⟨g, hg⟩ : ∃ g, doesF k = g := ⟨_, rfl⟩
 rw [hg]
 have HG := Aside0.mk hg
 clear hg
 rcases hk with hk | hk | hk | hk | hk | ⟨k1, k2, k3, k4, k5⟩
 case' inr.inr.inr.inr.inr =>
  have HK := Aside0.mk (And.intro k1 (And.intro k2 (And.intro k3 (And.intro k4 k5))))
  go_enter Try.func41, Try.ntmps41
  go_wp2
  all_goals
   go_ret
   have h := HK.out
   refine ⟨?_, HB.out⟩
   rw [← HG.out, doesF, if_neg h.1, if_neg h.2.1, if_neg h.2.2.1, if_neg h.2.2.2.1, if_neg h.2.2.2.2]
   rfl
  done
 all_goals
  subst hk
  go_enter Try.func41, Try.ntmps41
  go_wp2
  go_ret
  refine ⟨?_, HB.out⟩
  rw [← HG.out]
  rfl
def knownF (f : S59) (t k : Int) : S59 × Bool :=
 if k = 1 then (⟨1, 0, 0, false⟩, f.f0 == 0)
 else if k = 2 then (⟨2, 0, 0, false⟩, f.f0 == 1)
 else if k = 3 then (⟨3, 0, 0, false⟩, f.f0 == 1)
 else if k = 4 then (⟨f.f0, wrap64 (f.f1 + 1), f.f2, f.f3⟩, f.f0 == 2 && !f.f3 && f.f1 == t && f.f2 == t)
 else if k = 5 then (⟨f.f0, f.f1, f.f2, true⟩, f.f1 == wrap64 (f.f2 + 1) && !f.f3 && f.f2 == t)
 else (⟨f.f0, f.f1, wrap64 (f.f2 + 1), f.f3⟩, f.f1 == wrap64 (f.f2 + 1) && !f.f3 && f.f2 == t && decide (t < 3))
theorem open_eq (f : S59) (t : Int) : fact_known_open.f f.f0 f.f1 f.f2 f.f3 t = some (f.f1 == wrap64 (f.f2 + 1) && !f.f3 && f.f2 == t) := by
 unfold fact_known_open.f
 by_cases h1 : f.f1 = wrap64 (f.f2 + 1) <;> cases h2 : f.f3 <;> simp [h1]
theorem known_call (f : S59) (t k : Int) (w : World) : Calls Try.prog (doesF k) #[kV f t] w fun e w' => e = .returned (.tuple #[factV (knownF f t k).1, .bool (knownF f t k).2]) ∧ Below w.heap.size w w' := by
 unfold doesF knownF
 split
 ·exact known_start_walk f t w
 split
 ·exact known_ok_walk f t w
 split
 ·exact known_fail_walk f t w
 split
 ·exact known_undo_walk f t w
 split
 ·exact known_undone_walk f t w
 ·refine fact_known_slip.calls _ _ _ _ _ _ _ _ _ _ w ?_
  unfold fact_known_slip.f
  rw [open_eq]
  generalize (f.f1 == wrap64 (f.f2 + 1) && !f.f3 && f.f2 == t) = b
  cases b <;> rfl
theorem known_enters (k : Int) (args : Array Value) (w : World) : (callFunc (doesF k) args).run Try.prog w = .ok (.enter (doesF k) args) w := by
 unfold doesF
 split
 ·exact enters_ Try.func53 (by kernel_rfl) rfl args w
 split
 ·exact enters_ Try.func54 (by kernel_rfl) rfl args w
 split
 ·exact enters_ Try.func55 (by kernel_rfl) rfl args w
 split
 ·exact enters_ Try.func56 (by kernel_rfl) rfl args w
 split
 ·exact enters_ Try.func57 (by kernel_rfl) rfl args w
 ·exact enters_ Try.func58 (by kernel_rfl) rfl args w
theorem goesDyn_ {P : Program} {ops : Array Oper} {Q : Exit → Act → World → Prop} {oi : Oper} {N : Option Tmp} {a : Act} {w : World} {K : Act → World → Prop} {f : FuncId} (x : Operand) (ts : Array TypeId) (bound : Array Value) (he : ∀ args w, (callFunc f args).run P w = .ok (.enter f args) w)
  (hw : Region.wanted oi (yielded ops a.tmps) = true) (hN : oi.dst = N) (hop : oi.op = .call { callee := .value x, args := #[], argTypes := ts }) (hx : a.eval x = .func (.func f) bound #[])
  (h : Calls P f bound w fun e w' => ∃ v, e = .returned v ∧ K (a.put N v) w') : if Region.wanted oi (yielded ops a.tmps) = true then Oper.wp P oi a w K Q else K (a.put N undef) w := by
 refine call_ f bound hw hN ?_ h
 have h2 := he bound w
 unfold execOp
 simp [hop, resolve, Deferred.ofValue, invoke, hx, h2]
def applyB (p : List S37) (l : List S59) (k it t : Int) (s : List Int) : Int × List S59 :=
 if eventB k it t s then (if (l.length : Int) ≤ it then (14, l) else if (rd_T37 p it).f2 then (14, l) else if (knownF (rd_T59 l it) t k).2 then (0, l.set it.toNat (knownF (rd_T59 l it) t k).1) else (14, l)) else (2, l)
theorem eventB_item {k it t : Int} {s : List Int} (h : eventB k it t s = true) : 0 < it ∧ it < 64 := by
 unfold eventB itemOk at h
 split at h
 ·simp at h; omega
 ·split at h
  ·simp at h; omega
  ·simp at h
def ApplyP (p : List S37) (Al : Option Addr) (cl : Nat) (l : List S59) (k it t : Int) (s : List Int) (base : Nat) (ok : Nat → Prop) (w : World) (e : Ending) (w' : World) : Prop :=
 e = .returned (.int .i64 (applyB p l k it t s).1) ∧ Kd.R k59 59 w' base ok (.slice Al l.length cl) (applyB p l k it t s).2 ∧ Below base w w'
def FactP (w w' : World) (s : Nat) : Prop := Below w.heap.size w w' ∧ w.heap.size ≤ s ∧ w'.heap[s]? = some (.cells #[.int .i64 0, .int .i64 0, .int .i64 0, .bool false] 59 (0, 0))
theorem factP_a {w2 w3 w4 : World} (h3 : Below w2.drew.heap.size w2.drew w3) (h4 : Below w3.heap.size w3 w4) : FactP w2 (w4.alloc (.cells #[.int .i64 0, .int .i64 0, .int .i64 0, .bool false] 59 (0, 0))) w4.heap.size := by
 have h5 : Below w2.heap.size w2 w3 := (below_drew (Below.refl _ _)).trans h3
 have h6 := h5.trans (h4.mono h5.size)
 exact ⟨below_alloc h6 _, h6.size, blk_new _ _⟩
theorem factP_b {w2 w3 w4 : World} (h3 : Below w2.drew.heap.size w2.drew w3) (h4 : Below (w3.alloc (.cells #[.int .i64 0, .int .i64 0, .int .i64 0, .bool false] 59 (0, 0))).heap.size (w3.alloc (.cells #[.int .i64 0, .int .i64 0, .int .i64 0, .bool false] 59 (0, 0))) w4) : FactP w2 w4 w3.heap.size := by
 have h5 : Below w2.heap.size w2 w3 := (below_drew (Below.refl _ _)).trans h3
 have h6 := below_alloc h5 (.cells #[.int .i64 0, .int .i64 0, .int .i64 0, .bool false] 59 (0, 0))
 exact ⟨h6.trans (h4.mono h6.size), h5.size, blk_below (blk_new _ _) h4⟩
theorem factP_c {w2 w3 w4 : World} (h3 : Below (w2.drew.alloc (.cells #[.int .i64 0, .int .i64 0, .int .i64 0, .bool false] 59 (0, 0))).heap.size (w2.drew.alloc (.cells #[.int .i64 0, .int .i64 0, .int .i64 0, .bool false] 59 (0, 0))) w3) (h4 : Below w3.heap.size w3 w4) : FactP w2 w4 w2.heap.size := by
 have h5 : Below w2.heap.size w2 (w2.drew.alloc (.cells #[.int .i64 0, .int .i64 0, .int .i64 0, .bool false] 59 (0, 0))) := below_alloc (below_drew (Below.refl _ _)) _
 have h6 := h5.trans (h3.mono h5.size)
 exact ⟨h6.trans (h4.mono h6.size), Nat.le_refl _, blk_below (blk_below (blk_new w2.drew _) h3) h4⟩
set_option maxHeartbeats 8000000 in
set_option maxRecDepth 100000 in
theorem apply_walk (p : List S37) (Ap : Option Addr) (cp : Nat) (l : List S59) (Al : Option Addr) (cl : Nat) (k it t : Int) (s : List Int) (As : Option Addr) (cs : Nat) (base : Nat) (ok : Nat → Prop) (w : World)
  (hp : Kd.C k37 w Ap p.length p) (hl : Kd.R k59 59 w base ok (.slice Al l.length cl) l) (hpl : l.length = p.length) (hs : Kd.C (Kd.int .i64) w As s.length s) (hcs : s.length ≤ cs) (hbase : base ≤ w.heap.size) :
  Calls Try.prog 32 #[.agg #[.slice Ap p.length cp], .slice Al l.length cl, .agg #[.int .i64 k, .int .i64 it, .int .i64 t, .slice As s.length cs]] w (ApplyP p Al cl l k it t s base ok w) := by
 have HP := Aside0.mk hp
 have HL := Aside0.mk hl
 have HPL := Aside0.mk hpl
 have HS := Aside0.mk hs
 have HCS := Aside0.mk hcs
 have HBS := Aside0.mk hbase
 have HGA := Aside0.mk (blk_alloc (blk_new w (.cells #[.slice Ap p.length cp] 24 (0, 0))) (.cells #[.int .i64 k, .int .i64 it, .int .i64 t, .slice As s.length cs] 68 (0, 0)))
 have hgb := blk_new (w.alloc (.cells #[.slice Ap p.length cp] 24 (0, 0))) (.cells #[.int .i64 k, .int .i64 it, .int .i64 t, .slice As s.length cs] 68 (0, 0))
 rw [show (w.alloc (.cells #[.slice Ap p.length cp] 24 (0, 0))).heap.size = w.heap.size + 1 from by simp] at hgb
 have HGB := Aside0.mk hgb
 clear hgb
 have HB0 : Aside0 (Below w.heap.size w ((w.alloc (.cells #[.slice Ap p.length cp] 24 (0, 0))).alloc (.cells #[.int .i64 k, .int .i64 it, .int .i64 t, .slice As s.length cs] 68 (0, 0)))) := ⟨below_alloc (below_alloc (Below.refl _ _) _) _⟩
 have HCW := Aside0.mk (event_check_walk k it t As cs s _ (Kd.C_below HS.out HB0.out) HCS.out)
 clear hp hl hpl hs hcs hbase
 obtain ⟨v, hv⟩ : ∃ v, eventB k it t s = v := ⟨_, rfl⟩
 have HV := Aside0.mk hv
 rw [hv] at HCW
 clear hv
 cases v with
 | false =>
  go_enter Try.func32, Try.ntmps32
  go_wp2_with (go_at_call 40; refine HCW.out.mono ?_; rintro e w2 ⟨rfl, hb⟩; have HB2 := Aside0.mk (HB0.out.trans (hb.mono HB0.out.size)); clear hb)
  go_ret
  have hx : applyB p l k it t s = (2, l) := by unfold applyB; rw [HV.out]; rfl
  unfold ApplyP
  rw [hx]
  exact ⟨rfl, Kd.R_below HL.out HB2.out, HB2.out.mono HBS.out⟩
 | true =>
  have HIT := Aside0.mk (eventB_item HV.out)
  have HSZ : Aside0 (w.heap.size + 1 < ((w.alloc (.cells #[.slice Ap p.length cp] 24 (0, 0))).alloc (.cells #[.int .i64 k, .int .i64 it, .int .i64 t, .slice As s.length cs] 68 (0, 0))).heap.size) := ⟨by simp⟩
  by_cases c1 : (l.length : Int) ≤ it
  ·go_enter Try.func32, Try.ntmps32
   go_wp2_with (go_at_call 40; refine stop2_ ?_)
   unfold Stop2_
   refine HCW.out.mono ?_
   rintro e w2 ⟨he, hb⟩
   replace he : e = .returned (.int .i64 0) := he
   subst he
   have HB2 := Aside0.mk (HB0.out.trans (hb.mono HB0.out.size))
   have HG2 := Aside0.mk (blk_below HGB.out hb)
   clear hb
   have x1 : w2.cell? ⟨w.heap.size + 1, 1, none⟩ = some (.int .i64 it) := (blk_cell HG2.out 1).trans rfl
   go_wp2
   go_ret
   have hx : applyB p l k it t s = (14, l) := by unfold applyB; rw [HV.out, if_pos rfl, if_pos c1]
   unfold ApplyP
   rw [hx]
   exact ⟨rfl, Kd.R_below HL.out HB2.out, HB2.out.mono HBS.out⟩
  ·have hit := HIT.out
   have hpl := HPL.out
   have h0 : 0 ≤ it := by omega
   have h1 : it < (p.length : Int) := by omega
   have h2 : it < (l.length : Int) := by omega
   obtain ⟨x, hx⟩ : ∃ x, rd_T37 p it = x := ⟨_, rfl⟩
   have HX := Aside0.mk hx
   clear hx hit hpl
   cases x3 : x.f2
   ·obtain ⟨g, cap, e1, hg1, hg2, _, hg3⟩ := Kd.R_form HL.out (by omega)
    obtain ⟨rfl, rfl⟩ : Al = some ⟨g, 0, none⟩ ∧ cl = cap := by injection e1 with a1 a2 a3; exact ⟨a1, a3⟩
    have HGL := Aside0.mk (And.intro hg1 hg2)
    obtain ⟨f, hf⟩ : ∃ f, rd_T59 l it = f := ⟨_, rfl⟩
    have HF := Aside0.mk hf
    obtain ⟨⟨qf, b⟩, hq⟩ : ∃ q, knownF f t k = q := ⟨_, rfl⟩
    have HQ := Aside0.mk hq
    have HKC : Aside0 (∀ w, Calls Try.prog (doesF k) #[kV f t] w fun e w' => e = .returned (.tuple #[factV qf, .bool b]) ∧ Below w.heap.size w w') := ⟨fun w => by have h := known_call f t k w; rw [hq] at h; exact h⟩
    clear hg1 hg2 hg3 hf hq e1
    go_enter Try.func32, Try.ntmps32
    go_wp2_with (go_at_call 40; refine stop2_ ?_)
    unfold Stop2_
    refine HCW.out.mono ?_
    rintro e w2 ⟨he, hb⟩
    replace he : e = .returned (.int .i64 0) := he
    subst he
    have HB2 := Aside0.mk (HB0.out.trans (hb.mono HB0.out.size))
    have HG2 := Aside0.mk (blk_below HGB.out hb)
    have HGA2 := Aside0.mk (blk_below HGA.out hb)
    clear hb
    have x1 : w2.cell? ⟨w.heap.size + 1, 1, none⟩ = some (.int .i64 it) := (blk_cell HG2.out 1).trans rfl
    have x0 : w2.cell? ⟨w.heap.size, 0, none⟩ = some (.slice Ap p.length cp) := (blk_cell HGA2.out 0).trans rfl
    obtain ⟨ad, A7, c7, e0, z0, z1, z2, _⟩ := at_T37 (Kd.C_below HP.out HB2.out) it h0 h1
    subst e0
    rw [HX.out, x3] at z2
    clear z0 z1
    go_wp2
    have HL2 := Aside0.mk (Kd.R_below HL.out HB2.out)
    obtain ⟨c, hcl, hM, hcc, hfz⟩ := Kd.R_elem HL2.out z59 it h0 h2
    have hc := k59_openM hM
    rw [show l.getD it.toNat z59 = f from HF.out] at hc
    subst hc
    have k0 : w2.drew.cell? ⟨w.heap.size + 1, 0, none⟩ = some (.int .i64 k) := (blk_cell HG2.out 0).trans rfl
    have k1 : w2.drew.cell? ⟨w.heap.size + 1, 1, none⟩ = some (.int .i64 it) := (blk_cell HG2.out 1).trans rfl
    have k2 : w2.drew.cell? ⟨w.heap.size + 1, 2, none⟩ = some (.int .i64 t) := (blk_cell HG2.out 2).trans rfl
    have k3 : w2.drew.cell? ⟨g, it.toNat * 4, none⟩ = some (.int .i64 f.f0) := hcc 0 _ rfl
    have k4 : w2.drew.cell? ⟨g, it.toNat * 4 + 1, none⟩ = some (.int .i64 f.f1) := hcc 1 _ rfl
    have k5 : w2.drew.cell? ⟨g, it.toNat * 4 + 2, none⟩ = some (.int .i64 f.f2) := hcc 2 _ rfl
    have k6 : w2.drew.cell? ⟨g, it.toNat * 4 + 3, none⟩ = some (.bool f.f3) := hcc 3 _ rfl
    clear hcl hM hcc hfz x0 x1 z2
    --MARK5
    refine start_ (n := 18) (S := fun w' => w'.cell? ⟨w.heap.size + 1, 0, none⟩ = some (.int .i64 k) ∧ w'.cell? ⟨w.heap.size + 1, 1, none⟩ = some (.int .i64 it) ∧ w'.cell? ⟨w.heap.size + 1, 2, none⟩ = some (.int .i64 t) ∧ w'.cell? ⟨g, it.toNat * 4, none⟩ = some (.int .i64 f.f0) ∧ w'.cell? ⟨g, it.toNat * 4 + 1, none⟩ = some (.int .i64 f.f1) ∧ w'.cell? ⟨g, it.toNat * 4 + 2, none⟩ = some (.int .i64 f.f2) ∧ w'.cell? ⟨g, it.toNat * 4 + 3, none⟩ = some (.bool f.f3)) (ds := [16]) #[false, false, false, false, false, false, false, false, false, false, false, false, false, false, false, false, false, false] (by kernel_rfl) rfl rfl ⟨k0, k1, k2, k3, k4, k5, k6⟩ (fun hHeld => ?_)
    refine ws_ 8 #[true, true, true, true, true, true, true, true, true, true, false, false, false, false, false, false, false, false] [(0, false, some 29), (1, false, some 30), (5, false, some 34), (8, false, some 37), (2, true, some 31), (3, false, some 32), (4, true, some 33), (6, true, some 35), (7, false, some 36), (9, true, some 38)] (by kernel_rfl) rfl ?_
    repeat (first | (refine ws_pure (v := ?_) (a' := ?_) rfl rfl (fun _ _ _ h => h) (Or.inl ⟨by rfl, ?_⟩) ?_ ?_; rotate_left; (focus intro w'; go_simp; with_reducible rfl); rotate_left; (focus simp only [Act.put, List.setIfInBounds_toArray, List.set_cons_zero, List.set_cons_succ, i64_w, i32_w]; rfl)) | (refine ws_take (v := ?_) (a' := ?_) rfl rfl (fun _ _ _ h => h) (Or.inl ⟨by rfl, ?_⟩) hHeld ?_ ?_; rotate_left; (focus rintro w' ⟨s0, s1, s2, s3, s4, s5, s6⟩; go_simp; with_reducible rfl); rotate_left; (focus simp only [Act.put, List.setIfInBounds_toArray, List.set_cons_zero, List.set_cons_succ, i64_w, i32_w]; rfl)))
    refine ws_nil ?_
    refine join_ (σ := Nat) 2 #[true, true, true, true, true, true, true, true, true, true, true, true, true, true, true, true, false, false] (fun s => [(39, .func (.func (doesF k)) #[kV f t] #[]), (40, .tuple #[factV qf, .bool b]), (7, .pointer (some ⟨s, 0, none⟩)), (28, .tuple #[factV qf, .bool b]), (41, factV qf), (42, .bool b)]) (fun s w' => FactP w2 w' s) ?_ ?_
    rotate_left
    ·intro hCont
     refine two_ (i := 10) (j := 15) (Ni := some 39) (Nj := some 7) #[true, true, true, true, true, true, true, true, true, true, true, false, false, false, false, false, false, false] #[true, true, true, true, true, true, true, true, true, true, false, false, false, false, false, true, false, false] rfl rfl rfl rfl (by kernel_rfl) (by decide) (by decide) (fun K hK => ?_) (fun K hK => ?_)
     ·skip
      refine goes_ Try.func41 (by kernel_rfl) rfl #[kV f t, .int .i64 k] (by rfl) rfl rfl (by first | rfl | (simp only [List.map_toArray, List.map_cons, List.map_nil]; rfl)) ?_
      refine (does_walk f t k _).mono ?_
      rintro e w3 ⟨rfl, hb⟩
      refine ⟨_, rfl, ?_⟩
      have HB3 := Aside0.mk hb
      clear hb
      refine hK.out _ _ ⟨(cell_bel HB3.out hHeld.1), (cell_bel HB3.out hHeld.2.1), (cell_bel HB3.out hHeld.2.2.1), (cell_bel HB3.out hHeld.2.2.2.1), (cell_bel HB3.out hHeld.2.2.2.2.1), (cell_bel HB3.out hHeld.2.2.2.2.2.1), (cell_bel HB3.out hHeld.2.2.2.2.2.2)⟩ (fun hHeld => ?_)
      clear hK K
      refine norm_ (a' := ?_) ?_ ?_
      rotate_left
      ·show Act.put _ (some 39) _ = _
       simp only [Act.put, List.setIfInBounds_toArray, List.set_cons_zero, List.set_cons_succ, i64_w, i32_w]
       rfl
      refine two_ (i := 11) (j := 15) (Ni := some 40) (Nj := some 7) #[true, true, true, true, true, true, true, true, true, true, true, true, false, false, false, false, false, false] #[true, true, true, true, true, true, true, true, true, true, true, false, false, false, false, true, false, false] rfl rfl rfl rfl (by kernel_rfl) (by decide) (by decide) (fun K hK => ?_) (fun K hK => ?_)
      ·skip
       refine goesDyn_ (f := doesF k) (.tmp 39) #[] #[kV f t] (fun args w => known_enters k args w) (by rfl) rfl rfl rfl ?_
       refine (HKC.out _).mono ?_
       rintro e w4 ⟨rfl, hb⟩
       refine ⟨_, rfl, ?_⟩
       have HB4 := Aside0.mk hb
       clear hb
       refine hK.out _ _ ⟨(cell_bel HB4.out hHeld.1), (cell_bel HB4.out hHeld.2.1), (cell_bel HB4.out hHeld.2.2.1), (cell_bel HB4.out hHeld.2.2.2.1), (cell_bel HB4.out hHeld.2.2.2.2.1), (cell_bel HB4.out hHeld.2.2.2.2.2.1), (cell_bel HB4.out hHeld.2.2.2.2.2.2)⟩ (fun hHeld => ?_)
       clear hK K
       refine norm_ (a' := ?_) ?_ ?_
       rotate_left
       ·show Act.put _ (some 40) _ = _
        simp only [Act.put, List.setIfInBounds_toArray, List.set_cons_zero, List.set_cons_succ, i64_w, i32_w]
        rfl
       refine ws_ 3 #[true, true, true, true, true, true, true, true, true, true, true, true, true, true, true, false, false, false] [(12, false, some 28), (13, false, some 41), (14, false, some 42)] (by kernel_rfl) rfl ?_
       repeat (first | (refine ws_pure (v := ?_) (a' := ?_) rfl rfl (fun _ _ _ h => h) (Or.inl ⟨by rfl, ?_⟩) ?_ ?_; rotate_left; (focus intro w'; go_simp; with_reducible rfl); rotate_left; (focus simp only [Act.put, List.setIfInBounds_toArray, List.set_cons_zero, List.set_cons_succ, i64_w, i32_w]; rfl)))
       refine ws_nil ?_
       refine one_ (i := 15) (N := some 7) #[true, true, true, true, true, true, true, true, true, true, true, true, true, true, true, true, false, false] rfl rfl (by kernel_rfl) (by decide) (fun K hK => ?_)
       refine value_ (w1 := ?_) (v := ?_) (by rfl) rfl ?_ ?_
       rotate_left 2
       ·go_simp
        constructor
        ·rfl
        ·rfl
       refine hK.out _ _ ⟨(cell_al hHeld.1), (cell_al hHeld.2.1), (cell_al hHeld.2.2.1), (cell_al hHeld.2.2.2.1), (cell_al hHeld.2.2.2.2.1), (cell_al hHeld.2.2.2.2.2.1), (cell_al hHeld.2.2.2.2.2.2)⟩ (fun hHeld => ?_)
       clear hK K
       refine norm_ (a' := ?_) ?_ ?_
       rotate_left
       ·show Act.put _ (some 7) _ = _
        simp only [Act.put, List.setIfInBounds_toArray, List.set_cons_zero, List.set_cons_succ, i64_w, i32_w]
        rfl
       exact norm_ (by simp only [putAll, Act.put, List.setIfInBounds_toArray, List.set_cons_zero, List.set_cons_succ]) (hCont (w4.heap.size) _ (factP_a HB3.out HB4.out))
      ·skip
       refine value_ (w1 := ?_) (v := ?_) (by rfl) rfl ?_ ?_
       rotate_left 2
       ·go_simp
        constructor
        ·rfl
        ·rfl
       refine hK.out _ _ ⟨(cell_al hHeld.1), (cell_al hHeld.2.1), (cell_al hHeld.2.2.1), (cell_al hHeld.2.2.2.1), (cell_al hHeld.2.2.2.2.1), (cell_al hHeld.2.2.2.2.2.1), (cell_al hHeld.2.2.2.2.2.2)⟩ (fun hHeld => ?_)
       clear hK K
       refine norm_ (a' := ?_) ?_ ?_
       rotate_left
       ·show Act.put _ (some 7) _ = _
        simp only [Act.put, List.setIfInBounds_toArray, List.set_cons_zero, List.set_cons_succ, i64_w, i32_w]
        rfl
       refine one_ (i := 11) (N := some 40) #[true, true, true, true, true, true, true, true, true, true, true, true, false, false, false, true, false, false] rfl rfl (by kernel_rfl) (by decide) (fun K hK => ?_)
       refine goesDyn_ (f := doesF k) (.tmp 39) #[] #[kV f t] (fun args w => known_enters k args w) (by rfl) rfl rfl rfl ?_
       refine (HKC.out _).mono ?_
       rintro e w4 ⟨rfl, hb⟩
       refine ⟨_, rfl, ?_⟩
       have HB4 := Aside0.mk hb
       clear hb
       refine hK.out _ _ ⟨(cell_bel HB4.out hHeld.1), (cell_bel HB4.out hHeld.2.1), (cell_bel HB4.out hHeld.2.2.1), (cell_bel HB4.out hHeld.2.2.2.1), (cell_bel HB4.out hHeld.2.2.2.2.1), (cell_bel HB4.out hHeld.2.2.2.2.2.1), (cell_bel HB4.out hHeld.2.2.2.2.2.2)⟩ (fun hHeld => ?_)
       clear hK K
       refine norm_ (a' := ?_) ?_ ?_
       rotate_left
       ·show Act.put _ (some 40) _ = _
        simp only [Act.put, List.setIfInBounds_toArray, List.set_cons_zero, List.set_cons_succ, i64_w, i32_w]
        rfl
       refine ws_ 2 #[true, true, true, true, true, true, true, true, true, true, true, true, true, true, true, true, false, false] [(12, false, some 28), (13, false, some 41), (14, false, some 42)] (by kernel_rfl) rfl ?_
       repeat (first | (refine ws_pure (v := ?_) (a' := ?_) rfl rfl (fun _ _ _ h => h) (Or.inl ⟨by rfl, ?_⟩) ?_ ?_; rotate_left; (focus intro w'; go_simp; with_reducible rfl); rotate_left; (focus simp only [Act.put, List.setIfInBounds_toArray, List.set_cons_zero, List.set_cons_succ, i64_w, i32_w]; rfl)))
       refine ws_nil ?_
       exact norm_ (by simp only [putAll, Act.put, List.setIfInBounds_toArray, List.set_cons_zero, List.set_cons_succ]) (hCont (w3.heap.size) _ (factP_b HB3.out HB4.out))
     ·skip
      refine value_ (w1 := ?_) (v := ?_) (by rfl) rfl ?_ ?_
      rotate_left 2
      ·go_simp
       constructor
       ·rfl
       ·rfl
      refine hK.out _ _ ⟨(cell_al hHeld.1), (cell_al hHeld.2.1), (cell_al hHeld.2.2.1), (cell_al hHeld.2.2.2.1), (cell_al hHeld.2.2.2.2.1), (cell_al hHeld.2.2.2.2.2.1), (cell_al hHeld.2.2.2.2.2.2)⟩ (fun hHeld => ?_)
      clear hK K
      refine norm_ (a' := ?_) ?_ ?_
      rotate_left
      ·show Act.put _ (some 7) _ = _
       simp only [Act.put, List.setIfInBounds_toArray, List.set_cons_zero, List.set_cons_succ, i64_w, i32_w]
       rfl
      refine one_ (i := 10) (N := some 39) #[true, true, true, true, true, true, true, true, true, true, true, false, false, false, false, true, false, false] rfl rfl (by kernel_rfl) (by decide) (fun K hK => ?_)
      refine goes_ Try.func41 (by kernel_rfl) rfl #[kV f t, .int .i64 k] (by rfl) rfl rfl (by first | rfl | (simp only [List.map_toArray, List.map_cons, List.map_nil]; rfl)) ?_
      refine (does_walk f t k _).mono ?_
      rintro e w3 ⟨rfl, hb⟩
      refine ⟨_, rfl, ?_⟩
      have HB3 := Aside0.mk hb
      clear hb
      refine hK.out _ _ ⟨(cell_bel HB3.out hHeld.1), (cell_bel HB3.out hHeld.2.1), (cell_bel HB3.out hHeld.2.2.1), (cell_bel HB3.out hHeld.2.2.2.1), (cell_bel HB3.out hHeld.2.2.2.2.1), (cell_bel HB3.out hHeld.2.2.2.2.2.1), (cell_bel HB3.out hHeld.2.2.2.2.2.2)⟩ (fun hHeld => ?_)
      clear hK K
      refine norm_ (a' := ?_) ?_ ?_
      rotate_left
      ·show Act.put _ (some 39) _ = _
       simp only [Act.put, List.setIfInBounds_toArray, List.set_cons_zero, List.set_cons_succ, i64_w, i32_w]
       rfl
      refine one_ (i := 11) (N := some 40) #[true, true, true, true, true, true, true, true, true, true, true, true, false, false, false, true, false, false] rfl rfl (by kernel_rfl) (by decide) (fun K hK => ?_)
      refine goesDyn_ (f := doesF k) (.tmp 39) #[] #[kV f t] (fun args w => known_enters k args w) (by rfl) rfl rfl rfl ?_
      refine (HKC.out _).mono ?_
      rintro e w4 ⟨rfl, hb⟩
      refine ⟨_, rfl, ?_⟩
      have HB4 := Aside0.mk hb
      clear hb
      refine hK.out _ _ ⟨(cell_bel HB4.out hHeld.1), (cell_bel HB4.out hHeld.2.1), (cell_bel HB4.out hHeld.2.2.1), (cell_bel HB4.out hHeld.2.2.2.1), (cell_bel HB4.out hHeld.2.2.2.2.1), (cell_bel HB4.out hHeld.2.2.2.2.2.1), (cell_bel HB4.out hHeld.2.2.2.2.2.2)⟩ (fun hHeld => ?_)
      clear hK K
      refine norm_ (a' := ?_) ?_ ?_
      rotate_left
      ·show Act.put _ (some 40) _ = _
       simp only [Act.put, List.setIfInBounds_toArray, List.set_cons_zero, List.set_cons_succ, i64_w, i32_w]
       rfl
      refine ws_ 2 #[true, true, true, true, true, true, true, true, true, true, true, true, true, true, true, true, false, false] [(12, false, some 28), (13, false, some 41), (14, false, some 42)] (by kernel_rfl) rfl ?_
      repeat (first | (refine ws_pure (v := ?_) (a' := ?_) rfl rfl (fun _ _ _ h => h) (Or.inl ⟨by rfl, ?_⟩) ?_ ?_; rotate_left; (focus intro w'; go_simp; with_reducible rfl); rotate_left; (focus simp only [Act.put, List.setIfInBounds_toArray, List.set_cons_zero, List.set_cons_succ, i64_w, i32_w]; rfl)))
      refine ws_nil ?_
      exact norm_ (by simp only [putAll, Act.put, List.setIfInBounds_toArray, List.set_cons_zero, List.set_cons_succ]) (hCont (w2.heap.size) _ (factP_c HB3.out HB4.out))
    rintro g7 W6 HF6
    have HKP : Aside0 (FactP w2 W6 g7) := ⟨HF6⟩
    have q0 := (blk_cell HKP.out.2.2 0).trans rfl
    have q1 := (blk_cell HKP.out.2.2 1).trans rfl
    have q2 := (blk_cell HKP.out.2.2 2).trans rfl
    have q3 := (blk_cell HKP.out.2.2 3).trans rfl
    have y0 := blk_frozen HKP.out.2.2 0
    have y1 := blk_frozen HKP.out.2.2 1
    have y2 := blk_frozen HKP.out.2.2 2
    have y3 := blk_frozen HKP.out.2.2 3
    clear HF6
    refine norm_ (a' := ?_) ?_ ?_
    rotate_left
    ·simp only [putAll, Act.put, List.setIfInBounds_toArray, List.set_cons_zero, List.set_cons_succ]
     rfl
    refine last_ (i := 16) (N := none) #[true, true, true, true, true, true, true, true, true, true, true, true, true, true, true, true, true, false] rfl rfl (by kernel_rfl) (by decide) (fun K hK => ?_)
    refine skip_ (w1 := ?_) (by rfl) rfl ?_ ?_
    rotate_left
    ·go_simp
     rfl
    refine hK.out _ _ ?_
    clear hK K
    refine pure_ (i := 17) (N := some 8) (v := ?_) (a' := ?_) #[true, true, true, true, true, true, true, true, true, true, true, true, true, true, true, true, true, true] rfl rfl (by kernel_rfl) (fun _ _ _ h => h) (Or.inl ⟨by rfl, ?_⟩) ?_ ?_
    rotate_left
    ·intro w'
     go_simp
     with_reducible rfl
    rotate_left
    ·simp only [Act.put, List.setIfInBounds_toArray, List.set_cons_zero, List.set_cons_succ, i64_w, i32_w]
     rfl
    refine done_ (by kernel_rfl) ?_
    --END5
    have HG7 := Aside0.mk (blk_put (blk_put (blk_put (blk_put HKP.out.2.2 0 (.int .i64 qf.f0) rfl) 1 (.int .i64 qf.f1) rfl) 2 (.int .i64 qf.f2) rfl) 3 (.bool qf.f3) rfl)
    have HL6 := Aside0.mk (Kd.R_below (Kd.R_mono (ok' := fun b => ok b ∧ b < w2.heap.size) (Kd.R_bound HL2.out) (fun b hb => ⟨hb.1, hb.2.2.1⟩)) HKP.out.1)
    have HFar : Aside0 (∀ b, ok b ∧ b < w2.heap.size → b ≠ g7) := ⟨fun b hb => by have := HKP.out.2.1; omega⟩
    have HL7 := Aside0.mk (Kd.R_far (p := ⟨g7, 3, none⟩) (Kd.R_far (p := ⟨g7, 2, none⟩) (Kd.R_far (p := ⟨g7, 1, none⟩) (Kd.R_far (p := ⟨g7, 0, none⟩) HL6.out HFar.out (.int .i64 qf.f0)) HFar.out (.int .i64 qf.f1)) HFar.out (.int .i64 qf.f2)) HFar.out (.bool qf.f3))
    have HB6 := Aside0.mk ((HB2.out.mono HBS.out).trans (HKP.out.1.mono (Nat.le_trans HBS.out HB2.out.size)))
    have hb7 : base ≤ g7 := Nat.le_trans (Nat.le_trans HBS.out HB2.out.size) HKP.out.2.1
    have HB7 := Aside0.mk ((((HB6.out.setCell (p := ⟨g7, 0, none⟩) hb7 (.int .i64 qf.f0)).setCell (p := ⟨g7, 1, none⟩) hb7 (.int .i64 qf.f1)).setCell (p := ⟨g7, 2, none⟩) hb7 (.int .i64 qf.f2)).setCell (p := ⟨g7, 3, none⟩) hb7 (.bool qf.f3))
    have hn7 : w.heap.size + 1 ≠ g7 := by have h1 := blk_lt HG2.out; have h2 := HKP.out.2.1; omega
    have HE7 := Aside0.mk (blk_far (p := ⟨g7, 3, none⟩) (blk_far (p := ⟨g7, 2, none⟩) (blk_far (p := ⟨g7, 1, none⟩) (blk_far (p := ⟨g7, 0, none⟩) (blk_below HG2.out HKP.out.1) hn7 (.int .i64 qf.f0)) hn7 (.int .i64 qf.f1)) hn7 (.int .i64 qf.f2)) hn7 (.bool qf.f3))
    clear hb7 hn7 q0 q1 q2 q3 y0 y1 y2 y3 hHeld HKP HB6 HL6 HFar
    generalize (((W6.setCell ⟨g7, 0, none⟩ (.int .i64 qf.f0)).setCell ⟨g7, 1, none⟩ (.int .i64 qf.f1)).setCell ⟨g7, 2, none⟩ (.int .i64 qf.f2)).setCell ⟨g7, 3, none⟩ (.bool qf.f3) = W7 at HG7 HL7 HB7 HE7 ⊢
    have x1 : W7.cell? ⟨w.heap.size + 1, 1, none⟩ = some (.int .i64 it) := (blk_cell HE7.out 1).trans rfl
    have q0 : W7.cell? ⟨g7, 0, none⟩ = some (.int .i64 qf.f0) := (blk_cell HG7.out 0).trans rfl
    have q1 : W7.cell? ⟨g7, 1, none⟩ = some (.int .i64 qf.f1) := (blk_cell HG7.out 1).trans rfl
    have q2 : W7.cell? ⟨g7, 2, none⟩ = some (.int .i64 qf.f2) := (blk_cell HG7.out 2).trans rfl
    have q3 : W7.cell? ⟨g7, 3, none⟩ = some (.bool qf.f3) := (blk_cell HG7.out 3).trans rfl
    cases b with
    | false =>
     go_wp2
     go_ret
     have hx : applyB p l k it t s = (14, l) := by unfold applyB; rw [HV.out, if_pos rfl, if_neg (by omega), HX.out, x3, HF.out, HQ.out]; rfl
     unfold ApplyP
     rw [hx]
     exact ⟨rfl, Kd.R_mono HL7.out (fun b hb => hb.1), HB7.out⟩
    | true =>
     obtain ⟨c, hcl, hM, hcc, hfz⟩ := Kd.R_elem HL7.out z59 it h0 h2
     have hc := k59_openM hM
     subst hc
     have HCC := Aside0.mk hcc
     clear hcl hM hcc hfz
     go_wp2_with ((with_reducible refine gate_store (t := 59) (p := 49) rfl ?_); refine stop2_ ?_)
     unfold Stop2_
     refine Kd.R_store k59 (w0 := w) base rfl rfl 59 (.tmp 49) (.tmp 48) rfl 59 (g := g) (n := l.length) (cap := cl) (o' := it.toNat * 4) it 0 l qf (factV qf) [.int .i64 qf.f0, .int .i64 qf.f1, .int .i64 qf.f2, .bool qf.f3] _ (fun b => ok b ∧ b < w2.heap.size) (fun _ => False) rfl rfl rfl rfl (by kernel_rfl) (by simp [Value.oneCell']) HL7.out h0 h2 rfl HCC.out (Nat.le_refl _) (k59_mkM _ _ _ qf) (fun _ h => h.elim) HB7.out ?_
     intro w9 hR hB hg
     have HR9 := Aside0.mk hR
     have HB9 := Aside0.mk hB
     clear hR hB hg
     go_wp2
     go_ret
     have hx : applyB p l k it t s = (0, l.set it.toNat qf) := by unfold applyB; rw [HV.out, if_pos rfl, if_neg (by omega), HX.out, x3, HF.out, HQ.out]; rfl
     unfold ApplyP
     rw [hx]
     exact ⟨rfl, Kd.R_mono HR9.out (fun b hb => hb.1), HB9.out⟩
   ·go_enter Try.func32, Try.ntmps32
    go_wp2_with (go_at_call 40; refine stop2_ ?_)
    unfold Stop2_
    refine HCW.out.mono ?_
    rintro e w2 ⟨he, hb⟩
    replace he : e = .returned (.int .i64 0) := he
    subst he
    have HB2 := Aside0.mk (HB0.out.trans (hb.mono HB0.out.size))
    have HG2 := Aside0.mk (blk_below HGB.out hb)
    have HGA2 := Aside0.mk (blk_below HGA.out hb)
    clear hb
    have x1 : w2.cell? ⟨w.heap.size + 1, 1, none⟩ = some (.int .i64 it) := (blk_cell HG2.out 1).trans rfl
    have x0 : w2.cell? ⟨w.heap.size, 0, none⟩ = some (.slice Ap p.length cp) := (blk_cell HGA2.out 0).trans rfl
    obtain ⟨ad, A7, c7, e0, z0, z1, z2, _⟩ := at_T37 (Kd.C_below HP.out HB2.out) it h0 h1
    subst e0
    rw [HX.out, x3] at z2
    clear z0 z1
    go_wp2
    go_ret
    have hx : applyB p l k it t s = (14, l) := by unfold applyB; rw [HV.out, if_pos rfl, if_neg (by omega), HX.out, x3]; rfl
    unfold ApplyP
    rw [hx]
    exact ⟨rfl, Kd.R_below HL.out HB2.out, HB2.out.mono HBS.out⟩
end Go.Proofs.Ytihpndignekheaa.F
end

section
namespace Go.Proofs.Ytihpndignekheaa.F
open Go.RowKit Go.Proofs.YtihpndignekheaaW.PrintWords Go.Proofs.YtihpndignekheaaW.PrintLast Go.Proofs.YtihpndignekheaaW.PrintMore
attribute [local go_sem] max2_int min2_int max_two min_two max_three min_three max_four min_four
set_option linter.unusedVariables false
set_option linter.unusedSimpArgs false
def fineB (f : S59) : Bool := decide (0 ≤ f.f0) && decide (f.f0 ≤ 3) && decide (0 ≤ f.f2) && decide (f.f2 ≤ 3) && (decide (f.f1 = f.f2) || decide (f.f1 = f.f2 + 1)) && (!decide (f.f1 > 0) || decide (f.f0 = 2)) && (!f.f3 || decide (f.f1 > f.f2))
def zeroB (f : S59) : Bool := !((!((f.f0) == 0) || (!((f.f1) == 0) || (!((f.f2) == 0) || ((f.f3))))))
def factOk (p : List S37) (l : List S59) (j : Nat) : Bool := fineB (rd_T59 l j) && (!(rd_T37 p j).f2 || zeroB (rd_T59 l j))
def factsB (p : List S37) (l : List S59) : Bool := decide (l.length = p.length) && (rightB p && (List.range' 0 l.length).all (factOk p l))
def smallP (p : List S37) : Bool := p.all fun x => decide (x.f7.length ≤ 1000000)
theorem w64_in_ (n : Int) (h : -9223372036854775808 ≤ n ∧ n ≤ 9223372036854775807) : wrap64 n = n := by unfold wrap64; omega
theorem fine_eq (k : Nat) (f : S59) : fact_fine.f (k + 1) f.f0 f.f1 f.f2 f.f3 = some (fineB f) := by
 obtain ⟨a, b, c, d⟩ := f
 unfold fact_fine.f fineB
 dsimp only
 by_cases a1 : a < 0
 ·rw [if_pos a1]; simp [fact_fine.j0]; omega
 rw [if_neg a1]
 by_cases a2 : a > 3
 ·rw [if_pos a2]; simp [fact_fine.j0]; omega
 rw [if_neg a2]
 by_cases a3 : c < 0
 ·rw [if_pos a3]; simp [fact_fine.j0]; omega
 rw [if_neg a3]
 by_cases a4 : c > 3
 ·simp [fact_fine.j0, a4]; omega
 rw [decide_eq_false a4]
 have hw : wrap64 (c + 1) = c + 1 := w64_in_ _ (by omega)
 simp only [fact_fine.j0, hw]
 rw [decide_eq_true (by omega : 0 ≤ a), decide_eq_true (by omega : a ≤ 3), decide_eq_true (by omega : 0 ≤ c), decide_eq_true (by omega : c ≤ 3)]
 by_cases b1 : b = c
 ·subst b1
  by_cases b3 : b > 0 <;> by_cases b4 : a = 2 <;> cases d <;> simp [b3, b4]
 by_cases b2 : b = c + 1
 ·subst b2
  by_cases b3 : c + 1 > 0 <;> by_cases b4 : a = 2 <;> cases d <;> simp [b1, b3, b4] <;> omega
 simp [b1, b2]
theorem factloop_eq (p : List S37) (l : List S59) (hpl : l.length = p.length) (hl : l.length ≤ 1000000) : ∀ (m i k : Nat), i + m = l.length → fact_Check.l0 (m + 2 + k) l (l.length : Int) (i : Int) p = some (if (List.range' i m).all (factOk p l) then 0 else 2) := by
 intro m
 induction m with
 | zero =>
  intro i k h
  rw [show 0 + 2 + k = (k + 1) + 1 from by omega]
  unfold fact_Check.l0
  rw [if_neg (by omega)]
  rfl
 | succ m ih =>
  intro i k h
  rw [show m + 1 + 2 + k = (m + 2 + k) + 1 from by omega]
  unfold fact_Check.l0
  rw [if_pos (by omega), if_pos (by omega), if_pos (by omega), show m + 2 + k = (m + 1 + k) + 1 from by omega, fine_eq, show (m + 1 + k) + 1 = m + 2 + k from by omega]
  have hw : wrap64 ((i : Int) + 1) = ((i + 1 : Nat) : Int) := by rw [w64_in_ _ (by omega)]; omega
  rw [hw, ih (i + 1) k (by omega), List.range'_succ, List.all_cons]
  simp only [Option.bind_some, factOk, zeroB]
  rw [if_pos (by omega : (i : Int) < (p.length : Int))]
  by_cases h1 : fineB (rd_T59 l i) = true <;> by_cases h2 : (rd_T37 p i).f2 = true <;> (try simp only [Bool.not_eq_true] at h1) <;> (try simp only [Bool.not_eq_true] at h2) <;> simp only [h1, h2] <;> generalize ((rd_T59 l i).f0 == 0) = y1 <;> generalize ((rd_T59 l i).f1 == 0) = y2 <;> generalize ((rd_T59 l i).f2 == 0) = y3 <;> generalize (rd_T59 l i).f3 = y4 <;> cases y1 <;> cases y2 <;> cases y3 <;> cases y4 <;> first | rfl | (simp; done)
theorem fact_check_at (p : List S37) (l : List S59) (hp : smallP p = true) (hl : l.length ≤ 1000000) : fact_Check.f (l.length + 2 + 1) p l = some (if factsB p l then 0 else 2) := by
 unfold fact_Check.f factsB plan_Right.f
 by_cases h : l.length = p.length
 ·rw [if_pos (by omega), if_pos (by exact hp), Option.bind_some, decide_eq_true h]
  cases rightB p
  ·simp [fact_Check.j0]
  ·simp only [fact_Check.j0, Bool.not_true, Bool.false_eq_true, if_false, Bool.true_and]
   have := factloop_eq p l h hl l.length 0 0 (by omega)
   exact this
 ·rw [if_neg (by omega), decide_eq_false h]
  simp [fact_Check.j0]
theorem fact_check_eq (p : List S37) (l : List S59) (hp : smallP p = true) (hl : l.length ≤ 1000000) : ∃ k, fact_Check.f k p l = some (if factsB p l then 0 else 2) := ⟨_, fact_check_at p l hp hl⟩
def applyL (p : List S37) (l : List S59) (k it t : Int) (s : List Int) : List S59 × Int :=
 if factsB p l then (if (applyB p l k it t s).1 = 0 then ((applyB p l k it t s).2, 0) else ([], (applyB p l k it t s).1)) else ([], 2)
set_option maxHeartbeats 8000000 in
set_option maxRecDepth 100000 in
theorem Apply_walk (p : List S37) (Ap : Option Addr) (cp : Nat) (l : List S59) (Al : Option Addr) (cl : Nat) (k it t : Int) (s : List Int) (As : Option Addr) (cs : Nat) (w : World)
  (hp : Kd.C k37 w Ap p.length p) (hcp : p.length ≤ cp) (hl : Kd.C k59 w Al l.length l) (hcl : l.length ≤ cl) (hs : Kd.C (Kd.int .i64) w As s.length s) (hcs : s.length ≤ cs) (hsm : smallP p = true) (hl6 : l.length ≤ 1000000) :
  Calls Try.prog 22 #[.agg #[.slice Ap p.length cp], .slice Al l.length cl, .agg #[.int .i64 k, .int .i64 it, .int .i64 t, .slice As s.length cs]] w fun e w' => ∃ v, e = .returned (.tuple #[v, .int .i64 (applyL p l k it t s).2]) ∧ Kd.R k59 59 w' w.heap.size (fun _ => True) v (applyL p l k it t s).1 ∧ Below w.heap.size w w' := by
 have HP := Aside0.mk hp
 have HL := Aside0.mk hl
 have HS := Aside0.mk hs
 have HCP := Aside0.mk hcp
 have HCL := Aside0.mk hcl
 have HCS := Aside0.mk hcs
 have HL6 := Aside0.mk hl6
 have HGA := Aside0.mk (blk_alloc (blk_new w (.cells #[.slice Ap p.length cp] 24 (0, 0))) (.cells #[.int .i64 k, .int .i64 it, .int .i64 t, .slice As s.length cs] 68 (0, 0)))
 have hgb := blk_new (w.alloc (.cells #[.slice Ap p.length cp] 24 (0, 0))) (.cells #[.int .i64 k, .int .i64 it, .int .i64 t, .slice As s.length cs] 68 (0, 0))
 rw [show (w.alloc (.cells #[.slice Ap p.length cp] 24 (0, 0))).heap.size = w.heap.size + 1 from by simp] at hgb
 have HGB := Aside0.mk hgb
 clear hgb
 have HB0 : Aside0 (Below w.heap.size w ((w.alloc (.cells #[.slice Ap p.length cp] 24 (0, 0))).alloc (.cells #[.int .i64 k, .int .i64 it, .int .i64 t, .slice As s.length cs] 68 (0, 0)))) := ⟨below_alloc (below_alloc (Below.refl _ _) _) _⟩
 obtain ⟨kf, hkf⟩ := fact_check_eq p l hsm hl6
 have HKF := Aside0.mk hkf
 clear hp hcp hl hcl hs hcs hsm hl6 hkf
 obtain ⟨r, hr⟩ : ∃ r, applyL p l k it t s = r := ⟨_, rfl⟩
 have HR := Aside0.mk hr
 rw [hr]
 clear hr
 obtain ⟨v, hv⟩ : ∃ v, factsB p l = v := ⟨_, rfl⟩
 have HV := Aside0.mk hv
 rw [hv] at HKF
 clear hv
 cases v with
 | false =>
  go_enter Try.func22, Try.ntmps22
  go_wp2_with (go_at_call 28; refine stop2_ ?_)
  unfold Stop2_
  refine (fact_Check.calls kf Ap cp p Al cl l 2 _ (Kd.C_below HP.out HB0.out) HCP.out (Kd.C_below HL.out HB0.out) HCL.out HKF.out).mono ?_
  rintro e w2 ⟨rfl, hb⟩
  have HB2 := Aside0.mk (HB0.out.trans (hb.mono HB0.out.size))
  clear hb
  go_wp2
  go_ret2
  have hx : r = ([], 2) := by rw [← HR.out]; unfold applyL; rw [HV.out]; rfl
  rw [hx]
  exact ⟨_, rfl, Kd.R_nil _ _ _ _ _, HB2.out⟩
 | true =>
  have HPL : Aside0 (l.length = p.length) := ⟨by have h := HV.out; unfold factsB at h; simp at h; exact h.1⟩
  obtain ⟨⟨er, l4⟩, ha⟩ : ∃ a, applyB p l k it t s = a := ⟨_, rfl⟩
  have HA := Aside0.mk ha
  clear ha
  go_enter Try.func22, Try.ntmps22
  go_wp2_with (go_at_call 28; refine stop2_ ?_)
  unfold Stop2_
  refine (fact_Check.calls kf Ap cp p Al cl l 0 _ (Kd.C_below HP.out HB0.out) HCP.out (Kd.C_below HL.out HB0.out) HCL.out HKF.out).mono ?_
  rintro e w2 ⟨rfl, hb⟩
  have HB2 := Aside0.mk (HB0.out.trans (hb.mono HB0.out.size))
  have HGA2 := Aside0.mk (blk_below HGA.out hb)
  have HGB2 := Aside0.mk (blk_below HGB.out hb)
  clear hb
  go_wp2_with (go_at_call 31; refine stop2_ ?_)
  unfold Stop2_
  refine (clone_walk Al cl l _ (Kd.C_below HL.out HB2.out) HL6.out).mono ?_
  rintro e w3 ⟨v3, rfl, hR3, hb⟩
  obtain ⟨A3, c3, rfl⟩ := Kd.R_slice hR3
  have HB3 := Aside0.mk (HB2.out.trans (hb.mono HB2.out.size))
  have HR3 := Aside0.mk (Kd.R_lower hR3 HB2.out.size)
  have HGA3 := Aside0.mk (blk_below HGA2.out hb)
  have HGB3 := Aside0.mk (blk_below HGB2.out hb)
  clear hb hR3
  have haw := apply_walk p Ap cp l A3 c3 k it t s As cs w.heap.size (fun _ => True) w3 (Kd.C_below HP.out HB3.out) HR3.out HPL.out (Kd.C_below HS.out HB3.out) HCS.out HB3.out.size
  unfold ApplyP at haw
  rw [HA.out] at haw
  have HAW := Aside0.mk haw
  clear haw
  have x0 : w3.cell? ⟨w.heap.size, 0, none⟩ = some (.slice Ap p.length cp) := (blk_cell HGA3.out 0).trans rfl
  have y0 : w3.cell? ⟨w.heap.size + 1, 0, none⟩ = some (.int .i64 k) := (blk_cell HGB3.out 0).trans rfl
  have y1 : w3.cell? ⟨w.heap.size + 1, 1, none⟩ = some (.int .i64 it) := (blk_cell HGB3.out 1).trans rfl
  have y2 : w3.cell? ⟨w.heap.size + 1, 2, none⟩ = some (.int .i64 t) := (blk_cell HGB3.out 2).trans rfl
  have y3 : w3.cell? ⟨w.heap.size + 1, 3, none⟩ = some (.slice As s.length cs) := (blk_cell HGB3.out 3).trans rfl
  go_wp2_with (go_at_call 32; refine stop2_ ?_)
  unfold Stop2_
  refine HAW.out.mono ?_
  rintro e w4 ⟨rfl, hR4, hb⟩
  have HR4 := Aside0.mk hR4
  have HB4 := Aside0.mk (HB3.out.trans hb)
  clear hR4 hb x0 y0 y1 y2 y3
  by_cases hE : er = 0
  ·have HX : Aside0 (r = (l4, 0)) := ⟨by rw [← HR.out]; unfold applyL; rw [HV.out, if_pos rfl, HA.out, if_pos hE]⟩
   subst hE
   go_wp2
   go_ret2
   rw [HX.out]
   exact ⟨_, rfl, HR4.out, HB4.out⟩
  ·have HX : Aside0 (r = ([], er)) := ⟨by rw [← HR.out]; unfold applyL; rw [HV.out, if_pos rfl, HA.out, if_neg hE]⟩
   go_wp2
   go_ret2
   rw [HX.out]
   exact ⟨_, rfl, Kd.R_nil _ _ _ _ _, HB4.out⟩
def fact_Apply.f (l0_0 : List S37) (l1 : List S59) (a2_0 a2_1 a2_2 : Int) (l2_3 : List Int) : Option (List S59 × Int) := if smallP l0_0 && decide (l1.length ≤ 1000000) then some (applyL l0_0 l1 a2_0 a2_1 a2_2 l2_3) else none
theorem fact_Apply.calls (A0_0 : Option Addr) (c0_0 : Nat) (l0_0 : List S37) (A1 : Option Addr) (c1 : Nat) (l1 : List S59) (a2_0 a2_1 a2_2 : Int) (A2_3 : Option Addr) (c2_3 : Nat) (l2_3 : List Int) (r1 : List S59) (r2 : Int) (w : World) (hr0_0 : Kd.C k37 w A0_0 l0_0.length l0_0) (hc0_0 : l0_0.length ≤ c0_0) (hr1 : Kd.C k59 w A1 l1.length l1) (hc1 : l1.length ≤ c1) (hr2_3 : Kd.C (Kd.int .i64) w A2_3 l2_3.length l2_3) (hc2_3 : l2_3.length ≤ c2_3) (h : fact_Apply.f l0_0 l1 a2_0 a2_1 a2_2 l2_3 = some (r1, r2)) :
  Calls Try.prog 22 #[.agg #[.slice A0_0 l0_0.length c0_0], .slice A1 l1.length c1, .agg #[.int .i64 a2_0, .int .i64 a2_1, .int .i64 a2_2, .slice A2_3 l2_3.length c2_3]] w fun e w' => ∃ v0_ : Value, e = .returned (.tuple #[v0_, .int .i64 r2]) ∧ Kd.R k59 59 w' w.heap.size (fun _ => True) v0_ r1 ∧ Below w.heap.size w w' := by
 unfold fact_Apply.f at h
 split at h
 ·rename_i hc
  rw [Bool.and_eq_true, decide_eq_true_eq] at hc
  have h2 := Apply_walk l0_0 A0_0 c0_0 l1 A1 c1 a2_0 a2_1 a2_2 l2_3 A2_3 c2_3 w hr0_0 hc0_0 hr1 hc1 hr2_3 hc2_3 hc.1 hc.2
  rw [Option.some.inj h] at h2
  exact h2
 ·cases h
end Go.Proofs.Ytihpndignekheaa.F
end
