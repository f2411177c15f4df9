-- Texts of this seat's, joined.
import Derived.Test.YtihpndignekheaaZStateOne1
import Derived.Test.YtihpndignekheaaZStateOne2
import Derived.Test.YtihpndignekheaaZStateOne4
import Derived.Lib.SliceRun
import Derived.Recover
import Derived.WalkSmall
import Derived.BigRegion
import Derived.Deep.RegionHeld2
import Derived.Test.YtihpndignekheaaProg
import Derived.Below
import Derived.Deep.Draws
import Derived.Deep.AppendLies
import Derived.Maps.AppendAt
import Derived.OwnWalk
import Derived.Laws.BytesArg
import Derived.Laws.MakeOwn
import Derived.Laws.OwnMore
import Derived.Deep.OwnRows
import Derived.Tactics
import Derived.Lib.ConvBytes
import Derived.Laws.Slices
import Derived.WalkKit
import Derived.KernelRfl
import Derived.RowKit3
import Derived.Deep.LoopGhost
import Derived.Deep.QuietTactic
import Derived.BigQuiet
import Derived.WideLaws
import Derived.Deep.DeepCutAuto
import Derived.Deep.CutBlock
import Derived.Deep.RegionHeld3
import Derived.Laws.Rows
import Derived.Lib.AppendStr
import Derived.ArgAppend
import Derived.Laws.IdiomCopy
import Derived.OrdersHeld
import Derived.Laws.BitsLemmas
import Derived.RowKit
import Derived.RegionCalls
import Derived.Shelf.Abstract
section
namespace Go.Proofs.Ytihpndignekheaa.F
open Go.RowKit Go.Proofs.YtihpndignekheaaW.PrintWords Go.Proofs.YtihpndignekheaaW.PrintLast Go.Proofs.YtihpndignekheaaW.PrintMore
attribute [local go_sem] max2_int min2_int max_two min_two max_three min_three max_four min_four
set_option linter.unusedVariables false
set_option linter.unusedSimpArgs false
attribute [local go_sem high] eqA59
def fact_fine.j0 : Nat → Bool → Int → Int → Int → Bool → Option (Bool)
 | 0, _, _, _, _, _ => none
 | k + 1, x3, x131000, x131001, x131002, x131003 => if x3 = true then (some false) else (if x131001 = x131002 then (if x131001 > 0 then (if x131000 = 2 then (if x131003 = true then (some (decide (x131001 > x131002))) else (some true)) else (some false)) else (if x131003 = true then (some (decide (x131001 > x131002))) else (some true))) else (if x131001 = (wrap64 (x131002 + 1)) then (if x131001 > 0 then (if x131000 = 2 then (if x131003 = true then (some (decide (x131001 > x131002))) else (some true)) else (some false)) else (if x131003 = true then (some (decide (x131001 > x131002))) else (some true))) else (some false)))
def fact_fine.f (k : Nat) (a0_0 : Int) (a0_1 : Int) (a0_2 : Int) (a0_3 : Bool) : Option (Bool) := if a0_0 < 0 then (fact_fine.j0 k true a0_0 a0_1 a0_2 a0_3) else (if a0_0 > 3 then (fact_fine.j0 k true a0_0 a0_1 a0_2 a0_3) else (if a0_2 < 0 then (fact_fine.j0 k true a0_0 a0_1 a0_2 a0_3) else (fact_fine.j0 k (decide (a0_2 > 3)) a0_0 a0_1 a0_2 a0_3)))
set_option maxHeartbeats 8000000 in
set_option maxRecDepth 100000 in
theorem fact_fine.calls (k : Nat) (a0_0 : Int) (a0_1 : Int) (a0_2 : Int) (a0_3 : Bool) (r : Bool) (w : World) (h : fact_fine.f k a0_0 a0_1 a0_2 a0_3 = some r) :
  Calls Try.prog 35 #[.agg #[.int .i64 a0_0, .int .i64 a0_1, .int .i64 a0_2, .bool a0_3]] w fun e w' => e = .returned (.bool r) ∧ Below w.heap.size w w' := by
 have hu59 := Try.underlying59
 have HB := Aside0.mk (Below.refl w.heap.size w)
 have H : (if a0_0 < 0 then (fact_fine.j0 k true a0_0 a0_1 a0_2 a0_3) else (if a0_0 > 3 then (fact_fine.j0 k true a0_0 a0_1 a0_2 a0_3) else (if a0_2 < 0 then (fact_fine.j0 k true a0_0 a0_1 a0_2 a0_3) else (fact_fine.j0 k (decide (a0_2 > 3)) a0_0 a0_1 a0_2 a0_3)))) = some r := h
 clear h
 have HC2 := Aside0.mk H
 clear H
 go_enter Try.func35, Try.ntmps35
 go_upto_region 1 with (first | ((with_reducible refine gate_dst (N := 1) rfl ?_); refine box_event ?hg (N := 1) ?hd (cs := #[.int .i64 a0_0, .int .i64 a0_1, .int .i64 a0_2, .bool a0_3]) (t := 59) ?hr ?_; (case hd => rfl); (case hg => rfl); (case hr => first | (go_simp; done) | (go_simp; rfl)); intro gb130 hg w3 hbox hb; have n0_ := Aside0.mk (below_step (by repeat (first | (with_reducible first | exact HB.out | apply below_alloc | apply pw_below_drewN | apply below_drew1) | exact HB.out)) hb); have n1_ := Aside0.mk (hbox); have n2_ := Aside0.mk ((by rw [hg]; exact (below_size (by repeat (first | (with_reducible first | exact HB.out | apply below_alloc | apply pw_below_drewN | apply below_drew1) | exact HB.out))) : w.heap.size ≤ gb130)); have n3_ := Aside0.mk ((by rw [hg]; exact (below_size (by repeat (first | (with_reducible first | exact HB.out | apply below_alloc | apply pw_below_drewN | apply below_drew1) | exact HB.out))) : w.heap.size ≤ gb130)); clear HB; have HB := n0_; have BK130 := n1_; have GW130 := n2_; have GE130 := n3_; clear n0_ n1_ n2_ n3_; clear hb hbox hg))
 (try simp only [Act.put, List.setIfInBounds_toArray, List.set_cons_zero, List.set_cons_succ])
 go_cut [3] (fun v3 wc => ∃ (kq : Nat) (x3_1 : Bool), v3 = .bool x3_1 ∧ Aside0 (fact_fine.j0 kq x3_1 a0_0 a0_1 a0_2 a0_3 = some r) ∧ Aside0 (kq ≤ k) ∧ Aside0 (wc.heap[gb130]? = some (.cells #[.int .i64 a0_0, .int .i64 a0_1, .int .i64 a0_2, .bool a0_3] 59 (0, 0))) ∧ Aside0 (Below w.heap.size w wc))
 case first =>
  have H := HC2.out
  clear HC2
  by_cases c4 : a0_0 < 0
  ·rw [if_pos c4] at H
   have c4b0 : decide (a0_0 < 0) = true := decide_eq_true c4
   clear c4
   (first | rw [c4b0] | (simp only [i64_w, i32_w]; rw [c4b0]) | skip)
   have H' := Aside0.mk H
   clear H
   have hcz5_0 : w3.cell? ⟨gb130, 0, none⟩ = some (.int .i64 a0_0) := (blk_cell BK130.out 0).trans rfl
   have hcz5_1 : w3.cell? ⟨gb130, 1, none⟩ = some (.int .i64 a0_1) := (blk_cell BK130.out 1).trans rfl
   have hcz5_2 : w3.cell? ⟨gb130, 2, none⟩ = some (.int .i64 a0_2) := (blk_cell BK130.out 2).trans rfl
   have hcz5_3 : w3.cell? ⟨gb130, 3, none⟩ = some (.bool a0_3) := (blk_cell BK130.out 3).trans rfl
   have hfz5_0 := blk_frozen BK130.out 0
   have hfz5_1 := blk_frozen BK130.out 1
   have hfz5_2 := blk_frozen BK130.out 2
   have hfz5_3 := blk_frozen BK130.out 3
   go_wp2
   go_meet
   case rel => exact ⟨_, (true), (by first | rfl | (simp; done) | (simp [*]; done)), H', ⟨by first | omega | exact Nat.le_refl _⟩, ⟨by (with_reducible repeat (first | refine blk_drewN ?_ _ | refine blk_drew ?_ | refine blk_alloc ?_ _)); exact BK130.out⟩, ⟨by repeat (first | (with_reducible first | exact HB.out | apply below_alloc | apply pw_below_drewN | apply below_drew1 | refine below_set ?_ GE130.out) | exact HB.out)⟩⟩
  ·rw [if_neg c4] at H
   have c4b0 : decide (a0_0 < 0) = false := decide_eq_false c4
   clear c4
   (first | rw [c4b0] | (simp only [i64_w, i32_w]; rw [c4b0]) | skip)
   by_cases c6 : a0_0 > 3
   ·rw [if_pos c6] at H
    have c6b0 : decide (3 < a0_0) = true := decide_eq_true c6
    clear c6
    have H' := Aside0.mk H
    clear H
    have hcz7_0 : w3.cell? ⟨gb130, 0, none⟩ = some (.int .i64 a0_0) := (blk_cell BK130.out 0).trans rfl
    have hcz7_1 : w3.cell? ⟨gb130, 1, none⟩ = some (.int .i64 a0_1) := (blk_cell BK130.out 1).trans rfl
    have hcz7_2 : w3.cell? ⟨gb130, 2, none⟩ = some (.int .i64 a0_2) := (blk_cell BK130.out 2).trans rfl
    have hcz7_3 : w3.cell? ⟨gb130, 3, none⟩ = some (.bool a0_3) := (blk_cell BK130.out 3).trans rfl
    have hfz7_0 := blk_frozen BK130.out 0
    have hfz7_1 := blk_frozen BK130.out 1
    have hfz7_2 := blk_frozen BK130.out 2
    have hfz7_3 := blk_frozen BK130.out 3
    go_wp2
    go_meet
    case rel => exact ⟨_, (true), (by first | rfl | (simp; done) | (simp [*]; done)), H', ⟨by first | omega | exact Nat.le_refl _⟩, ⟨by (with_reducible repeat (first | refine blk_drewN ?_ _ | refine blk_drew ?_ | refine blk_alloc ?_ _)); exact BK130.out⟩, ⟨by repeat (first | (with_reducible first | exact HB.out | apply below_alloc | apply pw_below_drewN | apply below_drew1 | refine below_set ?_ GE130.out) | exact HB.out)⟩⟩
   ·rw [if_neg c6] at H
    have c6b0 : decide (3 < a0_0) = false := decide_eq_false c6
    clear c6
    by_cases c8 : a0_2 < 0
    ·rw [if_pos c8] at H
     have c8b0 : decide (a0_2 < 0) = true := decide_eq_true c8
     clear c8
     have H' := Aside0.mk H
     clear H
     have hcz9_0 : w3.cell? ⟨gb130, 0, none⟩ = some (.int .i64 a0_0) := (blk_cell BK130.out 0).trans rfl
     have hcz9_1 : w3.cell? ⟨gb130, 1, none⟩ = some (.int .i64 a0_1) := (blk_cell BK130.out 1).trans rfl
     have hcz9_2 : w3.cell? ⟨gb130, 2, none⟩ = some (.int .i64 a0_2) := (blk_cell BK130.out 2).trans rfl
     have hcz9_3 : w3.cell? ⟨gb130, 3, none⟩ = some (.bool a0_3) := (blk_cell BK130.out 3).trans rfl
     have hfz9_0 := blk_frozen BK130.out 0
     have hfz9_1 := blk_frozen BK130.out 1
     have hfz9_2 := blk_frozen BK130.out 2
     have hfz9_3 := blk_frozen BK130.out 3
     go_wp2
     go_meet
     case rel => exact ⟨_, (true), (by first | rfl | (simp; done) | (simp [*]; done)), H', ⟨by first | omega | exact Nat.le_refl _⟩, ⟨by (with_reducible repeat (first | refine blk_drewN ?_ _ | refine blk_drew ?_ | refine blk_alloc ?_ _)); exact BK130.out⟩, ⟨by repeat (first | (with_reducible first | exact HB.out | apply below_alloc | apply pw_below_drewN | apply below_drew1 | refine below_set ?_ GE130.out) | exact HB.out)⟩⟩
    ·rw [if_neg c8] at H
     have c8b0 : decide (a0_2 < 0) = false := decide_eq_false c8
     clear c8
     have H' := Aside0.mk H
     clear H
     have hcz10_0 : w3.cell? ⟨gb130, 0, none⟩ = some (.int .i64 a0_0) := (blk_cell BK130.out 0).trans rfl
     have hcz10_1 : w3.cell? ⟨gb130, 1, none⟩ = some (.int .i64 a0_1) := (blk_cell BK130.out 1).trans rfl
     have hcz10_2 : w3.cell? ⟨gb130, 2, none⟩ = some (.int .i64 a0_2) := (blk_cell BK130.out 2).trans rfl
     have hcz10_3 : w3.cell? ⟨gb130, 3, none⟩ = some (.bool a0_3) := (blk_cell BK130.out 3).trans rfl
     have hfz10_0 := blk_frozen BK130.out 0
     have hfz10_1 := blk_frozen BK130.out 1
     have hfz10_2 := blk_frozen BK130.out 2
     have hfz10_3 := blk_frozen BK130.out 3
     go_wp2
     go_meet
     case rel => exact ⟨_, (decide (a0_2 > 3)), (by first | rfl | (simp; done) | (simp [*]; done)), H', ⟨by first | omega | exact Nat.le_refl _⟩, ⟨by (with_reducible repeat (first | refine blk_drewN ?_ _ | refine blk_drew ?_ | refine blk_alloc ?_ _)); exact BK130.out⟩, ⟨by repeat (first | (with_reducible first | exact HB.out | apply below_alloc | apply pw_below_drewN | apply below_drew1 | refine below_set ?_ GE130.out) | exact HB.out)⟩⟩
 case rest =>
  clear HC2
  try clear p2
  try clear c3
  try clear c4
  try clear c4b0
  try clear c6
  try clear c6b0
  try clear c8
  try clear c8b0
  try clear hcz10_0
  try clear hcz10_1
  try clear hcz10_2
  try clear hcz10_3
  try clear hcz5_0
  try clear hcz5_1
  try clear hcz5_2
  try clear hcz5_3
  try clear hcz7_0
  try clear hcz7_1
  try clear hcz7_2
  try clear hcz7_3
  try clear hcz9_0
  try clear hcz9_1
  try clear hcz9_2
  try clear hcz9_3
  try clear hfz10_0
  try clear hfz10_1
  try clear hfz10_2
  try clear hfz10_3
  try clear hfz5_0
  try clear hfz5_1
  try clear hfz5_2
  try clear hfz5_3
  try clear hfz7_0
  try clear hfz7_1
  try clear hfz7_2
  try clear hfz7_3
  try clear hfz9_0
  try clear hfz9_1
  try clear hfz9_2
  try clear hfz9_3
  obtain ⟨kq, x3_1, rfl, HA, HJ1, BK130, HB⟩ := hcut
  cases kq with
  | zero => exact absurd HA.out (by simp [fact_fine.j0])
  | succ kj1 =>
   have H := HA.out
   clear HA
   simp only [fact_fine.j0] at H
   by_cases c11 : x3_1 = true
   ·subst c11
    have H1 : (some false) = some r := by rw [if_pos rfl] at H; exact H
    clear H
    have H := H1
    clear H1
    obtain rfl := Option.some.inj H
    go_wp2
    go_ret
    exact ⟨by first | rfl | (simp [errW_none, errW_some] <;> rfl) | (simp [*, errW_none, errW_some] <;> rfl), by repeat (first | (with_reducible first | exact HB.out | apply below_alloc | apply pw_below_drewN | apply below_drew1 | refine below_set ?_ GE130.out) | exact HB.out)⟩
   ·replace c11 := Bool.eq_false_iff.mpr c11
    subst c11
    have H1 : (if a0_1 = a0_2 then (if a0_1 > 0 then (if a0_0 = 2 then (if a0_3 = true then (some (decide (a0_1 > a0_2))) else (some true)) else (some false)) else (if a0_3 = true then (some (decide (a0_1 > a0_2))) else (some true))) else (if a0_1 = (wrap64 (a0_2 + 1)) then (if a0_1 > 0 then (if a0_0 = 2 then (if a0_3 = true then (some (decide (a0_1 > a0_2))) else (some true)) else (some false)) else (if a0_3 = true then (some (decide (a0_1 > a0_2))) else (some true))) else (some false))) = some r := by rw [if_neg (show ¬ (false = true) by decide)] at H; exact H
    clear H
    have H := H1
    clear H1
    by_cases c12 : a0_1 = a0_2
    ·rw [if_pos c12] at H
     have c12b0 : (a0_1 == a0_2) = true := beq_iff_eq.mpr c12
     have c12b1 : (a0_1 != a0_2) = false := bne_eq_false_iff_eq.mpr c12
     clear c12
     by_cases c13 : a0_1 > 0
     ·rw [if_pos c13] at H
      have c13b0 : decide (0 < a0_1) = true := decide_eq_true c13
      clear c13
      by_cases c14 : a0_0 = 2
      ·rw [if_pos c14] at H
       have c14b0 : (a0_0 == 2) = true := beq_iff_eq.mpr c14
       have c14b1 : (a0_0 != 2) = false := bne_eq_false_iff_eq.mpr c14
       clear c14
       by_cases c15 : a0_3 = true
       ·subst c15
        have H1 : (some (decide (a0_1 > a0_2))) = some r := by rw [if_pos rfl] at H; exact H
        clear H
        have H := H1
        clear H1
        obtain rfl := Option.some.inj H
        have hcz16_0 : wc.cell? ⟨gb130, 0, none⟩ = some (.int .i64 a0_0) := (blk_cell BK130.out 0).trans rfl
        have hcz16_1 : wc.cell? ⟨gb130, 1, none⟩ = some (.int .i64 a0_1) := (blk_cell BK130.out 1).trans rfl
        have hcz16_2 : wc.cell? ⟨gb130, 2, none⟩ = some (.int .i64 a0_2) := (blk_cell BK130.out 2).trans rfl
        have hcz16_3 : wc.cell? ⟨gb130, 3, none⟩ = some (.bool true) := (blk_cell BK130.out 3).trans rfl
        have hfz16_0 := blk_frozen BK130.out 0
        have hfz16_1 := blk_frozen BK130.out 1
        have hfz16_2 := blk_frozen BK130.out 2
        have hfz16_3 := blk_frozen BK130.out 3
        go_wp2
        go_ret
        exact ⟨by first | rfl | (simp [errW_none, errW_some] <;> rfl) | (simp [*, errW_none, errW_some] <;> rfl), by repeat (first | (with_reducible first | exact HB.out | apply below_alloc | apply pw_below_drewN | apply below_drew1 | refine below_set ?_ GE130.out) | exact HB.out)⟩
       ·replace c15 := Bool.eq_false_iff.mpr c15
        subst c15
        have H1 : (some true) = some r := by rw [if_neg (show ¬ (false = true) by decide)] at H; exact H
        clear H
        have H := H1
        clear H1
        obtain rfl := Option.some.inj H
        have hcz17_0 : wc.cell? ⟨gb130, 0, none⟩ = some (.int .i64 a0_0) := (blk_cell BK130.out 0).trans rfl
        have hcz17_1 : wc.cell? ⟨gb130, 1, none⟩ = some (.int .i64 a0_1) := (blk_cell BK130.out 1).trans rfl
        have hcz17_2 : wc.cell? ⟨gb130, 2, none⟩ = some (.int .i64 a0_2) := (blk_cell BK130.out 2).trans rfl
        have hcz17_3 : wc.cell? ⟨gb130, 3, none⟩ = some (.bool false) := (blk_cell BK130.out 3).trans rfl
        have hfz17_0 := blk_frozen BK130.out 0
        have hfz17_1 := blk_frozen BK130.out 1
        have hfz17_2 := blk_frozen BK130.out 2
        have hfz17_3 := blk_frozen BK130.out 3
        go_wp2
        go_ret
        exact ⟨by first | rfl | (simp [errW_none, errW_some] <;> rfl) | (simp [*, errW_none, errW_some] <;> rfl), by repeat (first | (with_reducible first | exact HB.out | apply below_alloc | apply pw_below_drewN | apply below_drew1 | refine below_set ?_ GE130.out) | exact HB.out)⟩
      ·rw [if_neg c14] at H
       have c14b0 : (a0_0 == 2) = false := beq_eq_false_iff_ne.mpr c14
       have c14b1 : (a0_0 != 2) = true := bne_iff_ne.mpr c14
       obtain rfl := Option.some.inj H
       have hcz18_0 : wc.cell? ⟨gb130, 0, none⟩ = some (.int .i64 a0_0) := (blk_cell BK130.out 0).trans rfl
       have hcz18_1 : wc.cell? ⟨gb130, 1, none⟩ = some (.int .i64 a0_1) := (blk_cell BK130.out 1).trans rfl
       have hcz18_2 : wc.cell? ⟨gb130, 2, none⟩ = some (.int .i64 a0_2) := (blk_cell BK130.out 2).trans rfl
       have hcz18_3 : wc.cell? ⟨gb130, 3, none⟩ = some (.bool a0_3) := (blk_cell BK130.out 3).trans rfl
       have hfz18_0 := blk_frozen BK130.out 0
       have hfz18_1 := blk_frozen BK130.out 1
       have hfz18_2 := blk_frozen BK130.out 2
       have hfz18_3 := blk_frozen BK130.out 3
       go_wp2
       go_ret
       exact ⟨by first | rfl | (simp [errW_none, errW_some] <;> rfl) | (simp [*, errW_none, errW_some] <;> rfl), by repeat (first | (with_reducible first | exact HB.out | apply below_alloc | apply pw_below_drewN | apply below_drew1 | refine below_set ?_ GE130.out) | exact HB.out)⟩
     ·rw [if_neg c13] at H
      have c13b0 : decide (0 < a0_1) = false := decide_eq_false c13
      clear c13
      by_cases c19 : a0_3 = true
      ·subst c19
       have H1 : (some (decide (a0_1 > a0_2))) = some r := by rw [if_pos rfl] at H; exact H
       clear H
       have H := H1
       clear H1
       obtain rfl := Option.some.inj H
       have hcz20_0 : wc.cell? ⟨gb130, 0, none⟩ = some (.int .i64 a0_0) := (blk_cell BK130.out 0).trans rfl
       have hcz20_1 : wc.cell? ⟨gb130, 1, none⟩ = some (.int .i64 a0_1) := (blk_cell BK130.out 1).trans rfl
       have hcz20_2 : wc.cell? ⟨gb130, 2, none⟩ = some (.int .i64 a0_2) := (blk_cell BK130.out 2).trans rfl
       have hcz20_3 : wc.cell? ⟨gb130, 3, none⟩ = some (.bool true) := (blk_cell BK130.out 3).trans rfl
       have hfz20_0 := blk_frozen BK130.out 0
       have hfz20_1 := blk_frozen BK130.out 1
       have hfz20_2 := blk_frozen BK130.out 2
       have hfz20_3 := blk_frozen BK130.out 3
       go_wp2
       go_ret
       exact ⟨by first | rfl | (simp [errW_none, errW_some] <;> rfl) | (simp [*, errW_none, errW_some] <;> rfl), by repeat (first | (with_reducible first | exact HB.out | apply below_alloc | apply pw_below_drewN | apply below_drew1 | refine below_set ?_ GE130.out) | exact HB.out)⟩
      ·replace c19 := Bool.eq_false_iff.mpr c19
       subst c19
       have H1 : (some true) = some r := by rw [if_neg (show ¬ (false = true) by decide)] at H; exact H
       clear H
       have H := H1
       clear H1
       obtain rfl := Option.some.inj H
       have hcz21_0 : wc.cell? ⟨gb130, 0, none⟩ = some (.int .i64 a0_0) := (blk_cell BK130.out 0).trans rfl
       have hcz21_1 : wc.cell? ⟨gb130, 1, none⟩ = some (.int .i64 a0_1) := (blk_cell BK130.out 1).trans rfl
       have hcz21_2 : wc.cell? ⟨gb130, 2, none⟩ = some (.int .i64 a0_2) := (blk_cell BK130.out 2).trans rfl
       have hcz21_3 : wc.cell? ⟨gb130, 3, none⟩ = some (.bool false) := (blk_cell BK130.out 3).trans rfl
       have hfz21_0 := blk_frozen BK130.out 0
       have hfz21_1 := blk_frozen BK130.out 1
       have hfz21_2 := blk_frozen BK130.out 2
       have hfz21_3 := blk_frozen BK130.out 3
       go_wp2
       go_ret
       exact ⟨by first | rfl | (simp [errW_none, errW_some] <;> rfl) | (simp [*, errW_none, errW_some] <;> rfl), by repeat (first | (with_reducible first | exact HB.out | apply below_alloc | apply pw_below_drewN | apply below_drew1 | refine below_set ?_ GE130.out) | exact HB.out)⟩
    ·rw [if_neg c12] at H
     have c12b0 : (a0_1 == a0_2) = false := beq_eq_false_iff_ne.mpr c12
     have c12b1 : (a0_1 != a0_2) = true := bne_iff_ne.mpr c12
     by_cases c22 : a0_1 = (wrap64 (a0_2 + 1))
     ·rw [if_pos c22] at H
      have c22b0 : (a0_1 == (wrap64 (a0_2 + 1))) = true := beq_iff_eq.mpr c22
      have c22b1 : (a0_1 != (wrap64 (a0_2 + 1))) = false := bne_eq_false_iff_eq.mpr c22
      clear c22
      by_cases c23 : a0_1 > 0
      ·rw [if_pos c23] at H
       have c23b0 : decide (0 < a0_1) = true := decide_eq_true c23
       clear c23
       by_cases c24 : a0_0 = 2
       ·rw [if_pos c24] at H
        have c24b0 : (a0_0 == 2) = true := beq_iff_eq.mpr c24
        have c24b1 : (a0_0 != 2) = false := bne_eq_false_iff_eq.mpr c24
        clear c24
        by_cases c25 : a0_3 = true
        ·subst c25
         have H1 : (some (decide (a0_1 > a0_2))) = some r := by rw [if_pos rfl] at H; exact H
         clear H
         have H := H1
         clear H1
         obtain rfl := Option.some.inj H
         have hcz26_0 : wc.cell? ⟨gb130, 0, none⟩ = some (.int .i64 a0_0) := (blk_cell BK130.out 0).trans rfl
         have hcz26_1 : wc.cell? ⟨gb130, 1, none⟩ = some (.int .i64 a0_1) := (blk_cell BK130.out 1).trans rfl
         have hcz26_2 : wc.cell? ⟨gb130, 2, none⟩ = some (.int .i64 a0_2) := (blk_cell BK130.out 2).trans rfl
         have hcz26_3 : wc.cell? ⟨gb130, 3, none⟩ = some (.bool true) := (blk_cell BK130.out 3).trans rfl
         have hfz26_0 := blk_frozen BK130.out 0
         have hfz26_1 := blk_frozen BK130.out 1
         have hfz26_2 := blk_frozen BK130.out 2
         have hfz26_3 := blk_frozen BK130.out 3
         go_wp2
         go_ret
         exact ⟨by first | rfl | (simp [errW_none, errW_some] <;> rfl) | (simp [*, errW_none, errW_some] <;> rfl), by repeat (first | (with_reducible first | exact HB.out | apply below_alloc | apply pw_below_drewN | apply below_drew1 | refine below_set ?_ GE130.out) | exact HB.out)⟩
        ·replace c25 := Bool.eq_false_iff.mpr c25
         subst c25
         have H1 : (some true) = some r := by rw [if_neg (show ¬ (false = true) by decide)] at H; exact H
         clear H
         have H := H1
         clear H1
         obtain rfl := Option.some.inj H
         have hcz27_0 : wc.cell? ⟨gb130, 0, none⟩ = some (.int .i64 a0_0) := (blk_cell BK130.out 0).trans rfl
         have hcz27_1 : wc.cell? ⟨gb130, 1, none⟩ = some (.int .i64 a0_1) := (blk_cell BK130.out 1).trans rfl
         have hcz27_2 : wc.cell? ⟨gb130, 2, none⟩ = some (.int .i64 a0_2) := (blk_cell BK130.out 2).trans rfl
         have hcz27_3 : wc.cell? ⟨gb130, 3, none⟩ = some (.bool false) := (blk_cell BK130.out 3).trans rfl
         have hfz27_0 := blk_frozen BK130.out 0
         have hfz27_1 := blk_frozen BK130.out 1
         have hfz27_2 := blk_frozen BK130.out 2
         have hfz27_3 := blk_frozen BK130.out 3
         go_wp2
         go_ret
         exact ⟨by first | rfl | (simp [errW_none, errW_some] <;> rfl) | (simp [*, errW_none, errW_some] <;> rfl), by repeat (first | (with_reducible first | exact HB.out | apply below_alloc | apply pw_below_drewN | apply below_drew1 | refine below_set ?_ GE130.out) | exact HB.out)⟩
       ·rw [if_neg c24] at H
        have c24b0 : (a0_0 == 2) = false := beq_eq_false_iff_ne.mpr c24
        have c24b1 : (a0_0 != 2) = true := bne_iff_ne.mpr c24
        obtain rfl := Option.some.inj H
        have hcz28_0 : wc.cell? ⟨gb130, 0, none⟩ = some (.int .i64 a0_0) := (blk_cell BK130.out 0).trans rfl
        have hcz28_1 : wc.cell? ⟨gb130, 1, none⟩ = some (.int .i64 a0_1) := (blk_cell BK130.out 1).trans rfl
        have hcz28_2 : wc.cell? ⟨gb130, 2, none⟩ = some (.int .i64 a0_2) := (blk_cell BK130.out 2).trans rfl
        have hcz28_3 : wc.cell? ⟨gb130, 3, none⟩ = some (.bool a0_3) := (blk_cell BK130.out 3).trans rfl
        have hfz28_0 := blk_frozen BK130.out 0
        have hfz28_1 := blk_frozen BK130.out 1
        have hfz28_2 := blk_frozen BK130.out 2
        have hfz28_3 := blk_frozen BK130.out 3
        go_wp2
        go_ret
        exact ⟨by first | rfl | (simp [errW_none, errW_some] <;> rfl) | (simp [*, errW_none, errW_some] <;> rfl), by repeat (first | (with_reducible first | exact HB.out | apply below_alloc | apply pw_below_drewN | apply below_drew1 | refine below_set ?_ GE130.out) | exact HB.out)⟩
      ·rw [if_neg c23] at H
       have c23b0 : decide (0 < a0_1) = false := decide_eq_false c23
       clear c23
       by_cases c29 : a0_3 = true
       ·subst c29
        have H1 : (some (decide (a0_1 > a0_2))) = some r := by rw [if_pos rfl] at H; exact H
        clear H
        have H := H1
        clear H1
        obtain rfl := Option.some.inj H
        have hcz30_0 : wc.cell? ⟨gb130, 0, none⟩ = some (.int .i64 a0_0) := (blk_cell BK130.out 0).trans rfl
        have hcz30_1 : wc.cell? ⟨gb130, 1, none⟩ = some (.int .i64 a0_1) := (blk_cell BK130.out 1).trans rfl
        have hcz30_2 : wc.cell? ⟨gb130, 2, none⟩ = some (.int .i64 a0_2) := (blk_cell BK130.out 2).trans rfl
        have hcz30_3 : wc.cell? ⟨gb130, 3, none⟩ = some (.bool true) := (blk_cell BK130.out 3).trans rfl
        have hfz30_0 := blk_frozen BK130.out 0
        have hfz30_1 := blk_frozen BK130.out 1
        have hfz30_2 := blk_frozen BK130.out 2
        have hfz30_3 := blk_frozen BK130.out 3
        go_wp2
        go_ret
        exact ⟨by first | rfl | (simp [errW_none, errW_some] <;> rfl) | (simp [*, errW_none, errW_some] <;> rfl), by repeat (first | (with_reducible first | exact HB.out | apply below_alloc | apply pw_below_drewN | apply below_drew1 | refine below_set ?_ GE130.out) | exact HB.out)⟩
       ·replace c29 := Bool.eq_false_iff.mpr c29
        subst c29
        have H1 : (some true) = some r := by rw [if_neg (show ¬ (false = true) by decide)] at H; exact H
        clear H
        have H := H1
        clear H1
        obtain rfl := Option.some.inj H
        have hcz31_0 : wc.cell? ⟨gb130, 0, none⟩ = some (.int .i64 a0_0) := (blk_cell BK130.out 0).trans rfl
        have hcz31_1 : wc.cell? ⟨gb130, 1, none⟩ = some (.int .i64 a0_1) := (blk_cell BK130.out 1).trans rfl
        have hcz31_2 : wc.cell? ⟨gb130, 2, none⟩ = some (.int .i64 a0_2) := (blk_cell BK130.out 2).trans rfl
        have hcz31_3 : wc.cell? ⟨gb130, 3, none⟩ = some (.bool false) := (blk_cell BK130.out 3).trans rfl
        have hfz31_0 := blk_frozen BK130.out 0
        have hfz31_1 := blk_frozen BK130.out 1
        have hfz31_2 := blk_frozen BK130.out 2
        have hfz31_3 := blk_frozen BK130.out 3
        go_wp2
        go_ret
        exact ⟨by first | rfl | (simp [errW_none, errW_some] <;> rfl) | (simp [*, errW_none, errW_some] <;> rfl), by repeat (first | (with_reducible first | exact HB.out | apply below_alloc | apply pw_below_drewN | apply below_drew1 | refine below_set ?_ GE130.out) | exact HB.out)⟩
     ·rw [if_neg c22] at H
      have c22b0 : (a0_1 == (wrap64 (a0_2 + 1))) = false := beq_eq_false_iff_ne.mpr c22
      have c22b1 : (a0_1 != (wrap64 (a0_2 + 1))) = true := bne_iff_ne.mpr c22
      obtain rfl := Option.some.inj H
      have hcz32_0 : wc.cell? ⟨gb130, 0, none⟩ = some (.int .i64 a0_0) := (blk_cell BK130.out 0).trans rfl
      have hcz32_1 : wc.cell? ⟨gb130, 1, none⟩ = some (.int .i64 a0_1) := (blk_cell BK130.out 1).trans rfl
      have hcz32_2 : wc.cell? ⟨gb130, 2, none⟩ = some (.int .i64 a0_2) := (blk_cell BK130.out 2).trans rfl
      have hcz32_3 : wc.cell? ⟨gb130, 3, none⟩ = some (.bool a0_3) := (blk_cell BK130.out 3).trans rfl
      have hfz32_0 := blk_frozen BK130.out 0
      have hfz32_1 := blk_frozen BK130.out 1
      have hfz32_2 := blk_frozen BK130.out 2
      have hfz32_3 := blk_frozen BK130.out 3
      go_wp2
      go_ret
      exact ⟨by first | rfl | (simp [errW_none, errW_some] <;> rfl) | (simp [*, errW_none, errW_some] <;> rfl), by repeat (first | (with_reducible first | exact HB.out | apply below_alloc | apply pw_below_drewN | apply below_drew1 | refine below_set ?_ GE130.out) | exact HB.out)⟩
mutual
def fact_Check.j0 : Nat → List (S59) → Bool → List (S37) → Option (Int)
 | 0, _, _, _ => none
 | k + 1, x1, x17, x132000 => if x17 = true then (some 2) else (fact_Check.l0 k x1 (x1.length : Int) 0 x132000)
def fact_Check.l0 : Nat → List (S59) → Int → Int → List (S37) → Option (Int)
 | 0, _, _, _, _ => none
 | k + 1, x18, x19, x20, x132000 => if x20 < x19 then (if 0 ≤ x20 then (if x20 < (x18.length : Int) then ((fact_fine.f k ((rd_T59 x18 x20).f0) ((rd_T59 x18 x20).f1) ((rd_T59 x18 x20).f2) ((rd_T59 x18 x20).f3)).bind fun t135 => (if t135 = true then (if x20 < (x132000.length : Int) then (if (rd_T37 x132000 x20).f2 = true then (if (!(((rd_T59 x18 x20).f0) == 0) || (!(((rd_T59 x18 x20).f1) == 0) || (!(((rd_T59 x18 x20).f2) == 0) || (((rd_T59 x18 x20).f3))))) = true then (some 2) else (fact_Check.l0 k x18 x19 (wrap64 (x20 + 1)) x132000)) else (fact_Check.l0 k x18 x19 (wrap64 (x20 + 1)) x132000)) else (none)) else (some 2))) else (none)) else (none)) else (some 0)
end
def fact_Check.f (k : Nat) (l0_0 : List (S37)) (l1 : List (S59)) : Option (Int) := if (l1.length : Int) = (l0_0.length : Int) then ((plan_Right.f l0_0).bind fun t132 => (fact_Check.j0 k l1 (!t132) l0_0)) else (fact_Check.j0 k l1 true l0_0)
set_option maxHeartbeats 8000000 in
set_option maxRecDepth 100000 in
theorem fact_Check.calls (k : Nat) (A0_0 : Option Addr) (c0_0 : Nat) (l0_0 : List (S37)) (A1 : Option Addr) (c1 : Nat) (l1 : List (S59)) (r : Int) (w : World) (hr0_0 : Kd.C k37 w A0_0 l0_0.length l0_0) (hc0_0 : l0_0.length ≤ c0_0) (hr1 : Kd.C k59 w A1 l1.length l1) (hc1 : l1.length ≤ c1) (h : fact_Check.f k l0_0 l1 = some r) :
  Calls Try.prog 28 #[.agg #[.slice A0_0 l0_0.length c0_0], .slice A1 l1.length c1] w fun e w' => e = .returned (.int .i64 r) ∧ Below w.heap.size w w' := by
 have hu24 := Try.underlying24
 have hu59 := Try.underlying59
 have HR0_0 := Aside0.mk hr0_0
 have HC0_0 := Aside0.mk hc0_0
 clear hr0_0 hc0_0
 have HR1 := Aside0.mk hr1
 have HC1 := Aside0.mk hc1
 clear hr1 hc1
 have HB := Aside0.mk (Below.refl w.heap.size w)
 have H : (if (l1.length : Int) = (l0_0.length : Int) then ((plan_Right.f l0_0).bind fun t132 => (fact_Check.j0 k l1 (!t132) l0_0)) else (fact_Check.j0 k l1 true l0_0)) = some r := h
 clear h
 have HC3 := Aside0.mk H
 clear H
 go_enter Try.func28, Try.ntmps28
 go_upto_region 1 with (first | ((with_reducible refine gate_dst (N := 2) rfl ?_); refine box_event ?hg (N := 2) ?hd (cs := #[.slice A0_0 l0_0.length c0_0]) (t := 24) ?hr ?_; (case hd => rfl); (case hg => rfl); (case hr => first | (go_simp; done) | (go_simp; rfl)); intro gb131 hg w4 hbox hb; have n0_ := Aside0.mk (below_step (by repeat (first | (with_reducible first | exact HB.out | apply below_alloc | apply pw_below_drewN | apply below_drew1) | exact HB.out)) hb); have n1_ := Aside0.mk (hbox); have n2_ := Aside0.mk ((by rw [hg]; exact (below_size (by repeat (first | (with_reducible first | exact HB.out | apply below_alloc | apply pw_below_drewN | apply below_drew1) | exact HB.out))) : w.heap.size ≤ gb131)); have n3_ := Aside0.mk ((by rw [hg]; exact (below_size (by repeat (first | (with_reducible first | exact HB.out | apply below_alloc | apply pw_below_drewN | apply below_drew1) | exact HB.out))) : w.heap.size ≤ gb131)); clear HB; have HB := n0_; have BK131 := n1_; have GW131 := n2_; have GE131 := n3_; clear n0_ n1_ n2_ n3_; clear hb hbox hg))
 (try simp only [Act.put, List.setIfInBounds_toArray, List.set_cons_zero, List.set_cons_succ])
 go_cut [17] (fun v17 wc => ∃ (kq : Nat) (x17_2 : Bool), v17 = .bool x17_2 ∧ Aside0 (fact_Check.j0 kq l1 x17_2 l0_0 = some r) ∧ Aside0 (kq ≤ k) ∧ Aside0 (wc.heap[gb131]? = some (.cells #[(.slice A0_0 l0_0.length c0_0)] 24 (0, 0))) ∧ Aside0 (Below w.heap.size w wc))
 case first =>
  have H := HC3.out
  clear HC3
  by_cases c5 : (l1.length : Int) = (l0_0.length : Int)
  ·rw [if_pos c5] at H
   have c5b0 : ((l1.length : Int) == (l0_0.length : Int)) = true := beq_iff_eq.mpr c5
   have c5b1 : ((l1.length : Int) != (l0_0.length : Int)) = false := bne_eq_false_iff_eq.mpr c5
   have c5b2 : (l1.length == l0_0.length) = true := by first | simpa using c5 | (simp at c5 ⊢; omega)
   clear c5
   (first | rw [c5b0] | (simp only [i64_w, i32_w]; rw [c5b0]) | skip)
   replace H := Option.bind_eq_some_iff.mp H
   obtain ⟨t132, A60, H⟩ := H
   replace H : (fact_Check.j0 k l1 (!t132) l0_0) = some r := H
   have A6 := Aside0.mk A60
   clear A60
   have H' := Aside0.mk H
   clear H
   have hcz7_0 : w4.cell? ⟨gb131, 0, none⟩ = some (.slice A0_0 l0_0.length c0_0) := (blk_cell BK131.out 0).trans rfl
   have hfz7_0 := blk_frozen BK131.out 0
   go_wp2_with (first | (go_at_call 30; (with_reducible refine (plan_Right.calls _ _ l0_0 t132 _ ?side1 ?side2 A6.out).mono ?_); (case side1 => repeat (first | exact (Kd.C_below HR0_0.out HB.out) | (with_reducible refine Kd.C_alloc ?_ _) | (with_reducible refine Kd.C_drewN ?_ _) | (with_reducible refine Kd.C_drew ?_))); (case side2 => exact HC0_0.out); rintro e w8 ⟨rfl, hb⟩; have n0_ := Aside0.mk (blk_below (g := gb131) (o := .cells #[.slice A0_0 l0_0.length c0_0] 24 (0, 0)) (by (with_reducible repeat (first | refine blk_drewN ?_ _ | refine blk_drew ?_ | refine blk_alloc ?_ _)); exact BK131.out) hb); have n1_ := Aside0.mk (below_step (by repeat (first | (with_reducible first | exact HB.out | apply below_alloc | apply pw_below_drewN | apply below_drew1 | refine below_set ?_ GE131.out) | exact HB.out)) hb); clear BK131; clear HB; have BK131 := n0_; have HB := n1_; clear n0_ n1_; (try clear hb); (try clear hb2); (try clear hk); (try clear hi)))
   go_meet
   case rel => exact ⟨_, (!t132), (by first | rfl | (simp; done) | (simp [*]; done)), H', ⟨by first | omega | exact Nat.le_refl _⟩, ⟨by (with_reducible repeat (first | refine blk_drewN ?_ _ | refine blk_drew ?_ | refine blk_alloc ?_ _)); exact BK131.out⟩, ⟨by repeat (first | (with_reducible first | exact HB.out | apply below_alloc | apply pw_below_drewN | apply below_drew1 | refine below_set ?_ GE131.out) | exact HB.out)⟩⟩
  ·rw [if_neg c5] at H
   have c5b0 : ((l1.length : Int) == (l0_0.length : Int)) = false := beq_eq_false_iff_ne.mpr c5
   have c5b1 : ((l1.length : Int) != (l0_0.length : Int)) = true := bne_iff_ne.mpr c5
   have c5b2 : (l1.length == l0_0.length) = false := by first | simpa using c5 | (simp at c5 ⊢; omega)
   (first | rw [c5b0] | (simp only [i64_w, i32_w]; rw [c5b0]) | skip)
   have H' := Aside0.mk H
   clear H
   have hcz9_0 : w4.cell? ⟨gb131, 0, none⟩ = some (.slice A0_0 l0_0.length c0_0) := (blk_cell BK131.out 0).trans rfl
   have hfz9_0 := blk_frozen BK131.out 0
   go_wp2
   go_meet
   case rel => exact ⟨_, (true), (by first | rfl | (simp; done) | (simp [*]; done)), H', ⟨by first | omega | exact Nat.le_refl _⟩, ⟨by (with_reducible repeat (first | refine blk_drewN ?_ _ | refine blk_drew ?_ | refine blk_alloc ?_ _)); exact BK131.out⟩, ⟨by repeat (first | (with_reducible first | exact HB.out | apply below_alloc | apply pw_below_drewN | apply below_drew1 | refine below_set ?_ GE131.out) | exact HB.out)⟩⟩
 case rest =>
  clear HC3
  try clear c1
  try clear c2
  try clear p2
  try clear c5
  try clear c5b0
  try clear c5b1
  try clear c5b2
  try clear hcz7_0
  try clear hcz9_0
  try clear hfz7_0
  try clear hfz9_0
  obtain ⟨kq, x17_2, rfl, HA, HJ2, BK131, HB⟩ := hcut
  cases kq with
  | zero => exact absurd HA.out (by simp [fact_Check.j0])
  | succ kj2 =>
   have H := HA.out
   clear HA
   simp only [fact_Check.j0] at H
   by_cases c10 : x17_2 = true
   ·subst c10
    have H1 : (some 2) = some r := by rw [if_pos rfl] at H; exact H
    clear H
    have H := H1
    clear H1
    obtain rfl := Option.some.inj H
    go_wp2
    go_ret
    exact ⟨by first | rfl | (simp [errW_none, errW_some] <;> rfl) | (simp [*, errW_none, errW_some] <;> rfl), by repeat (first | (with_reducible first | exact HB.out | apply below_alloc | apply pw_below_drewN | apply below_drew1 | refine below_set ?_ GE131.out) | exact HB.out)⟩
   ·replace c10 := Bool.eq_false_iff.mpr c10
    subst c10
    have H1 : (fact_Check.l0 kj2 l1 (l1.length : Int) 0 l0_0) = some r := by rw [if_neg (show ¬ (false = true) by decide)] at H; exact H
    clear H
    have H := H1
    clear H1
    have H' := Aside0.mk H
    clear H
    go_wp2
    go_loopg [20] kj2 (fun kq v20 w' => ∃ (x20_2 : Int), v20 = .int .i64 x20_2 ∧ Aside0 (fact_Check.l0 kq l1 (l1.length : Int) x20_2 l0_0 = some r) ∧ Aside0 (kq ≤ kj2) ∧ Aside0 (w'.heap[gb131]? = some (.cells #[(.slice A0_0 l0_0.length c0_0)] 24 (0, 0))) ∧ Aside0 (Below w.heap.size w w'))
    case atStart => exact ⟨(0), (by first | rfl | (simp; done) | (simp [*]; done)), H', ⟨Nat.le_refl _⟩, ⟨by (with_reducible repeat (first | refine blk_drewN ?_ _ | refine blk_drew ?_ | refine blk_alloc ?_ _)); exact BK131.out⟩, ⟨by repeat (first | (with_reducible first | exact HB.out | apply below_alloc | apply pw_below_drewN | apply below_drew1 | refine below_set ?_ GE131.out) | exact HB.out)⟩⟩
    case round =>
     clear H'
     try clear c1
     try clear c2
     try clear p2
     try clear c5
     try clear c5b0
     try clear c5b1
     try clear c5b2
     try clear c10
     try clear hcz7_0
     try clear hcz9_0
     try clear hfz7_0
     try clear hfz9_0
     try clear p2
     obtain ⟨x20_2, rfl, HA, HK2, BK131, HB⟩ := hrel
     cases gk with
     | zero => exact absurd HA.out (by simp [fact_Check.l0])
     | succ k2 =>
      have H := HA.out
      clear HA
      simp only [fact_Check.l0] at H
      by_cases c11 : x20_2 < (l1.length : Int)
      ·rw [if_pos c11] at H
       have c11b0 : decide (x20_2 < (l1.length : Int)) = true := decide_eq_true c11
       clear c11
       by_cases c12 : 0 ≤ x20_2
       ·rw [if_pos c12] at H
        have c12b0 : decide (0 ≤ x20_2) = true := decide_eq_true c12
        clear c12
        by_cases c13 : x20_2 < (l1.length : Int)
        ·rw [if_pos c13] at H
         have c13b0 : decide (x20_2 < (l1.length : Int)) = true := decide_eq_true c13
         clear c13
         replace H := Option.bind_eq_some_iff.mp H
         obtain ⟨t135, A140, H⟩ := H
         replace H : (if t135 = true then (if x20_2 < (l0_0.length : Int) then (if (rd_T37 l0_0 x20_2).f2 = true then (if (!(((rd_T59 l1 x20_2).f0) == 0) || (!(((rd_T59 l1 x20_2).f1) == 0) || (!(((rd_T59 l1 x20_2).f2) == 0) || (((rd_T59 l1 x20_2).f3))))) = true then (some 2) else (fact_Check.l0 k2 l1 (l1.length : Int) (wrap64 (x20_2 + 1)) l0_0)) else (fact_Check.l0 k2 l1 (l1.length : Int) (wrap64 (x20_2 + 1)) l0_0)) else (none)) else (some 2)) = some r := H
         have A14 := Aside0.mk A140
         clear A140
         by_cases c15 : t135 = true
         ·subst c15
          have H1 : (if x20_2 < (l0_0.length : Int) then (if (rd_T37 l0_0 x20_2).f2 = true then (if (!(((rd_T59 l1 x20_2).f0) == 0) || (!(((rd_T59 l1 x20_2).f1) == 0) || (!(((rd_T59 l1 x20_2).f2) == 0) || (((rd_T59 l1 x20_2).f3))))) = true then (some 2) else (fact_Check.l0 k2 l1 (l1.length : Int) (wrap64 (x20_2 + 1)) l0_0)) else (fact_Check.l0 k2 l1 (l1.length : Int) (wrap64 (x20_2 + 1)) l0_0)) else (none)) = some r := by rw [if_pos rfl] at H; exact H
          clear H
          have H := H1
          clear H1
          by_cases c16 : x20_2 < (l0_0.length : Int)
          ·rw [if_pos c16] at H
           have c16b0 : decide (x20_2 < (l0_0.length : Int)) = true := decide_eq_true c16
           clear c16
           obtain ⟨bq17, hbq17⟩ : ∃ b_ : Bool, b_ = ((rd_T37 l0_0 x20_2).f2) := ⟨_, rfl⟩
           replace H : (if bq17 = true then (if (!(((rd_T59 l1 x20_2).f0) == 0) || (!(((rd_T59 l1 x20_2).f1) == 0) || (!(((rd_T59 l1 x20_2).f2) == 0) || (((rd_T59 l1 x20_2).f3))))) = true then (some 2) else (fact_Check.l0 k2 l1 (l1.length : Int) (wrap64 (x20_2 + 1)) l0_0)) else (fact_Check.l0 k2 l1 (l1.length : Int) (wrap64 (x20_2 + 1)) l0_0)) = some r := by rw [← hbq17] at H; exact H
           have Nbq17 := Aside0.mk hbq17
           clear hbq17
           by_cases c18 : bq17 = true
           ·subst c18
            have H1 : (if (!(((rd_T59 l1 x20_2).f0) == 0) || (!(((rd_T59 l1 x20_2).f1) == 0) || (!(((rd_T59 l1 x20_2).f2) == 0) || (((rd_T59 l1 x20_2).f3))))) = true then (some 2) else (fact_Check.l0 k2 l1 (l1.length : Int) (wrap64 (x20_2 + 1)) l0_0)) = some r := by rw [if_pos rfl] at H; exact H
            clear H
            have H := H1
            clear H1
            by_cases c19 : (!(((rd_T59 l1 x20_2).f0) == 0) || (!(((rd_T59 l1 x20_2).f1) == 0) || (!(((rd_T59 l1 x20_2).f2) == 0) || (((rd_T59 l1 x20_2).f3))))) = true
            ·rw [if_pos c19] at H
             have c19b0 : (!(((rd_T59 l1 x20_2).f0) == 0) || (!(((rd_T59 l1 x20_2).f1) == 0) || (!(((rd_T59 l1 x20_2).f2) == 0) || (((rd_T59 l1 x20_2).f3))))) = true := c19
             clear c19
             obtain rfl := Option.some.inj H
             have p133 : 0 ≤ (x20_2 : Int) := of_decide_eq_true (by first | (with_reducible assumption) | assumption)
             have q133 : x20_2 < (l1.length : Int) := of_decide_eq_true (by first | (with_reducible assumption) | assumption)
             obtain ⟨ad133, e133, hx133_0, hx133_1, hx133_2, hx133_3⟩ := at_T59 HR1.out x20_2 p133 q133
             (try rw [← Nbq17.out] at hx133_3)
             cases e133
             replace hx133_0 := (HB.out.cell (World.block_lt_of_cell? w _ hx133_0)).trans hx133_0
             replace hx133_1 := (HB.out.cell (World.block_lt_of_cell? w _ hx133_1)).trans hx133_1
             replace hx133_2 := (HB.out.cell (World.block_lt_of_cell? w _ hx133_2)).trans hx133_2
             replace hx133_3 := (HB.out.cell (World.block_lt_of_cell? w _ hx133_3)).trans hx133_3
             replace p133 := eq_true p133
             replace q133 := eq_true q133
             go_wp2_with (first | ((with_reducible refine gate_dst (N := 6) rfl ?_); refine box_event ?hg (N := 6) ?hd (cs := #[.int .i64 0, .int .i64 0, .int .i64 0, .bool false]) (t := 59) ?hr ?_; (case hd => rfl); (case hg => rfl); (case hr => first | (go_simp; done) | (go_simp; rfl)); intro gb134 hg w20 hbox hb; have n0_ := Aside0.mk (blk_below (g := gb131) (o := .cells #[.slice A0_0 l0_0.length c0_0] 24 (0, 0)) (by (with_reducible repeat (first | refine blk_drewN ?_ _ | refine blk_drew ?_ | refine blk_alloc ?_ _)); exact BK131.out) hb); have n1_ := Aside0.mk (below_step (by repeat (first | (with_reducible first | exact HB.out | apply below_alloc | apply pw_below_drewN | apply below_drew1 | refine below_set ?_ GE131.out) | exact HB.out)) hb); have n2_ := Aside0.mk (hbox); have n3_ := Aside0.mk ((by rw [hg]; exact (below_size (by repeat (first | (with_reducible first | exact HB.out | apply below_alloc | apply pw_below_drewN | apply below_drew1 | refine below_set ?_ GE131.out) | exact HB.out))) : w.heap.size ≤ gb134)); have n4_ := Aside0.mk ((by rw [hg]; exact (below_size (by repeat (first | (with_reducible first | exact HB.out | apply below_alloc | apply pw_below_drewN | apply below_drew1 | refine below_set ?_ GE131.out) | exact HB.out))) : w.heap.size ≤ gb134)); have n5_ := Aside0.mk ((by rw [hg]; exact Nat.ne_of_lt (blk_lt (g := gb131) (o := .cells #[.slice A0_0 l0_0.length c0_0] 24 (0, 0)) (by (with_reducible repeat (first | refine blk_drewN ?_ _ | refine blk_drew ?_ | refine blk_alloc ?_ _)); exact BK131.out)) : gb131 ≠ gb134)); have n6_ := Aside0.mk ((by rw [hg]; exact Nat.ne_of_gt (blk_lt (g := gb131) (o := .cells #[.slice A0_0 l0_0.length c0_0] 24 (0, 0)) (by (with_reducible repeat (first | refine blk_drewN ?_ _ | refine blk_drew ?_ | refine blk_alloc ?_ _)); exact BK131.out)) : gb134 ≠ gb131)); clear BK131; clear HB; have BK131 := n0_; have HB := n1_; have BK134 := n2_; have GW134 := n3_; have GE134 := n4_; have NB131_134 := n5_; have NB134_131 := n6_; clear n0_ n1_ n2_ n3_ n4_ n5_ n6_; clear hb hbox hg; have hnb21 := NB134_131.out; have hnc21 := NB131_134.out; have hcz22_0 : w20.cell? ⟨gb134, 0, none⟩ = some (.int .i64 0) := (blk_cell BK134.out 0).trans rfl; have hcz22_1 : w20.cell? ⟨gb134, 1, none⟩ = some (.int .i64 0) := (blk_cell BK134.out 1).trans rfl; have hcz22_2 : w20.cell? ⟨gb134, 2, none⟩ = some (.int .i64 0) := (blk_cell BK134.out 2).trans rfl; have hcz22_3 : w20.cell? ⟨gb134, 3, none⟩ = some (.bool false) := (blk_cell BK134.out 3).trans rfl; have hfz22_0 := blk_frozen BK134.out 0; have hfz22_1 := blk_frozen BK134.out 1; have hfz22_2 := blk_frozen BK134.out 2; have hfz22_3 := blk_frozen BK134.out 3) | ((with_reducible refine gate_callee (f := 35) rfl ?_); refine goesL_ (some 26) rfl rfl Try.func35 (by kernel_rfl) rfl #[.agg #[.int .i64 ((rd_T59 l1 x20_2).f0), .int .i64 ((rd_T59 l1 x20_2).f1), .int .i64 ((rd_T59 l1 x20_2).f2), .bool ((rd_T59 l1 x20_2).f3)]] rfl (by (try simp only [List.map_toArray, List.map_cons, List.map_nil]); first | done | rfl | (simp only [List.length_drop, List.length_take]; rfl)) ?_; (with_reducible refine (fact_fine.calls k2 ((rd_T59 l1 x20_2).f0) ((rd_T59 l1 x20_2).f1) ((rd_T59 l1 x20_2).f2) ((rd_T59 l1 x20_2).f3) true _ A14.out).mono ?_); rintro e w23 ⟨rfl, hb⟩; refine ⟨_, rfl, ?_⟩; have n0_ := Aside0.mk (blk_below (g := gb131) (o := .cells #[.slice A0_0 l0_0.length c0_0] 24 (0, 0)) (by (with_reducible repeat (first | refine blk_drewN ?_ _ | refine blk_drew ?_ | refine blk_alloc ?_ _)); refine blk_far ?_ NB131_134.out _; (with_reducible repeat (first | refine blk_drewN ?_ _ | refine blk_drew ?_ | refine blk_alloc ?_ _)); refine blk_far ?_ NB131_134.out _; (with_reducible repeat (first | refine blk_drewN ?_ _ | refine blk_drew ?_ | refine blk_alloc ?_ _)); refine blk_far ?_ NB131_134.out _; (with_reducible repeat (first | refine blk_drewN ?_ _ | refine blk_drew ?_ | refine blk_alloc ?_ _)); refine blk_far ?_ NB131_134.out _; (with_reducible repeat (first | refine blk_drewN ?_ _ | refine blk_drew ?_ | refine blk_alloc ?_ _)); exact BK131.out) hb); have n1_ := Aside0.mk (blk_below (g := gb134) (o := .cells #[.int .i64 ((rd_T59 l1 x20_2).f0), .int .i64 ((rd_T59 l1 x20_2).f1), .int .i64 ((rd_T59 l1 x20_2).f2), .bool ((rd_T59 l1 x20_2).f3)] 59 (0, 0)) (by (with_reducible repeat (first | refine blk_drewN ?_ _ | refine blk_drew ?_ | refine blk_alloc ?_ _)); refine blk_put (cs := #[.int .i64 ((rd_T59 l1 x20_2).f0), .int .i64 ((rd_T59 l1 x20_2).f1), .int .i64 ((rd_T59 l1 x20_2).f2), .bool false]) ?_ 3 _ rfl; (with_reducible repeat (first | refine blk_drewN ?_ _ | refine blk_drew ?_ | refine blk_alloc ?_ _)); refine blk_put (cs := #[.int .i64 ((rd_T59 l1 x20_2).f0), .int .i64 ((rd_T59 l1 x20_2).f1), .int .i64 0, .bool false]) ?_ 2 _ rfl; (with_reducible repeat (first | refine blk_drewN ?_ _ | refine blk_drew ?_ | refine blk_alloc ?_ _)); refine blk_put (cs := #[.int .i64 ((rd_T59 l1 x20_2).f0), .int .i64 0, .int .i64 0, .bool false]) ?_ 1 _ rfl; (with_reducible repeat (first | refine blk_drewN ?_ _ | refine blk_drew ?_ | refine blk_alloc ?_ _)); refine blk_put (cs := #[.int .i64 0, .int .i64 0, .int .i64 0, .bool false]) ?_ 0 _ rfl; (with_reducible repeat (first | refine blk_drewN ?_ _ | refine blk_drew ?_ | refine blk_alloc ?_ _)); exact BK134.out) hb); have n2_ := Aside0.mk (below_step (by repeat (first | (with_reducible first | exact HB.out | apply below_alloc | apply pw_below_drewN | apply below_drew1 | refine below_set ?_ GE131.out | refine below_set ?_ GE134.out) | exact HB.out)) hb); clear BK131; clear BK134; clear HB; have BK131 := n0_; have BK134 := n1_; have HB := n2_; clear n0_ n1_ n2_; (try clear hb); (try clear hb2); (try clear hk); (try clear hi); have hcz24_0 : w23.cell? ⟨gb131, 0, none⟩ = some (.slice A0_0 l0_0.length c0_0) := (blk_cell BK131.out 0).trans rfl; have hfz24_0 := blk_frozen BK131.out 0; have p136 : 0 ≤ (x20_2 : Int) := of_decide_eq_true (by first | (with_reducible assumption) | assumption); have q136 : x20_2 < (l0_0.length : Int) := of_decide_eq_true (by first | (with_reducible assumption) | assumption); obtain ⟨ad136, A136_7, c136_7, e136, hx136_0, hx136_1, hx136_2, hx136_3, hx136_4, hx136_5, hx136_6, hx136_7, hl136_7, hi136_7⟩ := at_T37 HR0_0.out x20_2 p136 q136; (try rw [← Nbq17.out] at hx136_2); (try rw [← Nbq17.out] at hx136_3); cases e136; replace hx136_0 := (HB.out.cell (World.block_lt_of_cell? w _ hx136_0)).trans hx136_0; replace hx136_1 := (HB.out.cell (World.block_lt_of_cell? w _ hx136_1)).trans hx136_1; replace hx136_2 := (HB.out.cell (World.block_lt_of_cell? w _ hx136_2)).trans hx136_2; replace hx136_3 := (HB.out.cell (World.block_lt_of_cell? w _ hx136_3)).trans hx136_3; replace hx136_4 := (HB.out.cell (World.block_lt_of_cell? w _ hx136_4)).trans hx136_4; replace hx136_5 := (HB.out.cell (World.block_lt_of_cell? w _ hx136_5)).trans hx136_5; replace hx136_6 := (HB.out.cell (World.block_lt_of_cell? w _ hx136_6)).trans hx136_6; replace hx136_7 := (HB.out.cell (World.block_lt_of_cell? w _ hx136_7)).trans hx136_7; have HR136_7 := Aside0.mk hi136_7; have HC136_7 := Aside0.mk hl136_7; clear hi136_7 hl136_7; replace p136 := eq_true p136; replace q136 := eq_true q136; have hcz25_0 : w23.cell? ⟨gb134, 0, none⟩ = some (.int .i64 ((rd_T59 l1 x20_2).f0)) := (blk_cell BK134.out 0).trans rfl; have hcz25_1 : w23.cell? ⟨gb134, 1, none⟩ = some (.int .i64 ((rd_T59 l1 x20_2).f1)) := (blk_cell BK134.out 1).trans rfl; have hcz25_2 : w23.cell? ⟨gb134, 2, none⟩ = some (.int .i64 ((rd_T59 l1 x20_2).f2)) := (blk_cell BK134.out 2).trans rfl; have hcz25_3 : w23.cell? ⟨gb134, 3, none⟩ = some (.bool ((rd_T59 l1 x20_2).f3)) := (blk_cell BK134.out 3).trans rfl; have hfz25_0 := blk_frozen BK134.out 0; have hfz25_1 := blk_frozen BK134.out 1; have hfz25_2 := blk_frozen BK134.out 2; have hfz25_3 := blk_frozen BK134.out 3))
             go_ret
             exact ⟨by first | rfl | (simp [errW_none, errW_some] <;> rfl) | (simp [*, errW_none, errW_some] <;> rfl), by repeat (first | (with_reducible first | exact HB.out | apply below_alloc | apply pw_below_drewN | apply below_drew1 | refine below_set ?_ GE131.out | refine below_set ?_ GE134.out) | exact HB.out)⟩
            ·rw [if_neg c19] at H
             have c19b0 : (!(((rd_T59 l1 x20_2).f0) == 0) || (!(((rd_T59 l1 x20_2).f1) == 0) || (!(((rd_T59 l1 x20_2).f2) == 0) || (((rd_T59 l1 x20_2).f3))))) = false := by simpa using c19
             clear c19
             have H' := Aside0.mk H
             clear H
             have p133 : 0 ≤ (x20_2 : Int) := of_decide_eq_true (by first | (with_reducible assumption) | assumption)
             have q133 : x20_2 < (l1.length : Int) := of_decide_eq_true (by first | (with_reducible assumption) | assumption)
             obtain ⟨ad133, e133, hx133_0, hx133_1, hx133_2, hx133_3⟩ := at_T59 HR1.out x20_2 p133 q133
             (try rw [← Nbq17.out] at hx133_3)
             cases e133
             replace hx133_0 := (HB.out.cell (World.block_lt_of_cell? w _ hx133_0)).trans hx133_0
             replace hx133_1 := (HB.out.cell (World.block_lt_of_cell? w _ hx133_1)).trans hx133_1
             replace hx133_2 := (HB.out.cell (World.block_lt_of_cell? w _ hx133_2)).trans hx133_2
             replace hx133_3 := (HB.out.cell (World.block_lt_of_cell? w _ hx133_3)).trans hx133_3
             replace p133 := eq_true p133
             replace q133 := eq_true q133
             go_wp2_with (first | ((with_reducible refine gate_dst (N := 6) rfl ?_); refine box_event ?hg (N := 6) ?hd (cs := #[.int .i64 0, .int .i64 0, .int .i64 0, .bool false]) (t := 59) ?hr ?_; (case hd => rfl); (case hg => rfl); (case hr => first | (go_simp; done) | (go_simp; rfl)); intro gb134 hg w26 hbox hb; have n0_ := Aside0.mk (blk_below (g := gb131) (o := .cells #[.slice A0_0 l0_0.length c0_0] 24 (0, 0)) (by (with_reducible repeat (first | refine blk_drewN ?_ _ | refine blk_drew ?_ | refine blk_alloc ?_ _)); exact BK131.out) hb); have n1_ := Aside0.mk (below_step (by repeat (first | (with_reducible first | exact HB.out | apply below_alloc | apply pw_below_drewN | apply below_drew1 | refine below_set ?_ GE131.out) | exact HB.out)) hb); have n2_ := Aside0.mk (hbox); have n3_ := Aside0.mk ((by rw [hg]; exact (below_size (by repeat (first | (with_reducible first | exact HB.out | apply below_alloc | apply pw_below_drewN | apply below_drew1 | refine below_set ?_ GE131.out) | exact HB.out))) : w.heap.size ≤ gb134)); have n4_ := Aside0.mk ((by rw [hg]; exact (below_size (by repeat (first | (with_reducible first | exact HB.out | apply below_alloc | apply pw_below_drewN | apply below_drew1 | refine below_set ?_ GE131.out) | exact HB.out))) : w.heap.size ≤ gb134)); have n5_ := Aside0.mk ((by rw [hg]; exact Nat.ne_of_lt (blk_lt (g := gb131) (o := .cells #[.slice A0_0 l0_0.length c0_0] 24 (0, 0)) (by (with_reducible repeat (first | refine blk_drewN ?_ _ | refine blk_drew ?_ | refine blk_alloc ?_ _)); exact BK131.out)) : gb131 ≠ gb134)); have n6_ := Aside0.mk ((by rw [hg]; exact Nat.ne_of_gt (blk_lt (g := gb131) (o := .cells #[.slice A0_0 l0_0.length c0_0] 24 (0, 0)) (by (with_reducible repeat (first | refine blk_drewN ?_ _ | refine blk_drew ?_ | refine blk_alloc ?_ _)); exact BK131.out)) : gb134 ≠ gb131)); clear BK131; clear HB; have BK131 := n0_; have HB := n1_; have BK134 := n2_; have GW134 := n3_; have GE134 := n4_; have NB131_134 := n5_; have NB134_131 := n6_; clear n0_ n1_ n2_ n3_ n4_ n5_ n6_; clear hb hbox hg; have hnb27 := NB134_131.out; have hnc27 := NB131_134.out; have hcz28_0 : w26.cell? ⟨gb134, 0, none⟩ = some (.int .i64 0) := (blk_cell BK134.out 0).trans rfl; have hcz28_1 : w26.cell? ⟨gb134, 1, none⟩ = some (.int .i64 0) := (blk_cell BK134.out 1).trans rfl; have hcz28_2 : w26.cell? ⟨gb134, 2, none⟩ = some (.int .i64 0) := (blk_cell BK134.out 2).trans rfl; have hcz28_3 : w26.cell? ⟨gb134, 3, none⟩ = some (.bool false) := (blk_cell BK134.out 3).trans rfl; have hfz28_0 := blk_frozen BK134.out 0; have hfz28_1 := blk_frozen BK134.out 1; have hfz28_2 := blk_frozen BK134.out 2; have hfz28_3 := blk_frozen BK134.out 3) | ((with_reducible refine gate_callee (f := 35) rfl ?_); refine goesL_ (some 26) rfl rfl Try.func35 (by kernel_rfl) rfl #[.agg #[.int .i64 ((rd_T59 l1 x20_2).f0), .int .i64 ((rd_T59 l1 x20_2).f1), .int .i64 ((rd_T59 l1 x20_2).f2), .bool ((rd_T59 l1 x20_2).f3)]] rfl (by (try simp only [List.map_toArray, List.map_cons, List.map_nil]); first | done | rfl | (simp only [List.length_drop, List.length_take]; rfl)) ?_; (with_reducible refine (fact_fine.calls k2 ((rd_T59 l1 x20_2).f0) ((rd_T59 l1 x20_2).f1) ((rd_T59 l1 x20_2).f2) ((rd_T59 l1 x20_2).f3) true _ A14.out).mono ?_); rintro e w29 ⟨rfl, hb⟩; refine ⟨_, rfl, ?_⟩; have n0_ := Aside0.mk (blk_below (g := gb131) (o := .cells #[.slice A0_0 l0_0.length c0_0] 24 (0, 0)) (by (with_reducible repeat (first | refine blk_drewN ?_ _ | refine blk_drew ?_ | refine blk_alloc ?_ _)); refine blk_far ?_ NB131_134.out _; (with_reducible repeat (first | refine blk_drewN ?_ _ | refine blk_drew ?_ | refine blk_alloc ?_ _)); refine blk_far ?_ NB131_134.out _; (with_reducible repeat (first | refine blk_drewN ?_ _ | refine blk_drew ?_ | refine blk_alloc ?_ _)); refine blk_far ?_ NB131_134.out _; (with_reducible repeat (first | refine blk_drewN ?_ _ | refine blk_drew ?_ | refine blk_alloc ?_ _)); refine blk_far ?_ NB131_134.out _; (with_reducible repeat (first | refine blk_drewN ?_ _ | refine blk_drew ?_ | refine blk_alloc ?_ _)); exact BK131.out) hb); have n1_ := Aside0.mk (blk_below (g := gb134) (o := .cells #[.int .i64 ((rd_T59 l1 x20_2).f0), .int .i64 ((rd_T59 l1 x20_2).f1), .int .i64 ((rd_T59 l1 x20_2).f2), .bool ((rd_T59 l1 x20_2).f3)] 59 (0, 0)) (by (with_reducible repeat (first | refine blk_drewN ?_ _ | refine blk_drew ?_ | refine blk_alloc ?_ _)); refine blk_put (cs := #[.int .i64 ((rd_T59 l1 x20_2).f0), .int .i64 ((rd_T59 l1 x20_2).f1), .int .i64 ((rd_T59 l1 x20_2).f2), .bool false]) ?_ 3 _ rfl; (with_reducible repeat (first | refine blk_drewN ?_ _ | refine blk_drew ?_ | refine blk_alloc ?_ _)); refine blk_put (cs := #[.int .i64 ((rd_T59 l1 x20_2).f0), .int .i64 ((rd_T59 l1 x20_2).f1), .int .i64 0, .bool false]) ?_ 2 _ rfl; (with_reducible repeat (first | refine blk_drewN ?_ _ | refine blk_drew ?_ | refine blk_alloc ?_ _)); refine blk_put (cs := #[.int .i64 ((rd_T59 l1 x20_2).f0), .int .i64 0, .int .i64 0, .bool false]) ?_ 1 _ rfl; (with_reducible repeat (first | refine blk_drewN ?_ _ | refine blk_drew ?_ | refine blk_alloc ?_ _)); refine blk_put (cs := #[.int .i64 0, .int .i64 0, .int .i64 0, .bool false]) ?_ 0 _ rfl; (with_reducible repeat (first | refine blk_drewN ?_ _ | refine blk_drew ?_ | refine blk_alloc ?_ _)); exact BK134.out) hb); have n2_ := Aside0.mk (below_step (by repeat (first | (with_reducible first | exact HB.out | apply below_alloc | apply pw_below_drewN | apply below_drew1 | refine below_set ?_ GE131.out | refine below_set ?_ GE134.out) | exact HB.out)) hb); clear BK131; clear BK134; clear HB; have BK131 := n0_; have BK134 := n1_; have HB := n2_; clear n0_ n1_ n2_; (try clear hb); (try clear hb2); (try clear hk); (try clear hi); have hcz30_0 : w29.cell? ⟨gb131, 0, none⟩ = some (.slice A0_0 l0_0.length c0_0) := (blk_cell BK131.out 0).trans rfl; have hfz30_0 := blk_frozen BK131.out 0; have p136 : 0 ≤ (x20_2 : Int) := of_decide_eq_true (by first | (with_reducible assumption) | assumption); have q136 : x20_2 < (l0_0.length : Int) := of_decide_eq_true (by first | (with_reducible assumption) | assumption); obtain ⟨ad136, A136_7, c136_7, e136, hx136_0, hx136_1, hx136_2, hx136_3, hx136_4, hx136_5, hx136_6, hx136_7, hl136_7, hi136_7⟩ := at_T37 HR0_0.out x20_2 p136 q136; (try rw [← Nbq17.out] at hx136_2); (try rw [← Nbq17.out] at hx136_3); cases e136; replace hx136_0 := (HB.out.cell (World.block_lt_of_cell? w _ hx136_0)).trans hx136_0; replace hx136_1 := (HB.out.cell (World.block_lt_of_cell? w _ hx136_1)).trans hx136_1; replace hx136_2 := (HB.out.cell (World.block_lt_of_cell? w _ hx136_2)).trans hx136_2; replace hx136_3 := (HB.out.cell (World.block_lt_of_cell? w _ hx136_3)).trans hx136_3; replace hx136_4 := (HB.out.cell (World.block_lt_of_cell? w _ hx136_4)).trans hx136_4; replace hx136_5 := (HB.out.cell (World.block_lt_of_cell? w _ hx136_5)).trans hx136_5; replace hx136_6 := (HB.out.cell (World.block_lt_of_cell? w _ hx136_6)).trans hx136_6; replace hx136_7 := (HB.out.cell (World.block_lt_of_cell? w _ hx136_7)).trans hx136_7; have HR136_7 := Aside0.mk hi136_7; have HC136_7 := Aside0.mk hl136_7; clear hi136_7 hl136_7; replace p136 := eq_true p136; replace q136 := eq_true q136; have hcz31_0 : w29.cell? ⟨gb134, 0, none⟩ = some (.int .i64 ((rd_T59 l1 x20_2).f0)) := (blk_cell BK134.out 0).trans rfl; have hcz31_1 : w29.cell? ⟨gb134, 1, none⟩ = some (.int .i64 ((rd_T59 l1 x20_2).f1)) := (blk_cell BK134.out 1).trans rfl; have hcz31_2 : w29.cell? ⟨gb134, 2, none⟩ = some (.int .i64 ((rd_T59 l1 x20_2).f2)) := (blk_cell BK134.out 2).trans rfl; have hcz31_3 : w29.cell? ⟨gb134, 3, none⟩ = some (.bool ((rd_T59 l1 x20_2).f3)) := (blk_cell BK134.out 3).trans rfl; have hfz31_0 := blk_frozen BK134.out 0; have hfz31_1 := blk_frozen BK134.out 1; have hfz31_2 := blk_frozen BK134.out 2; have hfz31_3 := blk_frozen BK134.out 3))
             go_roundg k2
             case measure => have := HJ2.out; have := HK2.out; omega
             case rel => exact ⟨(wrap64 (x20_2 + 1)), (by first | rfl | (simp; done) | (simp [*]; done)), H', ⟨by have := HJ2.out; have := HK2.out; omega⟩, ⟨by (with_reducible repeat (first | refine blk_drewN ?_ _ | refine blk_drew ?_ | refine blk_alloc ?_ _)); exact BK131.out⟩, ⟨by repeat (first | (with_reducible first | exact HB.out | apply below_alloc | apply pw_below_drewN | apply below_drew1 | refine below_set ?_ GE131.out | refine below_set ?_ GE134.out) | exact HB.out)⟩⟩
           ·replace c18 := Bool.eq_false_iff.mpr c18
            subst c18
            have H1 : (fact_Check.l0 k2 l1 (l1.length : Int) (wrap64 (x20_2 + 1)) l0_0) = some r := by rw [if_neg (show ¬ (false = true) by decide)] at H; exact H
            clear H
            have H := H1
            clear H1
            have H' := Aside0.mk H
            clear H
            have p133 : 0 ≤ (x20_2 : Int) := of_decide_eq_true (by first | (with_reducible assumption) | assumption)
            have q133 : x20_2 < (l1.length : Int) := of_decide_eq_true (by first | (with_reducible assumption) | assumption)
            obtain ⟨ad133, e133, hx133_0, hx133_1, hx133_2, hx133_3⟩ := at_T59 HR1.out x20_2 p133 q133
            (try rw [← Nbq17.out] at hx133_3)
            cases e133
            replace hx133_0 := (HB.out.cell (World.block_lt_of_cell? w _ hx133_0)).trans hx133_0
            replace hx133_1 := (HB.out.cell (World.block_lt_of_cell? w _ hx133_1)).trans hx133_1
            replace hx133_2 := (HB.out.cell (World.block_lt_of_cell? w _ hx133_2)).trans hx133_2
            replace hx133_3 := (HB.out.cell (World.block_lt_of_cell? w _ hx133_3)).trans hx133_3
            replace p133 := eq_true p133
            replace q133 := eq_true q133
            go_wp2_with (first | ((with_reducible refine gate_dst (N := 6) rfl ?_); refine box_event ?hg (N := 6) ?hd (cs := #[.int .i64 0, .int .i64 0, .int .i64 0, .bool false]) (t := 59) ?hr ?_; (case hd => rfl); (case hg => rfl); (case hr => first | (go_simp; done) | (go_simp; rfl)); intro gb134 hg w32 hbox hb; have n0_ := Aside0.mk (blk_below (g := gb131) (o := .cells #[.slice A0_0 l0_0.length c0_0] 24 (0, 0)) (by (with_reducible repeat (first | refine blk_drewN ?_ _ | refine blk_drew ?_ | refine blk_alloc ?_ _)); exact BK131.out) hb); have n1_ := Aside0.mk (below_step (by repeat (first | (with_reducible first | exact HB.out | apply below_alloc | apply pw_below_drewN | apply below_drew1 | refine below_set ?_ GE131.out) | exact HB.out)) hb); have n2_ := Aside0.mk (hbox); have n3_ := Aside0.mk ((by rw [hg]; exact (below_size (by repeat (first | (with_reducible first | exact HB.out | apply below_alloc | apply pw_below_drewN | apply below_drew1 | refine below_set ?_ GE131.out) | exact HB.out))) : w.heap.size ≤ gb134)); have n4_ := Aside0.mk ((by rw [hg]; exact (below_size (by repeat (first | (with_reducible first | exact HB.out | apply below_alloc | apply pw_below_drewN | apply below_drew1 | refine below_set ?_ GE131.out) | exact HB.out))) : w.heap.size ≤ gb134)); have n5_ := Aside0.mk ((by rw [hg]; exact Nat.ne_of_lt (blk_lt (g := gb131) (o := .cells #[.slice A0_0 l0_0.length c0_0] 24 (0, 0)) (by (with_reducible repeat (first | refine blk_drewN ?_ _ | refine blk_drew ?_ | refine blk_alloc ?_ _)); exact BK131.out)) : gb131 ≠ gb134)); have n6_ := Aside0.mk ((by rw [hg]; exact Nat.ne_of_gt (blk_lt (g := gb131) (o := .cells #[.slice A0_0 l0_0.length c0_0] 24 (0, 0)) (by (with_reducible repeat (first | refine blk_drewN ?_ _ | refine blk_drew ?_ | refine blk_alloc ?_ _)); exact BK131.out)) : gb134 ≠ gb131)); clear BK131; clear HB; have BK131 := n0_; have HB := n1_; have BK134 := n2_; have GW134 := n3_; have GE134 := n4_; have NB131_134 := n5_; have NB134_131 := n6_; clear n0_ n1_ n2_ n3_ n4_ n5_ n6_; clear hb hbox hg; have hnb33 := NB134_131.out; have hnc33 := NB131_134.out; have hcz34_0 : w32.cell? ⟨gb134, 0, none⟩ = some (.int .i64 0) := (blk_cell BK134.out 0).trans rfl; have hcz34_1 : w32.cell? ⟨gb134, 1, none⟩ = some (.int .i64 0) := (blk_cell BK134.out 1).trans rfl; have hcz34_2 : w32.cell? ⟨gb134, 2, none⟩ = some (.int .i64 0) := (blk_cell BK134.out 2).trans rfl; have hcz34_3 : w32.cell? ⟨gb134, 3, none⟩ = some (.bool false) := (blk_cell BK134.out 3).trans rfl; have hfz34_0 := blk_frozen BK134.out 0; have hfz34_1 := blk_frozen BK134.out 1; have hfz34_2 := blk_frozen BK134.out 2; have hfz34_3 := blk_frozen BK134.out 3) | ((with_reducible refine gate_callee (f := 35) rfl ?_); refine goesL_ (some 26) rfl rfl Try.func35 (by kernel_rfl) rfl #[.agg #[.int .i64 ((rd_T59 l1 x20_2).f0), .int .i64 ((rd_T59 l1 x20_2).f1), .int .i64 ((rd_T59 l1 x20_2).f2), .bool ((rd_T59 l1 x20_2).f3)]] rfl (by (try simp only [List.map_toArray, List.map_cons, List.map_nil]); first | done | rfl | (simp only [List.length_drop, List.length_take]; rfl)) ?_; (with_reducible refine (fact_fine.calls k2 ((rd_T59 l1 x20_2).f0) ((rd_T59 l1 x20_2).f1) ((rd_T59 l1 x20_2).f2) ((rd_T59 l1 x20_2).f3) true _ A14.out).mono ?_); rintro e w35 ⟨rfl, hb⟩; refine ⟨_, rfl, ?_⟩; have n0_ := Aside0.mk (blk_below (g := gb131) (o := .cells #[.slice A0_0 l0_0.length c0_0] 24 (0, 0)) (by (with_reducible repeat (first | refine blk_drewN ?_ _ | refine blk_drew ?_ | refine blk_alloc ?_ _)); refine blk_far ?_ NB131_134.out _; (with_reducible repeat (first | refine blk_drewN ?_ _ | refine blk_drew ?_ | refine blk_alloc ?_ _)); refine blk_far ?_ NB131_134.out _; (with_reducible repeat (first | refine blk_drewN ?_ _ | refine blk_drew ?_ | refine blk_alloc ?_ _)); refine blk_far ?_ NB131_134.out _; (with_reducible repeat (first | refine blk_drewN ?_ _ | refine blk_drew ?_ | refine blk_alloc ?_ _)); refine blk_far ?_ NB131_134.out _; (with_reducible repeat (first | refine blk_drewN ?_ _ | refine blk_drew ?_ | refine blk_alloc ?_ _)); exact BK131.out) hb); have n1_ := Aside0.mk (blk_below (g := gb134) (o := .cells #[.int .i64 ((rd_T59 l1 x20_2).f0), .int .i64 ((rd_T59 l1 x20_2).f1), .int .i64 ((rd_T59 l1 x20_2).f2), .bool ((rd_T59 l1 x20_2).f3)] 59 (0, 0)) (by (with_reducible repeat (first | refine blk_drewN ?_ _ | refine blk_drew ?_ | refine blk_alloc ?_ _)); refine blk_put (cs := #[.int .i64 ((rd_T59 l1 x20_2).f0), .int .i64 ((rd_T59 l1 x20_2).f1), .int .i64 ((rd_T59 l1 x20_2).f2), .bool false]) ?_ 3 _ rfl; (with_reducible repeat (first | refine blk_drewN ?_ _ | refine blk_drew ?_ | refine blk_alloc ?_ _)); refine blk_put (cs := #[.int .i64 ((rd_T59 l1 x20_2).f0), .int .i64 ((rd_T59 l1 x20_2).f1), .int .i64 0, .bool false]) ?_ 2 _ rfl; (with_reducible repeat (first | refine blk_drewN ?_ _ | refine blk_drew ?_ | refine blk_alloc ?_ _)); refine blk_put (cs := #[.int .i64 ((rd_T59 l1 x20_2).f0), .int .i64 0, .int .i64 0, .bool false]) ?_ 1 _ rfl; (with_reducible repeat (first | refine blk_drewN ?_ _ | refine blk_drew ?_ | refine blk_alloc ?_ _)); refine blk_put (cs := #[.int .i64 0, .int .i64 0, .int .i64 0, .bool false]) ?_ 0 _ rfl; (with_reducible repeat (first | refine blk_drewN ?_ _ | refine blk_drew ?_ | refine blk_alloc ?_ _)); exact BK134.out) hb); have n2_ := Aside0.mk (below_step (by repeat (first | (with_reducible first | exact HB.out | apply below_alloc | apply pw_below_drewN | apply below_drew1 | refine below_set ?_ GE131.out | refine below_set ?_ GE134.out) | exact HB.out)) hb); clear BK131; clear BK134; clear HB; have BK131 := n0_; have BK134 := n1_; have HB := n2_; clear n0_ n1_ n2_; (try clear hb); (try clear hb2); (try clear hk); (try clear hi); have hcz36_0 : w35.cell? ⟨gb131, 0, none⟩ = some (.slice A0_0 l0_0.length c0_0) := (blk_cell BK131.out 0).trans rfl; have hfz36_0 := blk_frozen BK131.out 0; have p136 : 0 ≤ (x20_2 : Int) := of_decide_eq_true (by first | (with_reducible assumption) | assumption); have q136 : x20_2 < (l0_0.length : Int) := of_decide_eq_true (by first | (with_reducible assumption) | assumption); obtain ⟨ad136, A136_7, c136_7, e136, hx136_0, hx136_1, hx136_2, hx136_3, hx136_4, hx136_5, hx136_6, hx136_7, hl136_7, hi136_7⟩ := at_T37 HR0_0.out x20_2 p136 q136; (try rw [← Nbq17.out] at hx136_2); (try rw [← Nbq17.out] at hx136_3); cases e136; replace hx136_0 := (HB.out.cell (World.block_lt_of_cell? w _ hx136_0)).trans hx136_0; replace hx136_1 := (HB.out.cell (World.block_lt_of_cell? w _ hx136_1)).trans hx136_1; replace hx136_2 := (HB.out.cell (World.block_lt_of_cell? w _ hx136_2)).trans hx136_2; replace hx136_3 := (HB.out.cell (World.block_lt_of_cell? w _ hx136_3)).trans hx136_3; replace hx136_4 := (HB.out.cell (World.block_lt_of_cell? w _ hx136_4)).trans hx136_4; replace hx136_5 := (HB.out.cell (World.block_lt_of_cell? w _ hx136_5)).trans hx136_5; replace hx136_6 := (HB.out.cell (World.block_lt_of_cell? w _ hx136_6)).trans hx136_6; replace hx136_7 := (HB.out.cell (World.block_lt_of_cell? w _ hx136_7)).trans hx136_7; have HR136_7 := Aside0.mk hi136_7; have HC136_7 := Aside0.mk hl136_7; clear hi136_7 hl136_7; replace p136 := eq_true p136; replace q136 := eq_true q136))
            go_roundg k2
            case measure => have := HJ2.out; have := HK2.out; omega
            case rel => exact ⟨(wrap64 (x20_2 + 1)), (by first | rfl | (simp; done) | (simp [*]; done)), H', ⟨by have := HJ2.out; have := HK2.out; omega⟩, ⟨by (with_reducible repeat (first | refine blk_drewN ?_ _ | refine blk_drew ?_ | refine blk_alloc ?_ _)); exact BK131.out⟩, ⟨by repeat (first | (with_reducible first | exact HB.out | apply below_alloc | apply pw_below_drewN | apply below_drew1 | refine below_set ?_ GE131.out | refine below_set ?_ GE134.out) | exact HB.out)⟩⟩
          ·rw [if_neg c16] at H
           exact absurd H (by simp)
         ·replace c15 := Bool.eq_false_iff.mpr c15
          subst c15
          have H1 : (some 2) = some r := by rw [if_neg (show ¬ (false = true) by decide)] at H; exact H
          clear H
          have H := H1
          clear H1
          obtain rfl := Option.some.inj H
          have p133 : 0 ≤ (x20_2 : Int) := of_decide_eq_true (by first | (with_reducible assumption) | assumption)
          have q133 : x20_2 < (l1.length : Int) := of_decide_eq_true (by first | (with_reducible assumption) | assumption)
          obtain ⟨ad133, e133, hx133_0, hx133_1, hx133_2, hx133_3⟩ := at_T59 HR1.out x20_2 p133 q133
          cases e133
          replace hx133_0 := (HB.out.cell (World.block_lt_of_cell? w _ hx133_0)).trans hx133_0
          replace hx133_1 := (HB.out.cell (World.block_lt_of_cell? w _ hx133_1)).trans hx133_1
          replace hx133_2 := (HB.out.cell (World.block_lt_of_cell? w _ hx133_2)).trans hx133_2
          replace hx133_3 := (HB.out.cell (World.block_lt_of_cell? w _ hx133_3)).trans hx133_3
          replace p133 := eq_true p133
          replace q133 := eq_true q133
          go_wp2_with (first | ((with_reducible refine gate_dst (N := 6) rfl ?_); refine box_event ?hg (N := 6) ?hd (cs := #[.int .i64 0, .int .i64 0, .int .i64 0, .bool false]) (t := 59) ?hr ?_; (case hd => rfl); (case hg => rfl); (case hr => first | (go_simp; done) | (go_simp; rfl)); intro gb134 hg w37 hbox hb; have n0_ := Aside0.mk (blk_below (g := gb131) (o := .cells #[.slice A0_0 l0_0.length c0_0] 24 (0, 0)) (by (with_reducible repeat (first | refine blk_drewN ?_ _ | refine blk_drew ?_ | refine blk_alloc ?_ _)); exact BK131.out) hb); have n1_ := Aside0.mk (below_step (by repeat (first | (with_reducible first | exact HB.out | apply below_alloc | apply pw_below_drewN | apply below_drew1 | refine below_set ?_ GE131.out) | exact HB.out)) hb); have n2_ := Aside0.mk (hbox); have n3_ := Aside0.mk ((by rw [hg]; exact (below_size (by repeat (first | (with_reducible first | exact HB.out | apply below_alloc | apply pw_below_drewN | apply below_drew1 | refine below_set ?_ GE131.out) | exact HB.out))) : w.heap.size ≤ gb134)); have n4_ := Aside0.mk ((by rw [hg]; exact (below_size (by repeat (first | (with_reducible first | exact HB.out | apply below_alloc | apply pw_below_drewN | apply below_drew1 | refine below_set ?_ GE131.out) | exact HB.out))) : w.heap.size ≤ gb134)); have n5_ := Aside0.mk ((by rw [hg]; exact Nat.ne_of_lt (blk_lt (g := gb131) (o := .cells #[.slice A0_0 l0_0.length c0_0] 24 (0, 0)) (by (with_reducible repeat (first | refine blk_drewN ?_ _ | refine blk_drew ?_ | refine blk_alloc ?_ _)); exact BK131.out)) : gb131 ≠ gb134)); have n6_ := Aside0.mk ((by rw [hg]; exact Nat.ne_of_gt (blk_lt (g := gb131) (o := .cells #[.slice A0_0 l0_0.length c0_0] 24 (0, 0)) (by (with_reducible repeat (first | refine blk_drewN ?_ _ | refine blk_drew ?_ | refine blk_alloc ?_ _)); exact BK131.out)) : gb134 ≠ gb131)); clear BK131; clear HB; have BK131 := n0_; have HB := n1_; have BK134 := n2_; have GW134 := n3_; have GE134 := n4_; have NB131_134 := n5_; have NB134_131 := n6_; clear n0_ n1_ n2_ n3_ n4_ n5_ n6_; clear hb hbox hg; have hnb38 := NB134_131.out; have hnc38 := NB131_134.out; have hcz39_0 : w37.cell? ⟨gb134, 0, none⟩ = some (.int .i64 0) := (blk_cell BK134.out 0).trans rfl; have hcz39_1 : w37.cell? ⟨gb134, 1, none⟩ = some (.int .i64 0) := (blk_cell BK134.out 1).trans rfl; have hcz39_2 : w37.cell? ⟨gb134, 2, none⟩ = some (.int .i64 0) := (blk_cell BK134.out 2).trans rfl; have hcz39_3 : w37.cell? ⟨gb134, 3, none⟩ = some (.bool false) := (blk_cell BK134.out 3).trans rfl; have hfz39_0 := blk_frozen BK134.out 0; have hfz39_1 := blk_frozen BK134.out 1; have hfz39_2 := blk_frozen BK134.out 2; have hfz39_3 := blk_frozen BK134.out 3) | ((with_reducible refine gate_callee (f := 35) rfl ?_); refine goesL_ (some 26) rfl rfl Try.func35 (by kernel_rfl) rfl #[.agg #[.int .i64 ((rd_T59 l1 x20_2).f0), .int .i64 ((rd_T59 l1 x20_2).f1), .int .i64 ((rd_T59 l1 x20_2).f2), .bool ((rd_T59 l1 x20_2).f3)]] rfl (by (try simp only [List.map_toArray, List.map_cons, List.map_nil]); first | done | rfl | (simp only [List.length_drop, List.length_take]; rfl)) ?_; (with_reducible refine (fact_fine.calls k2 ((rd_T59 l1 x20_2).f0) ((rd_T59 l1 x20_2).f1) ((rd_T59 l1 x20_2).f2) ((rd_T59 l1 x20_2).f3) false _ A14.out).mono ?_); rintro e w40 ⟨rfl, hb⟩; refine ⟨_, rfl, ?_⟩; have n0_ := Aside0.mk (blk_below (g := gb131) (o := .cells #[.slice A0_0 l0_0.length c0_0] 24 (0, 0)) (by (with_reducible repeat (first | refine blk_drewN ?_ _ | refine blk_drew ?_ | refine blk_alloc ?_ _)); refine blk_far ?_ NB131_134.out _; (with_reducible repeat (first | refine blk_drewN ?_ _ | refine blk_drew ?_ | refine blk_alloc ?_ _)); refine blk_far ?_ NB131_134.out _; (with_reducible repeat (first | refine blk_drewN ?_ _ | refine blk_drew ?_ | refine blk_alloc ?_ _)); refine blk_far ?_ NB131_134.out _; (with_reducible repeat (first | refine blk_drewN ?_ _ | refine blk_drew ?_ | refine blk_alloc ?_ _)); refine blk_far ?_ NB131_134.out _; (with_reducible repeat (first | refine blk_drewN ?_ _ | refine blk_drew ?_ | refine blk_alloc ?_ _)); exact BK131.out) hb); have n1_ := Aside0.mk (blk_below (g := gb134) (o := .cells #[.int .i64 ((rd_T59 l1 x20_2).f0), .int .i64 ((rd_T59 l1 x20_2).f1), .int .i64 ((rd_T59 l1 x20_2).f2), .bool ((rd_T59 l1 x20_2).f3)] 59 (0, 0)) (by (with_reducible repeat (first | refine blk_drewN ?_ _ | refine blk_drew ?_ | refine blk_alloc ?_ _)); refine blk_put (cs := #[.int .i64 ((rd_T59 l1 x20_2).f0), .int .i64 ((rd_T59 l1 x20_2).f1), .int .i64 ((rd_T59 l1 x20_2).f2), .bool false]) ?_ 3 _ rfl; (with_reducible repeat (first | refine blk_drewN ?_ _ | refine blk_drew ?_ | refine blk_alloc ?_ _)); refine blk_put (cs := #[.int .i64 ((rd_T59 l1 x20_2).f0), .int .i64 ((rd_T59 l1 x20_2).f1), .int .i64 0, .bool false]) ?_ 2 _ rfl; (with_reducible repeat (first | refine blk_drewN ?_ _ | refine blk_drew ?_ | refine blk_alloc ?_ _)); refine blk_put (cs := #[.int .i64 ((rd_T59 l1 x20_2).f0), .int .i64 0, .int .i64 0, .bool false]) ?_ 1 _ rfl; (with_reducible repeat (first | refine blk_drewN ?_ _ | refine blk_drew ?_ | refine blk_alloc ?_ _)); refine blk_put (cs := #[.int .i64 0, .int .i64 0, .int .i64 0, .bool false]) ?_ 0 _ rfl; (with_reducible repeat (first | refine blk_drewN ?_ _ | refine blk_drew ?_ | refine blk_alloc ?_ _)); exact BK134.out) hb); have n2_ := Aside0.mk (below_step (by repeat (first | (with_reducible first | exact HB.out | apply below_alloc | apply pw_below_drewN | apply below_drew1 | refine below_set ?_ GE131.out | refine below_set ?_ GE134.out) | exact HB.out)) hb); clear BK131; clear BK134; clear HB; have BK131 := n0_; have BK134 := n1_; have HB := n2_; clear n0_ n1_ n2_; (try clear hb); (try clear hb2); (try clear hk); (try clear hi)))
          go_ret
          exact ⟨by first | rfl | (simp [errW_none, errW_some] <;> rfl) | (simp [*, errW_none, errW_some] <;> rfl), by repeat (first | (with_reducible first | exact HB.out | apply below_alloc | apply pw_below_drewN | apply below_drew1 | refine below_set ?_ GE131.out | refine below_set ?_ GE134.out) | exact HB.out)⟩
        ·rw [if_neg c13] at H
         exact absurd H (by simp)
       ·rw [if_neg c12] at H
        exact absurd H (by simp)
      ·rw [if_neg c11] at H
       have c11b0 : decide (x20_2 < (l1.length : Int)) = false := decide_eq_false c11
       clear c11
       obtain rfl := Option.some.inj H
       go_wp2
       go_ret
       exact ⟨by first | rfl | (simp [errW_none, errW_some] <;> rfl) | (simp [*, errW_none, errW_some] <;> rfl), by repeat (first | (with_reducible first | exact HB.out | apply below_alloc | apply pw_below_drewN | apply below_drew1 | refine below_set ?_ GE131.out) | exact HB.out)⟩
end Go.Proofs.Ytihpndignekheaa.F
end

section
namespace Go.Proofs.Ytihpndignekheaa.F
open Go.RowKit Go.Proofs.YtihpndignekheaaW.PrintWords Go.Proofs.YtihpndignekheaaW.PrintLast Go.Proofs.YtihpndignekheaaW.PrintMore
attribute [local go_sem] max2_int min2_int max_two min_two max_three min_three max_four min_four
set_option linter.unusedVariables false
set_option linter.unusedSimpArgs false
theorem info56_ : (Try.prog.info? 59).map (fun i => (i.zero, i.size, i.bytes)) = some (some (.agg #[(.int .i64 0), (.int .i64 0), (.int .i64 0), (.bool false)]), 4, 32) := by kernel_rfl
set_option maxHeartbeats 8000000 in
set_option maxRecDepth 100000 in
theorem clone_walk (A : Option Addr) (c : Nat) (l : List S59) (w : World) (hr : Kd.C k59 w A l.length l) (hl : l.length ≤ 1000000) :
  Calls Try.prog 31 #[.slice A l.length c] w fun e w' => ∃ v, e = .returned v ∧ Kd.R k59 59 w' w.heap.size (fun _ => True) v l ∧ Below w.heap.size w w' := by
 have HR := Aside0.mk hr
 have HL := Aside0.mk hl
 have HB := Aside0.mk (Below.refl w.heap.size w)
 have he := fun (B : Option Addr) (n c : Nat) (w : World) => Lib.run_eql_slice_nil (P := Try.prog) w 25 59 B n c 0 0 Try.underlying25
 clear hr hl
 cases A with
 | none =>
  have h0 : l = [] := by
   cases l with
   | nil => rfl
   | cons x l => obtain ⟨ad, h, _⟩ := HR.out.2.2 (by simp); cases h
  subst h0
  go_enter Try.func31, Try.ntmps31
  go_wp2
  go_ret
  exact ⟨_, rfl, Kd.R_nil _ _ _ _ _, HB.out⟩
 | some ad =>
  have h2 := World.ownsRow_lit (base := w.heap.size) (e := 59) (size := k59.sz) w #[] 0 (Nat.le_refl _) (by simp) (by simp)
  have HO0 : Aside0 (Kd.R k59 59 (w.alloc (.cells #[] 59 (0, 0))) w.heap.size (fun _ => True) (.slice (some ⟨w.heap.size, 0, none⟩) 0 0) []) := ⟨⟨fun _ _ => trivial, [], by simpa using h2, Reps.none _ _⟩⟩
  clear h2
  go_enter Try.func31, Try.ntmps31
  go_wp2_with ((with_reducible refine gate_builtin (b := .append) (xs := #[.tmp 5, .tmp 6]) rfl ?_); at_builtin; refine Kd.R_append_rows k59 (w0 := w) w.heap.size rfl (.tmp 5) (.tmp 6) 25 59 (.agg #[(.int .i64 0), (.int .i64 0), (.int .i64 0), (.bool false)]) 32 rfl Try.underlying25 info56_ rfl (by decide) (by omega) (.slice (some ⟨w.heap.size, 0, none⟩) 0 0) [] l _ _ _ (fun _ => True) (fun _ => False) rfl rfl HO0.out (Kd.C_below HR.out (below_alloc (Below.refl _ _) _)) (fun _ _ h => h) (fun _ h => h.elim) (fun _ _ => trivial) (HB.out.alloc (Nat.le_refl _) _) (by simp) (by have := HL.out; simp; omega) ?_; intro v1 w1 hR hB hg hx; have HR1 := Aside0.mk hR; have HB1 := Aside0.mk hB; clear hR hB hg hx)
  go_ret
  exact ⟨_, rfl, HR1.out, HB1.out⟩
end Go.Proofs.Ytihpndignekheaa.F
end

section
namespace Go.Proofs.Ytihpndignekheaa.F
open Go.RowKit Go.Proofs.YtihpndignekheaaW.PrintWords Go.Proofs.YtihpndignekheaaW.PrintLast Go.Proofs.YtihpndignekheaaW.PrintMore
attribute [local go_sem] max2_int min2_int max_two min_two max_three min_three max_four min_four
set_option linter.unusedVariables false
set_option linter.unusedSimpArgs false
def fl0 : Fl := ⟨false, false, false, false, false, 0⟩
def stZ : St := ⟨fun _ => fl0, fun _ _ => ⟨false, false, false⟩⟩
theorem zero_board (pv lv : Value) : (Try.zeroCells49.setIfInBounds 0 pv).setIfInBounds 1 lv = bCells (memOf pv lv stZ) := by kernel_rfl
def stA : St := ⟨fun _ => fl0, fun _ _ => ⟨false, true, true⟩⟩
def stB (i k : Nat) : St := ⟨fun _ => fl0, fun a b => if a < i ∨ (a = i ∧ b < k) then ⟨false, true, true⟩ else ⟨false, false, false⟩⟩
theorem BoardAt.congr {w : World} {g : Nat} {pv lv : Value} {s s' : St} (h : BoardAt w g pv lv s) (h1 : ∀ i, i < 64 → s.it i = s'.it i) (h2 : ∀ i k, i < 64 → k < 4 → s.bo i k = s'.bo i k) : BoardAt w g pv lv s' := by
 refine BoardAt.of h (fun j hj => ?_)
 unfold memOf
 by_cases h0 : j = 0
 ·rw [if_pos h0, if_pos h0]
 by_cases h3 : j = 1
 ·rw [if_neg h0, if_pos h3, if_neg h0, if_pos h3]
 by_cases h4 : j < 386
 ·rw [if_neg h0, if_neg h3, if_pos h4, if_neg h0, if_neg h3, if_pos h4, h1 _ (by omega)]
 ·rw [if_neg h0, if_neg h3, if_neg h4, if_neg h0, if_neg h3, if_neg h4, h2 _ _ (by omega) (by omega)]
theorem BoardAt.putBy {w : World} {g : Nat} {pv lv : Value} {s : St} (h : BoardAt w g pv lv s) (i k : Nat) (hi : i < 64) (hk : k < 4) (b : By) : BoardAt (((w.setCell ⟨g, 386 + i * 12 + k * 3, none⟩ (.bool b.fa)).setCell ⟨g, 386 + i * 12 + k * 3 + 1, none⟩ (.bool b.wh)).setCell ⟨g, 386 + i * 12 + k * 3 + 2, none⟩ (.bool b.cl)) g pv lv (s.setBo i k b) :=
 ((h.putBo i k 0 hi hk (by omega) (.bool b.fa) ⟨b.fa, (s.bo i k).wh, (s.bo i k).cl⟩ (by exact by3_ rfl rfl rfl)).reBo 1 hi hk (by omega) (.bool b.wh) ⟨b.fa, b.wh, (s.bo i k).cl⟩ (by exact by3_ rfl rfl rfl)).reBo 2 hi hk (by omega) (.bool b.cl) b (by exact by3_ rfl rfl rfl)
theorem stB_zero {w : World} {g : Nat} {pv lv : Value} (h : BoardAt w g pv lv stZ) : BoardAt w g pv lv (stB 0 0) := h.congr (fun _ _ => rfl) (fun i k _ _ => by simp [stB, stZ])
theorem stB_next {w : World} {g : Nat} {pv lv : Value} {i k : Nat} (h : BoardAt w g pv lv ((stB i k).setBo i k ⟨false, true, true⟩)) : BoardAt w g pv lv (stB i (k + 1)) := h.congr (fun _ _ => rfl) (fun a b _ _ => by
 unfold stB St.setBo
 dsimp only
 by_cases h1 : a = i ∧ b = k
 ·rw [if_pos h1, if_pos (by omega)]
 ·rw [if_neg h1]
  by_cases h2 : a < i ∨ (a = i ∧ b < k)
  ·rw [if_pos h2, if_pos (by omega)]
  ·rw [if_neg h2, if_neg (by omega)])
theorem stB_row {w : World} {g : Nat} {pv lv : Value} {i : Nat} (h : BoardAt w g pv lv (stB i 4)) : BoardAt w g pv lv (stB (i + 1) 0) := h.congr (fun _ _ => rfl) (fun a b _ hb => by
 unfold stB
 dsimp only
 by_cases h2 : a < i ∨ (a = i ∧ b < 4)
 ·rw [if_pos h2, if_pos (by omega)]
 ·rw [if_neg h2, if_neg (by omega)])
theorem stB_all {w : World} {g : Nat} {pv lv : Value} (h : BoardAt w g pv lv (stB 64 0)) : BoardAt w g pv lv stA := h.congr (fun _ _ => rfl) (fun a b ha _ => by
 unfold stB stA
 dsimp only
 rw [if_pos (by omega)])
def turnS (p : List S37) (l : List S59) (s : St) (i : Nat) : St :=
 let s1 := if (rd_T37 p (i : Int)).f2 then s.setIt i (sagaS (rd_T37 p (i : Int)).f4.toNat (s.bo i) (s.it i)) else s.setIt i (stepS (rd_T59 l (i : Int)))
 if i = 0 then s1 else handS (rd_T37 p (i : Int)).f3 (rd_T59 l (i : Int)).f0 (s1.it i) s1 (rd_T37 p (i : Int)).f5.toNat (rd_T37 p (i : Int)).f6.toNat
def downS (p : List S37) (l : List S59) : Nat → St → St
 | 0, s => s
 | m + 1, s => downS p l m (turnS p l s m)
def haltF (p : List S37) (s : St) (i : Nat) : Fl := ⟨(s.it i).cl, (s.it i).tc, (s.it i).dn, (s.it i).sp, (s.bo (rd_T37 p (i : Int)).f5.toNat (rd_T37 p (i : Int)).f6.toNat).fa || (s.it (rd_T37 p (i : Int)).f5.toNat).ha, (s.it i).at_⟩
def haltS (p : List S37) (s : St) (i : Nat) : St := if i = 0 then s else s.setIt i (haltF p s i)
def upS (p : List S37) : Nat → Nat → St → St
 | _, 0, s => s
 | i, d + 1, s => upS p (i + 1) d (haltS p s i)
def madeS (p : List S37) (l : List S59) : St := upS p 0 p.length (downS p l p.length stA)
def ShapeP (p : List S37) : Prop := p.length ≤ 64 ∧ ∀ i : Nat, i < p.length → (0 ≤ (rd_T37 p (i : Int)).f4 ∧ (rd_T37 p (i : Int)).f4 ≤ 4) ∧ (i ≠ 0 → 0 ≤ (rd_T37 p (i : Int)).f5 ∧ (rd_T37 p (i : Int)).f5 < i ∧ 0 ≤ (rd_T37 p (i : Int)).f6 ∧ (rd_T37 p (i : Int)).f6 < 4)
def MadeB (w0 : World) (p : List S37) (Ap : Option Addr) (cp : Nat) (l : List S59) (s : St) (w' : World) (g : Nat) : Prop :=
 Below w0.heap.size w0 w' ∧ w0.heap.size ≤ g ∧ ∃ Al cl, BoardAt w' g (.slice Ap p.length cp) (.slice Al l.length cl) s ∧ Kd.C k59 w' Al l.length l
set_option maxHeartbeats 8000000 in
set_option maxRecDepth 100000 in
theorem made_board_walk (p : List S37) (Ap : Option Addr) (cp : Nat) (l : List S59) (A1 : Option Addr) (c1 : Nat) (w : World) (hr : Kd.C k37 w Ap p.length p) (hl : Kd.C k59 w A1 l.length l) (hpl : l.length = p.length) (hs : ShapeP p) :
  Calls Try.prog 29 #[.agg #[.slice Ap p.length cp], .slice A1 l.length c1] w fun e w' => ∃ g, e = .returned (.pointer (some ⟨g, 0, none⟩)) ∧ MadeB w p Ap cp l (madeS p l) w' g := by
 have HR := Aside0.mk hr
 have HL := Aside0.mk hl
 have HPL := Aside0.mk hpl
 have HS := Aside0.mk hs
 clear hr hl hpl hs
 go_enter Try.func29, Try.ntmps29
 go_wp2_with (fail)
 have HCL := Aside0.mk (fun (W : World) (hb : Below w.heap.size w W) => clone_walk A1 c1 l W (Kd.C_below HL.out hb) (by have := HPL.out; have := HS.out.1; omega))
 go_region_held2 (fun w' => w'.cell? ⟨w.heap.size, 0, none⟩ = some (.slice Ap p.length cp)) (first | (go_keep; done) | exact (blk_cell (blk_below (blk_drew (blk_new _ _)) hb2) 0).trans rfl) ((go_at_call 31; refine (HCL.out _ (below_drewN (below_alloc (Below.refl _ _) _) 1)).mono ?_; rintro e w2 ⟨v, rfl, hR2, hb2⟩; obtain ⟨A2, c2, rfl⟩ := Kd.R_slice hR2; have HR2 := Aside0.mk hR2))
 rw [zero_board]
 have HB2 := Aside0.mk ((below_drewN (below_alloc (Below.refl w.heap.size w) (.cells #[.slice Ap p.length cp] 24 (0, 0))) 1).trans (hb2.mono (by simp)))
 have HP2 : Aside0 (w2.heap[w.heap.size]? = some (.cells #[.slice Ap p.length cp] 24 (0, 0))) := ⟨blk_below (blk_drew (blk_new _ _)) hb2⟩
 have HL2 : Aside0 (Kd.C k59 w2 A2 l.length l) := ⟨(Kd.R_reads' HR2.out).2.2⟩
 have HR1 : Aside0 (Kd.C k37 w2 Ap p.length p) := ⟨Kd.C_below HR.out HB2.out⟩
 clear hR2 hb2 HCL HL HR
 obtain ⟨W, hW⟩ : ∃ W, W = w2.alloc (.cells (bCells (memOf (.slice Ap p.length cp) (.slice A2 l.length c2) stZ)) 49 (0, 0)) := ⟨_, rfl⟩
 have HBW : Aside0 (Below w2.heap.size w2 W) := ⟨by rw [hW]; exact below_alloc (Below.refl _ _) _⟩
 have HGW : Aside0 (BoardAt W w2.heap.size (.slice Ap p.length cp) (.slice A2 l.length c2) (stB 0 0)) := ⟨stB_zero (by rw [hW]; exact blk_new _ _)⟩
 rw [← hW]
 clear hW
 generalize hg : w2.heap.size = g at HGW ⊢
 go_wp2
 go_loopg [16] 64 (fun kq v16 w' => ∃ i : Nat, i + kq = 64 ∧ v16 = .int .i64 i ∧ Aside0 (Below w2.heap.size w2 w') ∧ Aside0 (BoardAt w' g (.slice Ap p.length cp) (.slice A2 l.length c2) (stB i 0)))
 case atStart => exact ⟨0, by omega, rfl, HBW, HGW⟩
 case round =>
  obtain ⟨i, hi, rfl, HB, HG⟩ := hrel
  cases gk with
  | zero =>
   obtain rfl : i = 64 := by omega
   have HG0 := Aside0.mk (stB_all HG.out)
   have HGE : Aside0 (w2.heap.size ≤ g) := ⟨by omega⟩
   clear HG HBW HGW hg hi
   have hlm : (l.length : Int) ≤ 64 := by have := HPL.out; have := HS.out.1; omega
   go_wp2
   go_loopg [8] l.length (fun kq v8 w' => ∃ s : St, v8 = .int .i64 ((kq : Int) - 1) ∧ Aside0 (kq ≤ l.length) ∧ Aside0 (Below w2.heap.size w2 w') ∧ Aside0 (BoardAt w' g (.slice Ap p.length cp) (.slice A2 l.length c2) s) ∧ Aside0 (downS p l kq s = downS p l l.length stA))
   case atStart => exact ⟨stA, rfl, ⟨Nat.le_refl _⟩, HB, HG0, ⟨rfl⟩⟩
   case round =>
    obtain ⟨s, rfl, HK, HBd, HGd, HD⟩ := hrel
    cases gk with
    | zero =>
     have HD0 : Aside0 (s = downS p l p.length stA) := ⟨by have := HD.out; rw [HPL.out] at this; exact this⟩
     clear HD HG0 HB
     have hn0 : (((0 : Nat) : Int) - 1) = -1 := by omega
     rw [hn0]
     clear hn0
     have yp : wr.cell? ⟨w.heap.size, 0, none⟩ = some (.slice Ap p.length cp) := (blk_cell (blk_below HP2.out HBd.out) 0).trans rfl
     go_wp2
     clear yp
     have hpm : (p.length : Int) ≤ 64 := by have := HS.out.1; omega
     go_loopg [59] p.length (fun kq v59 w' => ∃ (i : Nat) (s : St), i + kq = p.length ∧ v59 = .int .i64 i ∧ Aside0 (Below w2.heap.size w2 w') ∧ Aside0 (BoardAt w' g (.slice Ap p.length cp) (.slice A2 l.length c2) s) ∧ Aside0 (upS p i kq s = madeS p l))
     case atStart => exact ⟨0, s, by omega, rfl, HBd, HGd, ⟨by unfold madeS; rw [HD0.out]⟩⟩
     case round =>
      clear HGd HD0
      obtain ⟨i, s, hi, rfl, HB, HG, HU⟩ := hrel
      cases gk with
      | zero =>
       obtain rfl : i = p.length := by omega
       have HU2 : Aside0 (s = madeS p l) := ⟨HU.out⟩
       go_wp2
       go_ret
       exact ⟨g, rfl, HB2.out.trans (HB.out.mono HB2.out.size), Nat.le_trans HB2.out.size HGE.out, A2, c2, by rw [← HU2.out]; exact HG.out, Kd.C_below HL2.out HB.out⟩
      | succ d =>
       have hip : i < p.length := by omega
       have hi0 : (0 : Int) ≤ i := by omega
       have hi1 : (i : Int) < (p.length : Int) := by omega
       have hi6 : (i : Int) < 64 := by omega
       have HI := Aside0.mk hi
       have HIP := Aside0.mk hip
       have HU2 : Aside0 (upS p (i + 1) d (haltS p s i) = madeS p l) := ⟨HU.out⟩
       obtain ⟨ad, A7, c7, e0, x0, x1, x2, x3, x4, x5, x6, x7, _, _⟩ := at_T37 (Kd.C_below HR1.out HB.out) (i : Int) hi0 hi1
       subst e0
       rw [Int.toNat_natCast] at x0 x1 x2 x3 x4 x5 x6 x7
       clear hi HU
       by_cases hz : i = 0
       ·have HZ := Aside0.mk hz
        have hmz : ¬ (i : Int) > 0 := by omega
        clear hz
        go_wp2
        go_roundg d
        case measure => omega
        case rel => exact ⟨i + 1, s, by have := HI.out; omega, by go_num, ⟨below_step HB.out (below_alloc (Below.refl _ _) _)⟩, ⟨blk_alloc HG.out _⟩, ⟨by have := HU2.out; unfold haltS at this; rwa [if_pos HZ.out] at this⟩⟩
       ·obtain ⟨q1, q2, q3, q4⟩ := (HS.out.2 i hip).2 hz
        obtain ⟨j, hj⟩ := Int.eq_ofNat_of_zero_le q1
        obtain ⟨k, hk⟩ := Int.eq_ofNat_of_zero_le q3
        rw [hj] at x5
        rw [hk] at x6
        have HH : Aside0 (haltS p s i = s.setIt i ⟨(s.it i).cl, (s.it i).tc, (s.it i).dn, (s.it i).sp, (s.bo j k).fa || (s.it j).ha, (s.it i).at_⟩) := ⟨by unfold haltS haltF; rw [if_neg hz, hj, hk, Int.toNat_natCast, Int.toNat_natCast]⟩
        have hmz : (i : Int) > 0 := by omega
        have hj64 : j < 64 := by omega
        have hk4 : k < 4 := by omega
        clear hj hk q1 q2 q3 q4 hz
        go_wp2_with (fail)
        refine at_letter_ (fun W => Aside0 (Below w2.heap.size w2 W) ∧ Aside0 (BoardAt W g (.slice (some ad) p.length cp) (.slice A2 l.length c2) s) ∧ W.cell? ⟨wr.heap.size, 5, none⟩ = some (.int .i64 j) ∧ W.cell? ⟨wr.heap.size, 6, none⟩ = some (.int .i64 k))
         ⟨⟨below_step HB.out (below_alloc (Below.refl _ _) _)⟩, ⟨blk_alloc HG.out _⟩, (blk_cell (blk_new _ _) 5).trans rfl, (blk_cell (blk_new _ _) 6).trans rfl⟩ (fun W ⟨HB3, HG3, x5, x6⟩ => ?_)
        clear x0 x1 x2 x3 x4 x7 HB HG
        generalize wr.heap.size = gx at x5 x6 ⊢
        have hi64 : i < 64 := by omega
        have hj6 : (j : Int) < 64 := by omega
        have hj0 : (0 : Int) ≤ j := by omega
        have hk6 : (k : Int) < 4 := by omega
        have hk0 : (0 : Int) ≤ k := by omega
        have z0 : W.cell? ⟨g, 386 + j * 12 + k * 3, none⟩ = some (.bool (s.bo j k).fa) := HG3.out.bo j k 0 hj64 hk4 (by omega)
        have z1 : W.cell? ⟨g, 2 + j * 6 + 4, none⟩ = some (.bool (s.it j).ha) := HG3.out.it j 4 hj64 (by omega)
        have z2 := HG3.out.cell (2 + i * 6 + 4) (by omega)
        have y2 := HG3.out.free (2 + i * 6 + 4)
        obtain ⟨fa, hfa⟩ : ∃ b, (s.bo j k).fa = b := ⟨_, rfl⟩
        rw [hfa] at z0
        have HH2 : Aside0 (haltS p s i = s.setIt i ⟨(s.it i).cl, (s.it i).tc, (s.it i).dn, (s.it i).sp, fa || (s.it j).ha, (s.it i).at_⟩) := ⟨by rw [HH.out, hfa]⟩
        clear hfa HH
        cases fa
        all_goals
         go_region
         go_wp2
         go_roundg d
         case measure => omega
         case rel => first | exact ⟨i + 1, s.setIt i ⟨(s.it i).cl, (s.it i).tc, (s.it i).dn, (s.it i).sp, false || (s.it j).ha, (s.it i).at_⟩, by have := HI.out; omega, by go_num, ⟨below_drewN (HB3.out.setCell HGE.out _) 1⟩, ⟨(HG3.out.putIt i 4 hi64 (by omega) (.bool _) ⟨(s.it i).cl, (s.it i).tc, (s.it i).dn, (s.it i).sp, false || (s.it j).ha, (s.it i).at_⟩ (by exact fl6_ rfl rfl rfl rfl rfl rfl)).drew⟩, ⟨by have := HU2.out; rw [HH2.out] at this; exact this⟩⟩ | exact ⟨i + 1, s.setIt i ⟨(s.it i).cl, (s.it i).tc, (s.it i).dn, (s.it i).sp, true || (s.it j).ha, (s.it i).at_⟩, by have := HI.out; omega, by go_num, ⟨below_drewN (HB3.out.setCell HGE.out _) 1⟩, ⟨(HG3.out.putIt i 4 hi64 (by omega) (.bool _) ⟨(s.it i).cl, (s.it i).tc, (s.it i).dn, (s.it i).sp, true || (s.it j).ha, (s.it i).at_⟩ (by exact fl6_ rfl rfl rfl rfl rfl rfl)).drew⟩, ⟨by have := HU2.out; rw [HH2.out] at this; exact this⟩⟩
    | succ m =>
     have hms : m < l.length := by have := HK.out; omega
     have hmp : m < p.length := by have := HPL.out; omega
     rw [show (((m + 1 : Nat) : Int) - 1) = (m : Int) from by omega]
     have hm0 : (0 : Int) ≤ m := by omega
     have hm1 : (m : Int) < (p.length : Int) := by omega
     have hm6 : (m : Int) < 64 := by omega
     have HT : Aside0 (downS p l m (turnS p l s m) = downS p l l.length stA) := ⟨HD.out⟩
     have hsh := HS.out.2 m hmp
     obtain ⟨n, hn⟩ := Int.eq_ofNat_of_zero_le hsh.1.1
     have HN : Aside0 ((rd_T37 p (m : Int)).f4 = n ∧ n ≤ 4) := ⟨hn, by have := hsh.1.2; omega⟩
     obtain ⟨ad, A7, c7, e0, x0, x1, x2, x3, x4, x5, x6, x7, _, _⟩ := at_T37 (Kd.C_below HR1.out HBd.out) (m : Int) hm0 hm1
     subst e0
     rw [Int.toNat_natCast] at x2
     clear x0 x1 x3 x4 x5 x6 x7 hn hsh HD
     have yp : wr.cell? ⟨w.heap.size, 0, none⟩ = some (.slice (some ad) p.length cp) := (blk_cell (blk_below HP2.out HBd.out) 0).trans rfl
     obtain ⟨sub, hsub⟩ : ∃ b, (rd_T37 p (m : Int)).f2 = b := ⟨_, rfl⟩
     rw [hsub] at x2
     have HSUB := Aside0.mk hsub
     have HHM := Aside0.mk (And.intro hms hmp)
     clear hsub
     obtain ⟨s1, hs1⟩ : ∃ s1, (if sub then s.setIt m (sagaS n (s.bo m) (s.it m)) else s.setIt m (stepS (rd_T59 l (m : Int)))) = s1 := ⟨_, rfl⟩
     have HS1 := Aside0.mk hs1
     clear hs1
     by_cases hz : m = 0
     ·have hmz : ¬ (m : Int) > 0 := by omega
      have HZ := Aside0.mk hz
      clear hz
      have HT2 : Aside0 (turnS p l s m = s1) := ⟨by unfold turnS; rw [HSUB.out, HN.out.1, Int.toNat_natCast]; rw [if_pos HZ.out]; exact HS1.out⟩
      cases sub
      all_goals
       go_wp2_with (first
        | (go_at_call 36; refine (saga_walk p (some ad) cp _ s w2 _ g m n HR1.out HBd.out HGE.out HGd.out HHM.out.2 HS.out.1 HN.out.1 HN.out.2).mono ?_; rintro e w3 ⟨rfl, hb3, hG3⟩; have HB3 := Aside0.mk hb3; have HG3 := Aside0.mk hG3; clear hb3 hG3)
        | (go_at_call 37; refine (step_walk l A2 c2 _ s w2 _ g m HL2.out HBd.out HGE.out HGd.out HHM.out.1 (by have := HPL.out; have := HS.out.1; omega)).mono ?_; rintro e w3 ⟨rfl, hb3, hG3⟩; have HB3 := Aside0.mk hb3; have HG3 := Aside0.mk hG3; clear hb3 hG3))
       go_roundg m
       case measure => omega
       case rel => exact ⟨s1, by go_num, ⟨Nat.le_of_lt HHM.out.1⟩, HB3, ⟨by rw [← HS1.out]; exact HG3.out⟩, ⟨by rw [← HT2.out]; exact HT.out⟩⟩
     ·have hmpos : (0 : Int) < m := by omega
      have hsh := HS.out.2 m hmp
      obtain ⟨q1, q2, q3, q4⟩ := hsh.2 hz
      obtain ⟨j, hj⟩ := Int.eq_ofNat_of_zero_le q1
      obtain ⟨k, hk⟩ := Int.eq_ofNat_of_zero_le q3
      have HJ : Aside0 ((rd_T37 p (m : Int)).f5 = j ∧ (rd_T37 p (m : Int)).f6 = k ∧ j < 64 ∧ k < 4) := ⟨hj, hk, by omega, by omega⟩
      have HT2 : Aside0 (turnS p l s m = handS (rd_T37 p (m : Int)).f3 (rd_T59 l (m : Int)).f0 (s1.it m) s1 j k) := ⟨by unfold turnS; rw [HSUB.out, HN.out.1, Int.toNat_natCast, HJ.out.1, HJ.out.2.1, Int.toNat_natCast, Int.toNat_natCast]; rw [if_neg hz]; rw [← HS1.out]⟩
      clear hsh q1 q2 q3 q4 hj hk
      cases sub
      all_goals
       go_wp2_with (first
        | (go_at_call 36; refine (saga_walk p (some ad) cp _ s w2 _ g m n HR1.out HBd.out HGE.out HGd.out HHM.out.2 HS.out.1 HN.out.1 HN.out.2).mono ?_; rintro e w3 ⟨rfl, hb3, hG3⟩; have HB3 := Aside0.mk hb3; have HG3 : Aside0 (BoardAt w3 g (.slice (some ad) p.length cp) (.slice A2 l.length c2) s1) := ⟨by rw [← HS1.out]; exact hG3⟩; clear hb3 hG3)
        | (go_at_call 37; refine (step_walk l A2 c2 _ s w2 _ g m HL2.out HBd.out HGE.out HGd.out HHM.out.1 (by have := HPL.out; have := HS.out.1; omega)).mono ?_; rintro e w3 ⟨rfl, hb3, hG3⟩; have HB3 := Aside0.mk hb3; have HG3 : Aside0 (BoardAt w3 g (.slice (some ad) p.length cp) (.slice A2 l.length c2) s1) := ⟨by rw [← HS1.out]; exact hG3⟩; clear hb3 hG3)
        | (go_at_call 38; refine (hand_walk p (some ad) cp l A2 c2 s1 w2 _ g m j k HR1.out HL2.out HPL.out HB3.out HGE.out HG3.out HHM.out.2 HS.out.1 HJ.out.1 HJ.out.2.1 HJ.out.2.2.1 HJ.out.2.2.2).mono ?_; rintro e w4 ⟨rfl, hb4, hG4⟩; have HB4 := Aside0.mk hb4; have HG4 := Aside0.mk hG4; clear hb4 hG4))
       go_roundg m
       case measure => omega
       case rel => exact ⟨_, by go_num, ⟨Nat.le_of_lt HHM.out.1⟩, HB4, HG4, ⟨by rw [← HT2.out]; exact HT.out⟩⟩
  | succ d =>
   have h64 : (i : Int) < 64 := by omega
   have h0 : (0 : Int) ≤ i := by omega
   have HI := Aside0.mk hi
   have HGE : Aside0 (w2.heap.size ≤ g) := ⟨by omega⟩
   clear hi hg
   go_wp2
   go_loopg [19] 4 (fun kq v19 w' => ∃ k : Nat, k + kq = 4 ∧ v19 = .int .i64 k ∧ Aside0 (Below w2.heap.size w2 w') ∧ Aside0 (BoardAt w' g (.slice Ap p.length cp) (.slice A2 l.length c2) (stB i k)))
   case atStart => exact ⟨0, by omega, rfl, HB, HG⟩
   case round =>
    obtain ⟨k, hk, rfl, HBi, HGi⟩ := hrel
    cases gk with
    | zero =>
     obtain rfl : k = 4 := by omega
     go_wp2
     go_roundg d
     case measure => omega
     case rel => exact ⟨i + 1, by have := HI.out; omega, by go_num, HBi, ⟨stB_row HGi.out⟩⟩
    | succ e =>
     have hk4 : (k : Int) < 4 := by omega
     have hk0 : (0 : Int) ≤ k := by omega
     have hi6 : i < 64 := by omega
     have HK := Aside0.mk hk
     have z0 := HGi.out.cell (386 + i * 12 + k * 3) (by omega)
     have z1 := HGi.out.cell (386 + i * 12 + k * 3 + 1) (by omega)
     have z2 := HGi.out.cell (386 + i * 12 + k * 3 + 2) (by omega)
     have y0 := HGi.out.free (386 + i * 12 + k * 3)
     have y1 := HGi.out.free (386 + i * 12 + k * 3 + 1)
     have y2 := HGi.out.free (386 + i * 12 + k * 3 + 2)
     clear hk
     go_wp2
     go_roundg e
     case measure => omega
     case rel => exact ⟨k + 1, by have := HK.out; omega, by go_num, ⟨((HBi.out.setCell HGE.out _).setCell HGE.out _).setCell HGE.out _⟩, ⟨stB_next (HGi.out.putBy i k hi6 (by omega) ⟨false, true, true⟩)⟩⟩
end Go.Proofs.Ytihpndignekheaa.F
end

section
namespace Go.Proofs.Ytihpndignekheaa.F
open Go.RowKit Go.Proofs.YtihpndignekheaaW.PrintWords Go.Proofs.YtihpndignekheaaW.PrintLast Go.Proofs.YtihpndignekheaaW.PrintMore
attribute [local go_sem] max2_int min2_int max_two min_two max_three min_three max_four min_four
set_option linter.unusedVariables false
set_option linter.unusedSimpArgs false
structure BdAt (w : World) (g : Nat) (p : List S37) (Ap : Option Addr) (cp : Nat) (l : List S59) (Al : Option Addr) (cl : Nat) (s : St) : Prop where
 bd : BoardAt w g (.slice Ap p.length cp) (.slice Al l.length cl) s
 pl : Kd.C k37 w Ap p.length p
 fl : Kd.C k59 w Al l.length l
 len : l.length = p.length
 few : p.length ≤ 64
theorem BdAt.below {w w' : World} {g : Nat} {p : List S37} {Ap : Option Addr} {cp : Nat} {l : List S59} {Al : Option Addr} {cl : Nat} {s : St} (h : BdAt w g p Ap cp l Al cl s) (hb : Below w.heap.size w w') : BdAt w' g p Ap cp l Al cl s :=
 ⟨blk_below h.bd hb, Kd.C_below h.pl hb, Kd.C_below h.fl hb, h.len, h.few⟩
theorem size_none (w : World) : Calls Try.prog 25 #[.pointer none] w fun e w' => e = .returned (.int .i64 0) ∧ w' = w := by
 go_enter Try.func25, Try.ntmps25
 go_wp2
 go_ret
 exact ⟨rfl, rfl⟩
section
variable {w : World} {g : Nat} {p : List S37} {Ap : Option Addr} {cp : Nat} {l : List S59} {Al : Option Addr} {cl : Nat} {s : St}
theorem size_walk (h : BdAt w g p Ap cp l Al cl s) : Calls Try.prog 25 #[.pointer (some ⟨g, 0, none⟩)] w fun e w' => e = .returned (.int .i64 l.length) ∧ w' = w := by
 have y1 : w.cell? ⟨g, 1, none⟩ = some (.slice Al l.length cl) := h.bd.cell 1 (by omega)
 clear h
 go_enter Try.func25, Try.ntmps25
 go_wp2
 go_ret
 exact ⟨rfl, rfl⟩
def standF (f : S59) : Int := if f.f0 = 0 then 0 else if f.f0 = 1 then 1 else if f.f0 = 3 then 3 else if f.f1 = 0 then 2 else if f.f3 then 5 else 4
theorem stand_walk (f : S59) (w : World) : Calls Try.prog 34 #[.agg #[.int .i64 f.f0, .int .i64 f.f1, .int .i64 f.f2, .bool f.f3]] w fun e w' => e = .returned (.int .i64 (standF f)) ∧ Below w.heap.size w w' := by
 obtain ⟨a, b, c, d⟩ := f
 have HB := Aside0.mk (below_alloc (Below.refl w.heap.size w) (.cells #[.int .i64 a, .int .i64 b, .int .i64 c, .bool d] 59 (0, 0)))
 dsimp only
 go_enter Try.func34, Try.ntmps34
 go_wp2
 all_goals
  go_ret
  refine ⟨?_, HB.out⟩
  unfold standF
  first | rfl | (simp_all; done)
def flagsF (f : Fl) : Int := if f.tc then (if f.dn then 2 else if f.sp then 3 else if f.ha then (if f.cl then 5 else 4) else 1) else 0
def statusB (p : List S37) (l : List S59) (s : St) (i : Nat) : Int := if (rd_T37 p (i : Int)).f2 then flagsF (s.it i) else standF (rd_T59 l (i : Int))
set_option maxHeartbeats 8000000 in
set_option maxRecDepth 100000 in
theorem status_walk (h : BdAt w g p Ap cp l Al cl s) (i : Nat) (hi : i < p.length) : Calls Try.prog 26 #[.pointer (some ⟨g, 0, none⟩), .int .i64 i] w fun e w' => e = .returned (.int .i64 (statusB p l s i)) ∧ Below w.heap.size w w' := by
 have hlen := h.len
 have hfew := h.few
 have hi64 : i < 64 := by omega
 obtain ⟨ad, A7, c7, e0, x0, x1, x2, x3, x4, x5, x6, x7, _, _⟩ := at_T37 h.pl (i : Int) (by omega) (by omega)
 obtain ⟨al, e1, q0, q1, q2, q3⟩ := at_T59 h.fl (i : Int) (by omega) (by omega)
 subst e0
 subst e1
 rw [Int.toNat_natCast] at x2 q0 q1 q2 q3
 have y0 : w.cell? ⟨g, 0, none⟩ = some (.slice (some ad) p.length cp) := h.bd.cell 0 (by omega)
 have y1 : w.cell? ⟨g, 1, none⟩ = some (.slice (some al) l.length cl) := h.bd.cell 1 (by omega)
 have z0 : w.cell? ⟨g, 2 + i * 6, none⟩ = some (.bool (s.it i).cl) := h.bd.it i 0 hi64 (by omega)
 have z1 : w.cell? ⟨g, 2 + i * 6 + 1, none⟩ = some (.bool (s.it i).tc) := h.bd.it i 1 hi64 (by omega)
 have z2 : w.cell? ⟨g, 2 + i * 6 + 2, none⟩ = some (.bool (s.it i).dn) := h.bd.it i 2 hi64 (by omega)
 have z3 : w.cell? ⟨g, 2 + i * 6 + 3, none⟩ = some (.bool (s.it i).sp) := h.bd.it i 3 hi64 (by omega)
 have z4 : w.cell? ⟨g, 2 + i * 6 + 4, none⟩ = some (.bool (s.it i).ha) := h.bd.it i 4 hi64 (by omega)
 have z5 : w.cell? ⟨g, 2 + i * 6 + 5, none⟩ = some (.int .i64 (s.it i).at_) := h.bd.it i 5 hi64 (by omega)
 have h0 : (0 : Int) ≤ i := by omega
 have h1 : (i : Int) < (p.length : Int) := by omega
 have h2 : (i : Int) < (l.length : Int) := by omega
 have h6 : (i : Int) < 64 := by omega
 have HSW := Aside0.mk (fun w => stand_walk (rd_T59 l (i : Int)) w)
 unfold statusB
 obtain ⟨⟨fcl, ftc, fdn, fsp, fha, fat⟩, hf⟩ : ∃ f, s.it i = f := ⟨_, rfl⟩
 rw [hf] at z0 z1 z2 z3 z4 z5 ⊢
 obtain ⟨r, hr⟩ : ∃ r, standF (rd_T59 l (i : Int)) = r := ⟨_, rfl⟩
 rw [hr] at HSW ⊢
 obtain ⟨⟨fa, fb, fc, fd⟩, hff⟩ : ∃ f, rd_T59 l (i : Int) = f := ⟨_, rfl⟩
 rw [hff] at q0 q1 q2 q3 HSW
 obtain ⟨sub, hsub⟩ : ∃ b, (rd_T37 p (i : Int)).f2 = b := ⟨_, rfl⟩
 rw [hsub] at x2 ⊢
 clear h x0 x1 x3 x4 x5 x6 x7 hf hff hr hsub hlen hfew hi64 hi
 cases sub
 case false =>
  go_enter Try.func26, Try.ntmps26
  go_wp2_with (go_at_call 34; refine (HSW.out _).mono ?_; rintro e w2 ⟨rfl, hb⟩; have HB := Aside0.mk hb; clear hb)
  go_ret
  exact ⟨rfl, HB.out⟩
 case true =>
  have HB := Aside0.mk (below_alloc (Below.refl w.heap.size w) (.cells #[.bool fcl, .bool ftc, .bool fdn, .bool fsp, .bool fha, .int .i64 fat] 42 (0, 0)))
  cases ftc
  case' true =>
   cases fdn
   case' false =>
    cases fsp
    case' false =>
     cases fha
     case' true => cases fcl
  all_goals
   go_enter Try.func26, Try.ntmps26
   go_wp2
   go_ret
   exact ⟨rfl, HB.out⟩
end
end Go.Proofs.Ytihpndignekheaa.F
end

section
namespace Go.Proofs.Ytihpndignekheaa.F
open Go.RowKit Go.Proofs.YtihpndignekheaaW.PrintWords Go.Proofs.YtihpndignekheaaW.PrintLast Go.Proofs.YtihpndignekheaaW.PrintMore
attribute [local go_sem] max2_int min2_int max_two min_two max_three min_three max_four min_four
set_option linter.unusedVariables false
set_option linter.unusedSimpArgs false
def subB (p : List S37) (i : Int) : Bool := decide (0 ≤ i) && (decide (i < (p.length : Int)) && (rd_T37 p i).f2)
theorem sub_none (i : Int) (w : World) : Calls Try.prog 27 #[.pointer none, .int .i64 i] w fun e w' => e = .returned (.bool false) ∧ w' = w := by
 by_cases h : 0 ≤ i
 all_goals
  go_enter Try.func27, Try.ntmps27
  go_wp2_with (go_at_call 25; refine (size_none _).mono ?_; rintro e w2 ⟨rfl, rfl⟩)
  go_ret
  exact ⟨by simp; try omega, rfl⟩
section
variable {w : World} {g : Nat} {p : List S37} {Ap : Option Addr} {cp : Nat} {l : List S59} {Al : Option Addr} {cl : Nat} {s : St}
set_option maxHeartbeats 4000000 in
theorem sub_walk (h : BdAt w g p Ap cp l Al cl s) (i : Int) : Calls Try.prog 27 #[.pointer (some ⟨g, 0, none⟩), .int .i64 i] w fun e w' => e = .returned (.bool (subB p i)) ∧ w' = w := by
 have hlen : (l.length : Int) = p.length := by have := h.len; omega
 have HZ := Aside0.mk (size_walk h)
 unfold subB
 by_cases h0 : 0 ≤ i
 ·by_cases h1 : i < (p.length : Int)
  ·obtain ⟨ad, A7, c7, e0, x0, x1, x2, x3, x4, x5, x6, x7, _, _⟩ := at_T37 h.pl i h0 h1
   subst e0
   have y0 : w.cell? ⟨g, 0, none⟩ = some (.slice (some ad) p.length cp) := h.bd.cell 0 (by omega)
   have h2 : i < (l.length : Int) := by omega
   clear x0 x1 x3 x4 x5 x6 x7 h hlen
   go_enter Try.func27, Try.ntmps27
   go_wp2_with (go_at_call 25; refine HZ.out.mono ?_; rintro e w2 ⟨rfl, rfl⟩)
   go_ret
   exact ⟨by simp [h0, h1]; try (intros; omega), rfl⟩
  ·have h2 : ¬ i < (l.length : Int) := by omega
   clear h hlen
   go_enter Try.func27, Try.ntmps27
   go_wp2_with (go_at_call 25; refine HZ.out.mono ?_; rintro e w2 ⟨rfl, rfl⟩)
   go_ret
   exact ⟨by simp [h0, h1]; try (intros; omega), rfl⟩
 ·clear h hlen
  go_enter Try.func27, Try.ntmps27
  go_wp2_with (go_at_call 25; refine HZ.out.mono ?_; rintro e w2 ⟨rfl, rfl⟩)
  go_ret
  exact ⟨by simp [h0]; try (intros; omega), rfl⟩
end
theorem at_none (i : Int) (w : World) : Calls Try.prog 15 #[.pointer none, .int .i64 i] w fun e w' => e = .returned (.int .i64 0) ∧ w' = w := by
 go_enter Try.func15, Try.ntmps15
 go_wp2_with (go_at_call 25; refine (size_none _).mono ?_; rintro e w2 ⟨rfl, rfl⟩)
 go_ret
 exact ⟨rfl, rfl⟩
theorem clean_none (i : Int) (w : World) : Calls Try.prog 17 #[.pointer none, .int .i64 i] w fun e w' => e = .returned (.bool false) ∧ w' = w := by
 by_cases h : 0 ≤ i
 all_goals
  go_enter Try.func17, Try.ntmps17
  go_wp2_with (go_at_call 25; refine (size_none _).mono ?_; rintro e w2 ⟨rfl, rfl⟩)
  go_ret
  exact ⟨by simp; try omega, rfl⟩
theorem falling_none (i a : Int) (w : World) : Calls Try.prog 16 #[.pointer none, .int .i64 i, .int .i64 a] w fun e w' => e = .returned (.bool false) ∧ w' = w := by
 go_enter Try.func16, Try.ntmps16
 go_wp2_with (go_at_call 27; refine (sub_none _ _).mono ?_; rintro e w2 ⟨rfl, rfl⟩)
 go_ret
 exact ⟨rfl, rfl⟩
theorem verdict_none (w : World) : Calls Try.prog 14 #[.pointer none] w fun e w' => e = .returned (.int .i64 0) ∧ w' = w := by
 go_enter Try.func14, Try.ntmps14
 go_wp2_with (go_at_call 25; refine (size_none _).mono ?_; rintro e w2 ⟨rfl, rfl⟩)
 go_ret
 exact ⟨rfl, rfl⟩
section
variable {w : World} {g : Nat} {p : List S37} {Ap : Option Addr} {cp : Nat} {l : List S59} {Al : Option Addr} {cl : Nat} {s : St}
def atB (p : List S37) (s : St) (i : Int) : Int := if subB p i then (s.it i.toNat).at_ else -1
set_option maxHeartbeats 4000000 in
theorem at_walk (h : BdAt w g p Ap cp l Al cl s) (hp : 0 < p.length) (i : Int) : Calls Try.prog 15 #[.pointer (some ⟨g, 0, none⟩), .int .i64 i] w fun e w' => e = .returned (.int .i64 (atB p s i)) ∧ w' = w := by
 have HZ := Aside0.mk (size_walk h)
 have HS := Aside0.mk (sub_walk h i)
 have hl : ¬ (l.length : Int) = 0 := by have := h.len; omega
 unfold atB
 cases hb : subB p i with
 | false =>
  rw [hb] at HS
  clear h hb
  go_enter Try.func15, Try.ntmps15
  go_wp2_with (first
   | (go_at_call 25; refine HZ.out.mono ?_; rintro e w2 ⟨rfl, rfl⟩)
   | (go_at_call 27; refine HS.out.mono ?_; rintro e w2 ⟨rfl, rfl⟩))
  go_ret
  exact ⟨rfl, rfl⟩
 | true =>
  have hx := hb
  unfold subB at hx
  simp only [Bool.and_eq_true, decide_eq_true_eq] at hx
  obtain ⟨n, rfl⟩ := Int.eq_ofNat_of_zero_le hx.1
  have h6 : (n : Int) < 64 := by have := h.few; omega
  have z5 : w.cell? ⟨g, 2 + n * 6 + 5, none⟩ = some (.int .i64 (s.it n).at_) := h.bd.it n 5 (by omega) (by omega)
  have h0 : (0 : Int) ≤ n := by omega
  rw [hb] at HS
  clear h hb hx
  go_enter Try.func15, Try.ntmps15
  go_wp2_with (first
   | (go_at_call 25; refine HZ.out.mono ?_; rintro e w2 ⟨rfl, rfl⟩)
   | (go_at_call 27; refine HS.out.mono ?_; rintro e w2 ⟨rfl, rfl⟩))
  go_ret
  exact ⟨by simp, rfl⟩
def cleanB (p : List S37) (s : St) (i : Int) : Bool := decide (0 ≤ i) && (decide (i < (p.length : Int)) && (s.it i.toNat).cl)
set_option maxHeartbeats 4000000 in
theorem clean_walk (h : BdAt w g p Ap cp l Al cl s) (i : Int) : Calls Try.prog 17 #[.pointer (some ⟨g, 0, none⟩), .int .i64 i] w fun e w' => e = .returned (.bool (cleanB p s i)) ∧ w' = w := by
 have hlen : (l.length : Int) = p.length := by have := h.len; omega
 have HZ := Aside0.mk (size_walk h)
 unfold cleanB
 by_cases h0 : 0 ≤ i
 ·by_cases h1 : i < (p.length : Int)
  ·obtain ⟨n, rfl⟩ := Int.eq_ofNat_of_zero_le h0
   have h6 : (n : Int) < 64 := by have := h.few; omega
   have z0 : w.cell? ⟨g, 2 + n * 6, none⟩ = some (.bool (s.it n).cl) := h.bd.it n 0 (by omega) (by omega)
   have h2 : (n : Int) < (l.length : Int) := by omega
   clear h hlen
   go_enter Try.func17, Try.ntmps17
   go_wp2_with (go_at_call 25; refine HZ.out.mono ?_; rintro e w2 ⟨rfl, rfl⟩)
   go_ret
   exact ⟨by simp [h0, h1]; try (intros; omega), rfl⟩
  ·have h2 : ¬ i < (l.length : Int) := by omega
   clear h hlen
   go_enter Try.func17, Try.ntmps17
   go_wp2_with (go_at_call 25; refine HZ.out.mono ?_; rintro e w2 ⟨rfl, rfl⟩)
   go_ret
   exact ⟨by simp [h0, h1]; try (intros; omega), rfl⟩
 ·clear h hlen
  go_enter Try.func17, Try.ntmps17
  go_wp2_with (go_at_call 25; refine HZ.out.mono ?_; rintro e w2 ⟨rfl, rfl⟩)
  go_ret
  exact ⟨by simp [h0]; try (intros; omega), rfl⟩
def verdictB (p : List S37) (l : List S59) (s : St) : Int := max 1 (statusB p l s 0)
set_option maxHeartbeats 4000000 in
theorem verdict_walk (h : BdAt w g p Ap cp l Al cl s) (hp : 0 < p.length) : Calls Try.prog 14 #[.pointer (some ⟨g, 0, none⟩)] w fun e w' => e = .returned (.int .i64 (verdictB p l s)) ∧ Below w.heap.size w w' := by
 have HZ := Aside0.mk (size_walk h)
 have HS := Aside0.mk (status_walk h 0 hp)
 have hl : ¬ (l.length : Int) = 0 := by have := h.len; omega
 clear h
 unfold verdictB
 go_enter Try.func14, Try.ntmps14
 go_wp2_with (first
  | (go_at_call 25; refine HZ.out.mono ?_; rintro e w2 ⟨rfl, rfl⟩)
  | (go_at_call 26; refine HS.out.mono ?_; rintro e w2 ⟨rfl, hb⟩; have HB := Aside0.mk hb; clear hb))
 all_goals
  go_ret
  refine ⟨?_, HB.out⟩
  show Ending.returned (.int .i64 _) = Ending.returned (.int .i64 _)
  congr 2
  omega
end
end Go.Proofs.Ytihpndignekheaa.F
end

section
namespace Go.Proofs.Ytihpndignekheaa.F
open Go.RowKit Go.Proofs.YtihpndignekheaaW.PrintWords Go.Proofs.YtihpndignekheaaW.PrintLast Go.Proofs.YtihpndignekheaaW.PrintMore
attribute [local go_sem] max2_int min2_int max_two min_two max_three min_three max_four min_four
set_option linter.unusedVariables false
set_option linter.unusedSimpArgs false
theorem all_none (w : World) : Calls Try.prog 13 #[.pointer none] w fun e w' => ∃ v, e = .returned v ∧ Kd.R (Kd.int .i64) 32 w' w.heap.size (fun _ => True) v [] ∧ Below w.heap.size w w' := by
 go_enter Try.func13, Try.ntmps13
 go_wp2_with (go_at_call 25; refine (size_none _).mono ?_; rintro e w2 ⟨rfl, rfl⟩)
 go_loopg [3, 7] 0 (fun kq v3 v7 w' => v3 = .slice none 0 0 ∧ v7 = .int .i64 0 ∧ Aside0 (w' = w2))
 case atStart => exact ⟨rfl, rfl, ⟨rfl⟩⟩
 case round =>
  obtain ⟨rfl, rfl, HW⟩ := hrel
  go_wp2
  go_ret
  exact ⟨_, rfl, Kd.R_nil _ _ _ _ _, by rw [HW.out]; exact Below.refl _ _⟩
section
variable {w : World} {g : Nat} {p : List S37} {Ap : Option Addr} {cp : Nat} {l : List S59} {Al : Option Addr} {cl : Nat} {s : St}
def allB (p : List S37) (l : List S59) (s : St) : List Int := (List.range' 0 p.length).map (statusB p l s)
set_option maxHeartbeats 8000000 in
set_option maxRecDepth 100000 in
theorem all_walk (h : BdAt w g p Ap cp l Al cl s) : Calls Try.prog 13 #[.pointer (some ⟨g, 0, none⟩)] w fun e w' => ∃ v, e = .returned v ∧ Kd.R (Kd.int .i64) 32 w' w.heap.size (fun _ => True) v (allB p l s) ∧ Below w.heap.size w w' := by
 have HZ := Aside0.mk (size_walk h)
 have HH := Aside0.mk h
 have hlen := h.len
 have hfew := h.few
 have hl64 : (l.length : Int) ≤ 64 := by omega
 have HLN := Aside0.mk hlen
 clear h hfew hlen
 go_enter Try.func13, Try.ntmps13
 go_wp2_with (go_at_call 25; refine HZ.out.mono ?_; rintro e w2 ⟨rfl, rfl⟩)
 go_loopg [3, 7] l.length (fun kq v3 v7 w' => ∃ (i : Nat) (out : List Int), i + kq = l.length ∧ v7 = .int .i64 i ∧ (∃ A c, v3 = .slice A out.length c) ∧ Aside0 (out.length = i) ∧ Aside0 (out ++ (List.range' i kq).map (statusB p l s) = allB p l s) ∧ Aside0 (Kd.R (Kd.int .i64) 32 w' w2.heap.size (fun _ => True) v3 out) ∧ Aside0 (Below w2.heap.size w2 w'))
 case atStart => exact ⟨0, [], by omega, rfl, ⟨none, 0, rfl⟩, ⟨rfl⟩, ⟨by unfold allB; rw [HLN.out]; rfl⟩, ⟨Kd.R_nil _ _ _ _ _⟩, ⟨Below.refl _ _⟩⟩
 case round =>
  obtain ⟨i, out, hi, rfl, ⟨A, c, rfl⟩, HO1, HA, HO, HB⟩ := hrel
  cases gk with
  | zero =>
   obtain rfl : i = l.length := by omega
   have HA2 : Aside0 (out = allB p l s) := ⟨by have := HA.out; simpa using this⟩
   clear hi HA
   go_wp2
   go_ret
   exact ⟨_, rfl, by rw [← HA2.out]; exact HO.out, HB.out⟩
  | succ d =>
   have hlt : (i : Int) < (l.length : Int) := by omega
   have HI := Aside0.mk hi
   have HST := Aside0.mk (fun (W : World) (hb : Below w2.heap.size w2 W) => status_walk (HH.out.below hb) i (by have := HLN.out; omega))
   have HA2 : Aside0 ((out ++ [statusB p l s i]) ++ (List.range' (i + 1) d).map (statusB p l s) = allB p l s) := ⟨by have := HA.out; rw [List.range'_succ] at this; simpa using this⟩
   have HOL : Aside0 (out.length < 64) := ⟨by have := HO1.out; omega⟩
   generalize statusB p l s i = x at HST HA2
   clear hi HA
   go_wp2_with (first
    | (go_at_call 26; refine (HST.out _ HB.out).mono ?_; rintro e w3 ⟨rfl, hb⟩; have HB3 := Aside0.mk (HB.out.trans (hb.mono HB.out.size)); have HO3 := Aside0.mk (Kd.R_below HO.out hb); clear hb)
    | (((with_reducible refine gate_builtin (b := .append) (xs := #[.tmp 10, .tmp 14]) rfl ?_); (try (refine gate_guard (by rfl) ?_; dsimp only)); at_builtin; refine Kd.R_append (Kd.int .i64) (w0 := w2) w2.heap.size rfl (.tmp 10) (.tmp 14) 28 32 (.int .i64 0) 8 rfl Try.underlying28 info32 rfl (by decide) (by omega) (.slice A out.length c) out x [.int .i64 x] (fun _ => True) (fun _ => False) rfl (by simp [Act.eval]) ?aP (fun _ hk => hk.elim) ?aF ?aO ?aB ?aS ?aL ?_; (case aP => exact rfl); (case aF => exact (fun _ _ => trivial)); (case aO => exact (by (with_reducible repeat (first | apply Kd.R_alloc | apply Kd.R_drewN | apply Kd.R_drew)); exact HO3.out)); (case aB => exact HB3.out); (case aS => exact HB3.out.size); (case aL => have := HOL.out; omega); intro v4 w4 ho hb hg hat; have HO4 := Aside0.mk ho; have HB4 := Aside0.mk hb; obtain ⟨A4, c4, hv4⟩ := Kd.R_slice ho; clear ho hb hg hat)))
   subst hv4
   go_roundg d
   case measure => omega
   case rel => exact ⟨i + 1, out ++ [x], by have := HI.out; omega, by go_num, ⟨A4, c4, by simp⟩, ⟨by have := HO1.out; simp; omega⟩, HA2, ⟨by have h := HO4.out; simpa using h⟩, HB4⟩
end
end Go.Proofs.Ytihpndignekheaa.F
end

section
namespace Go.Proofs.Ytihpndignekheaa.F
open Go.RowKit Go.Proofs.YtihpndignekheaaW.PrintWords Go.Proofs.YtihpndignekheaaW.PrintLast Go.Proofs.YtihpndignekheaaW.PrintMore
def schedOk (md : Region.Mode) (ops : Array Oper) (ds : List Nat) (lEnd : Array Bool) : Array Bool → List (Nat × Bool × Option Tmp) → Bool
 | l, [] => l == lEnd
 | l, (i, true, _) :: r => takeB md ops ds l (l.setIfInBounds i true) i && schedOk md ops ds lEnd (l.setIfInBounds i true) r
 | l, (i, false, _) :: r => anyB md ops l (l.setIfInBounds i true) i && schedOk md ops ds lEnd (l.setIfInBounds i true) r
section
variable {P : Program} {md : Region.Mode} {ops : Array Oper} {Q : Exit → Act → World → Prop} {S : World → Prop} {ds : List Nat}
def WS (P : Program) (md : Region.Mode) (ops : Array Oper) (Q : Exit → Act → World → Prop) (S : World → Prop) (ds : List Nat) (fuel : Nat) (lEnd : Array Bool) (sched : List (Nat × Bool × Option Tmp)) (a : Act) (w : World) : Prop :=
 ∀ l, schedOk md ops ds lEnd l sched = true → wpAnyLast P md ops Q S ds (fuel + sched.length) l a w
end
end Go.Proofs.Ytihpndignekheaa.F
end

section
namespace Go.Proofs.Ytihpndignekheaa.F
open Go.RowKit Go.Proofs.YtihpndignekheaaW.PrintWords Go.Proofs.YtihpndignekheaaW.PrintLast Go.Proofs.YtihpndignekheaaW.PrintMore
attribute [local go_sem] max2_int min2_int max_two min_two max_three min_three max_four min_four
set_option linter.unusedVariables false
set_option linter.unusedSimpArgs false
def fineB (f : S59) : Bool := decide (0 ≤ f.f0) && decide (f.f0 ≤ 3) && decide (0 ≤ f.f2) && decide (f.f2 ≤ 3) && (decide (f.f1 = f.f2) || decide (f.f1 = f.f2 + 1)) && (!decide (f.f1 > 0) || decide (f.f0 = 2)) && (!f.f3 || decide (f.f1 > f.f2))
def zeroB (f : S59) : Bool := !((!((f.f0) == 0) || (!((f.f1) == 0) || (!((f.f2) == 0) || ((f.f3))))))
def factOk (p : List S37) (l : List S59) (j : Nat) : Bool := fineB (rd_T59 l j) && (!(rd_T37 p j).f2 || zeroB (rd_T59 l j))
def factsB (p : List S37) (l : List S59) : Bool := decide (l.length = p.length) && (rightB p && (List.range' 0 l.length).all (factOk p l))
def smallP (p : List S37) : Bool := p.all fun x => decide (x.f7.length ≤ 1000000)
theorem w64_in_ (n : Int) (h : -9223372036854775808 ≤ n ∧ n ≤ 9223372036854775807) : wrap64 n = n := by unfold wrap64; omega
theorem fine_eq (k : Nat) (f : S59) : fact_fine.f (k + 1) f.f0 f.f1 f.f2 f.f3 = some (fineB f) := by
 obtain ⟨a, b, c, d⟩ := f
 unfold fact_fine.f fineB
 dsimp only
 by_cases a1 : a < 0
 ·rw [if_pos a1]; simp [fact_fine.j0]; omega
 rw [if_neg a1]
 by_cases a2 : a > 3
 ·rw [if_pos a2]; simp [fact_fine.j0]; omega
 rw [if_neg a2]
 by_cases a3 : c < 0
 ·rw [if_pos a3]; simp [fact_fine.j0]; omega
 rw [if_neg a3]
 by_cases a4 : c > 3
 ·simp [fact_fine.j0, a4]; omega
 rw [decide_eq_false a4]
 have hw : wrap64 (c + 1) = c + 1 := w64_in_ _ (by omega)
 simp only [fact_fine.j0, hw]
 rw [decide_eq_true (by omega : 0 ≤ a), decide_eq_true (by omega : a ≤ 3), decide_eq_true (by omega : 0 ≤ c), decide_eq_true (by omega : c ≤ 3)]
 by_cases b1 : b = c
 ·subst b1
  by_cases b3 : b > 0 <;> by_cases b4 : a = 2 <;> cases d <;> simp [b3, b4]
 by_cases b2 : b = c + 1
 ·subst b2
  by_cases b3 : c + 1 > 0 <;> by_cases b4 : a = 2 <;> cases d <;> simp [b1, b3, b4] <;> omega
 simp [b1, b2]
theorem factloop_eq (p : List S37) (l : List S59) (hpl : l.length = p.length) (hl : l.length ≤ 1000000) : ∀ (m i k : Nat), i + m = l.length → fact_Check.l0 (m + 2 + k) l (l.length : Int) (i : Int) p = some (if (List.range' i m).all (factOk p l) then 0 else 2) := by
 intro m
 induction m with
 | zero =>
  intro i k h
  rw [show 0 + 2 + k = (k + 1) + 1 from by omega]
  unfold fact_Check.l0
  rw [if_neg (by omega)]
  rfl
 | succ m ih =>
  intro i k h
  rw [show m + 1 + 2 + k = (m + 2 + k) + 1 from by omega]
  unfold fact_Check.l0
  rw [if_pos (by omega), if_pos (by omega), if_pos (by omega), show m + 2 + k = (m + 1 + k) + 1 from by omega, fine_eq, show (m + 1 + k) + 1 = m + 2 + k from by omega]
  have hw : wrap64 ((i : Int) + 1) = ((i + 1 : Nat) : Int) := by rw [w64_in_ _ (by omega)]; omega
  rw [hw, ih (i + 1) k (by omega), List.range'_succ, List.all_cons]
  simp only [Option.bind_some, factOk, zeroB]
  rw [if_pos (by omega : (i : Int) < (p.length : Int))]
  by_cases h1 : fineB (rd_T59 l i) = true <;> by_cases h2 : (rd_T37 p i).f2 = true <;> (try simp only [Bool.not_eq_true] at h1) <;> (try simp only [Bool.not_eq_true] at h2) <;> simp only [h1, h2] <;> generalize ((rd_T59 l i).f0 == 0) = y1 <;> generalize ((rd_T59 l i).f1 == 0) = y2 <;> generalize ((rd_T59 l i).f2 == 0) = y3 <;> generalize (rd_T59 l i).f3 = y4 <;> cases y1 <;> cases y2 <;> cases y3 <;> cases y4 <;> first | rfl | (simp; done)
theorem fact_check_at (p : List S37) (l : List S59) (hp : smallP p = true) (hl : l.length ≤ 1000000) : fact_Check.f (l.length + 2 + 1) p l = some (if factsB p l then 0 else 2) := by
 unfold fact_Check.f factsB plan_Right.f
 by_cases h : l.length = p.length
 ·rw [if_pos (by omega), if_pos (by exact hp), Option.bind_some, decide_eq_true h]
  cases rightB p
  ·simp [fact_Check.j0]
  ·simp only [fact_Check.j0, Bool.not_true, Bool.false_eq_true, if_false, Bool.true_and]
   have := factloop_eq p l h hl l.length 0 0 (by omega)
   exact this
 ·rw [if_neg (by omega), decide_eq_false h]
  simp [fact_Check.j0]
end Go.Proofs.Ytihpndignekheaa.F
end

section
namespace Go.Proofs.Ytihpndignekheaa.F
open Go.RowKit Go.Proofs.YtihpndignekheaaW.PrintWords Go.Proofs.YtihpndignekheaaW.PrintLast Go.Proofs.YtihpndignekheaaW.PrintMore
attribute [local go_sem] max2_int min2_int max_two min_two max_three min_three max_four min_four
set_option linter.unusedVariables false
set_option linter.unusedSimpArgs false
theorem itemB_shape {p : List S37} {i : Nat} {x : S37} (h : itemB p i x = true) : (0 ≤ x.f4 ∧ x.f4 ≤ 4) ∧ (i ≠ 0 → 0 ≤ x.f5 ∧ x.f5 < i ∧ 0 ≤ x.f6 ∧ x.f6 < (rd_T37 p x.f5).f4) ∧ (i = 0 → x.f5 = -1) := by
 unfold itemB at h
 by_cases c1 : x.f4 < 0
 ·rw [if_pos c1] at h; cases h
 rw [if_neg c1] at h
 by_cases c2 : 4 < x.f4
 ·rw [if_pos c2] at h; cases h
 rw [if_neg c2] at h
 by_cases c3 : x.f7.any (strayB p.length) = true
 ·rw [if_pos c3] at h; cases h
 rw [if_neg c3] at h
 refine ⟨by omega, ?_, ?_⟩
 ·intro hz
  rw [if_neg hz] at h
  by_cases c4 : x.f5 < 0
  ·rw [if_pos c4] at h; cases h
  rw [if_neg c4] at h
  by_cases c5 : (i : Int) ≤ x.f5
  ·rw [if_pos c5] at h; cases h
  rw [if_neg c5] at h
  by_cases c6 : x.f6 < 0
  ·rw [if_pos c6] at h; cases h
  rw [if_neg c6] at h
  have := of_decide_eq_true h
  omega
 ·intro hz
  rw [if_pos hz] at h
  exact of_decide_eq_true h
theorem shapedL_of_ {p : List S37} : ∀ (q : List S37) (i : Nat), shapedL p i q = true → ∀ k (hk : k < q.length), itemB p (i + k) q[k] = true
 | [], _, _, k, hk => by simp at hk
 | x :: q, i, h, k, hk => by
  unfold shapedL at h
  rw [Bool.and_eq_true] at h
  cases k with
  | zero => exact h.1
  | succ k =>
   have := shapedL_of_ q (i + 1) h.2 k (by simpa using hk)
   rw [show i + 1 + k = i + (k + 1) from by omega] at this
   simpa using this
theorem rd_at {p : List S37} {i : Nat} (h : i < p.length) : rd_T37 p (i : Int) = p[i] := by
 unfold rd_T37
 rw [Int.toNat_natCast, List.getD_eq_getElem?_getD, List.getElem?_eq_getElem h]
 rfl
theorem shape_item {p : List S37} (h : shapedB p = true) {i : Nat} (hi : i < p.length) : itemB p i (rd_T37 p (i : Int)) = true := by
 unfold shapedB at h
 simp only [Bool.and_eq_true] at h
 have := shapedL_of_ p 0 h.1 i hi
 rw [Nat.zero_add] at this
 rw [rd_at hi]
 exact this
theorem shape_few {p : List S37} (h : shapedB p = true) : 0 < p.length ∧ p.length ≤ 64 := by
 unfold shapedB at h
 simp only [Bool.and_eq_true, decide_eq_true_eq] at h
 exact h.2
theorem shape_of {p : List S37} (h : shapedB p = true) : ShapeP p := by
 refine ⟨(shape_few h).2, fun i hi => ?_⟩
 obtain ⟨h1, h2, -⟩ := itemB_shape (shape_item h hi)
 refine ⟨h1, fun hz => ?_⟩
 obtain ⟨q1, q2, q3, q4⟩ := h2 hz
 refine ⟨q1, q2, q3, ?_⟩
 obtain ⟨j, hj⟩ := Int.eq_ofNat_of_zero_le q1
 have hjl : j < p.length := by omega
 have := (itemB_shape (shape_item h hjl)).1
 rw [hj] at q4
 omega
theorem facts_shape {p : List S37} {l : List S59} (h : factsB p l = true) : l.length = p.length ∧ shapedB p = true := by
 unfold factsB at h
 simp only [Bool.and_eq_true, decide_eq_true_eq] at h
 have h2 := h.2.1
 unfold rightB at h2
 rw [Bool.and_eq_true] at h2
 exact ⟨h.1, h2.1⟩
def SeeP (p : List S37) (Ap : Option Addr) (cp : Nat) (l : List S59) (w : World) (r : Option Nat) (w' : World) : Prop :=
 Below w.heap.size w w' ∧ match r with | some g => factsB p l = true ∧ ∃ Al cl, BdAt w' g p Ap cp l Al cl (madeS p l) | none => factsB p l = false
def ptrV : Option Nat → Value
 | none => .pointer none
 | some g => .pointer (some ⟨g, 0, none⟩)
set_option maxHeartbeats 8000000 in
set_option maxRecDepth 100000 in
theorem see_walk (p : List S37) (Ap : Option Addr) (cp : Nat) (l : List S59) (Al : Option Addr) (cl : Nat) (w : World) (hp : Kd.C k37 w Ap p.length p) (hcp : p.length ≤ cp) (hl : Kd.C k59 w Al l.length l) (hcl : l.length ≤ cl) (hsm : smallP p = true) (hl6 : l.length ≤ 1000000) :
  Calls Try.prog 18 #[.agg #[.slice Ap p.length cp], .slice Al l.length cl] w fun e w' => ∃ r, e = .returned (.tuple #[ptrV r, .int .i64 (if factsB p l then 0 else 2)]) ∧ SeeP p Ap cp l w r w' := by
 have HP := Aside0.mk hp
 have HL := Aside0.mk hl
 have HGA := Aside0.mk (blk_new w (.cells #[.slice Ap p.length cp] 24 (0, 0)))
 have HB0 := Aside0.mk (below_alloc (Below.refl w.heap.size w) (.cells #[.slice Ap p.length cp] 24 (0, 0)))
 have HCK := Aside0.mk (fun (W : World) (hb : Below w.heap.size w W) => fact_Check.calls _ Ap cp p Al cl l _ W (Kd.C_below hp hb) hcp (Kd.C_below hl hb) hcl (fact_check_at p l hsm hl6))
 obtain ⟨v, hv⟩ : ∃ v, factsB p l = v := ⟨_, rfl⟩
 have HV := Aside0.mk hv
 rw [hv] at HCK ⊢
 clear hp hcp hl hcl hsm hl6 hv
 cases v with
 | false =>
  go_enter Try.func18, Try.ntmps18
  go_wp2_with (go_at_call 28; refine (HCK.out _ HB0.out).mono ?_; rintro e w2 ⟨rfl, hb⟩; have HB2 := Aside0.mk (HB0.out.trans (hb.mono HB0.out.size)); clear hb)
  go_ret2
  exact ⟨none, rfl, HB2.out, HV.out⟩
 | true =>
  have HSH := Aside0.mk (facts_shape HV.out)
  have HMD := Aside0.mk (fun (W : World) (hb : Below w.heap.size w W) => made_board_walk p Ap cp l Al cl W (Kd.C_below HP.out hb) (Kd.C_below HL.out hb) HSH.out.1 (shape_of HSH.out.2))
  go_enter Try.func18, Try.ntmps18
  go_wp2_with (first
   | (go_at_call 28; refine (HCK.out _ HB0.out).mono ?_; rintro e w2 ⟨rfl, hb⟩; have HB2 := Aside0.mk (HB0.out.trans (hb.mono HB0.out.size)); have HG2 := Aside0.mk (blk_below HGA.out hb); clear hb; have x0 : w2.cell? ⟨w.heap.size, 0, none⟩ = some (.slice Ap p.length cp) := (blk_cell HG2.out 0).trans rfl)
   | (go_at_call 29; refine (HMD.out _ HB2.out).mono ?_; rintro e w3 ⟨g, rfl, hm⟩; have HM := Aside0.mk hm; clear hm))
  go_ret2
  obtain ⟨q1, q2, A3, c3, q3, q4⟩ := HM.out
  have hb3 := HB2.out.trans (q1.mono HB2.out.size)
  exact ⟨some g, rfl, hb3, HV.out, A3, c3, q3, Kd.C_below HP.out hb3, q4, HSH.out.1, (shape_few HSH.out.2).2⟩
set_option maxHeartbeats 8000000 in
set_option maxRecDepth 100000 in
theorem asked_walk (p : List S37) (Ap : Option Addr) (cp : Nat) (l : List S59) (Al : Option Addr) (cl : Nat) (w : World) (hp : Kd.C k37 w Ap p.length p) (hcp : p.length ≤ cp) (hl : Kd.C k59 w Al l.length l) (hcl : l.length ≤ cl) (hsm : smallP p = true) (hl6 : l.length ≤ 1000000) :
  Calls Try.prog 24 #[.agg #[.slice Ap p.length cp], .slice Al l.length cl] w fun e w' => ∃ r, e = .returned (ptrV r) ∧ SeeP p Ap cp l w r w' := by
 have HB0 := Aside0.mk (below_alloc (Below.refl w.heap.size w) (.cells #[.slice Ap p.length cp] 24 (0, 0)))
 have HSW := Aside0.mk (fun (W : World) (hb : Below w.heap.size w W) => see_walk p Ap cp l Al cl W (Kd.C_below hp hb) hcp (Kd.C_below hl hb) hcl hsm hl6)
 clear hp hcp hl hcl hsm hl6
 go_enter Try.func24, Try.ntmps24
 go_wp2_with (go_at_call 18; refine (HSW.out _ HB0.out).mono ?_; rintro e w2 ⟨r, rfl, hm⟩; have HM := Aside0.mk hm; clear hm)
 all_goals
  go_ret
  exact ⟨r, rfl, HB0.out.trans (HM.out.1.mono HB0.out.size), HM.out.2⟩
def okArgs (p : List S37) (l : List S59) : Bool := smallP p && decide (l.length ≤ 1000000)
def state_All.f (l0_0 : List S37) (l1 : List S59) : Option (List Int × Int) := if okArgs l0_0 l1 then some (if factsB l0_0 l1 then (allB l0_0 l1 (madeS l0_0 l1), 0) else ([], 2)) else none
def state_Verdict.f (l0_0 : List S37) (l1 : List S59) : Option Int := if okArgs l0_0 l1 then some (if factsB l0_0 l1 then verdictB l0_0 l1 (madeS l0_0 l1) else 0) else none
def state_At.f (l0_0 : List S37) (l1 : List S59) (a2 : Int) : Option Int := if okArgs l0_0 l1 then some (if factsB l0_0 l1 then atB l0_0 (madeS l0_0 l1) a2 else 0) else none
def fallB (p : List S37) (s : St) (i a : Int) : Bool := subB p i && (decide (0 ≤ a) && (decide (a < (rd_T37 p i).f4) && ((s.bo i.toNat a.toNat).fa || (s.it i.toNat).ha)))
def state_Falling.f (l0_0 : List S37) (l1 : List S59) (a2 a3 : Int) : Option Bool := if okArgs l0_0 l1 then some (if factsB l0_0 l1 then fallB l0_0 (madeS l0_0 l1) a2 a3 else false) else none
def state_Clean.f (l0_0 : List S37) (l1 : List S59) (a2 : Int) : Option Bool := if okArgs l0_0 l1 then some (if factsB l0_0 l1 then cleanB l0_0 (madeS l0_0 l1) a2 else false) else none
set_option maxHeartbeats 8000000 in
theorem falling_walk {w : World} {g : Nat} {p : List S37} {Ap : Option Addr} {cp : Nat} {l : List S59} {Al : Option Addr} {cl : Nat} {s : St} (h : BdAt w g p Ap cp l Al cl s) (hs : ShapeP p) (i a : Int) : Calls Try.prog 16 #[.pointer (some ⟨g, 0, none⟩), .int .i64 i, .int .i64 a] w fun e w' => e = .returned (.bool (fallB p s i a)) ∧ w' = w := by
 have HS := Aside0.mk (sub_walk h i)
 unfold fallB
 cases hb : subB p i with
 | false =>
  rw [hb] at HS
  clear h hb hs
  go_enter Try.func16, Try.ntmps16
  go_wp2_with (go_at_call 27; refine HS.out.mono ?_; rintro e w2 ⟨rfl, rfl⟩)
  go_ret
  exact ⟨rfl, rfl⟩
 | true =>
  have hx := hb
  unfold subB at hx
  simp only [Bool.and_eq_true, decide_eq_true_eq] at hx
  obtain ⟨n, rfl⟩ := Int.eq_ofNat_of_zero_le hx.1
  have hn : n < p.length := by omega
  have h6 : (n : Int) < 64 := by have := h.few; omega
  have h0 : (0 : Int) ≤ n := by omega
  have h1 : (n : Int) < (p.length : Int) := by omega
  have h4 := (hs.2 n hn).1
  obtain ⟨ad, A7, c7, e0, x0, x1, x2, x3, x4, x5, x6, x7, _, _⟩ := at_T37 h.pl (n : Int) h0 h1
  subst e0
  have y0 : w.cell? ⟨g, 0, none⟩ = some (.slice (some ad) p.length cp) := h.bd.cell 0 (by omega)
  rw [hb] at HS
  obtain ⟨m, hm⟩ : ∃ m, (rd_T37 p (n : Int)).f4 = m := ⟨_, rfl⟩
  rw [hm] at x4 h4 ⊢
  rw [Int.toNat_natCast] at x4
  clear x0 x1 x2 x3 x5 x6 x7 hb hx hm
  by_cases c1 : a < 0
  ·have hd : decide (0 ≤ a) = false := decide_eq_false (by omega)
   clear h
   go_enter Try.func16, Try.ntmps16
   go_wp2_with (go_at_call 27; refine HS.out.mono ?_; rintro e w2 ⟨rfl, rfl⟩)
   go_ret
   exact ⟨by rw [hd]; rfl, rfl⟩
  ·obtain ⟨k, rfl⟩ := Int.eq_ofNat_of_zero_le (Int.not_lt.1 c1)
   have hd : decide ((0 : Int) ≤ k) = true := decide_eq_true (by omega)
   by_cases c2 : (k : Int) ≥ m
   ·have hd2 : decide ((k : Int) < m) = false := decide_eq_false (by omega)
    clear h
    go_enter Try.func16, Try.ntmps16
    go_wp2_with (go_at_call 27; refine HS.out.mono ?_; rintro e w2 ⟨rfl, rfl⟩)
    go_ret
    exact ⟨by rw [hd, hd2]; rfl, rfl⟩
   ·have hd2 : decide ((k : Int) < m) = true := decide_eq_true (by omega)
    have k4 : (k : Int) < 4 := by omega
    have k0 : (0 : Int) ≤ k := by omega
    have z0 : w.cell? ⟨g, 386 + n * 12 + k * 3, none⟩ = some (.bool (s.bo n k).fa) := h.bd.bo n k 0 (by omega) (by omega) (by omega)
    have z1 : w.cell? ⟨g, 2 + n * 6 + 4, none⟩ = some (.bool (s.it n).ha) := h.bd.it n 4 (by omega) (by omega)
    rw [hd, hd2, Int.toNat_natCast, Int.toNat_natCast]
    clear h hd hd2
    obtain ⟨fa, hfa⟩ : ∃ b, (s.bo n k).fa = b := ⟨_, rfl⟩
    rw [hfa] at z0 ⊢
    clear hfa
    cases fa
    all_goals
     go_enter Try.func16, Try.ntmps16
     go_wp2_with (go_at_call 27; refine HS.out.mono ?_; rintro e w2 ⟨rfl, rfl⟩)
     go_ret
     exact ⟨rfl, rfl⟩
theorem SeeP.has {p : List S37} {Ap : Option Addr} {cp : Nat} {l : List S59} {w w' : World} {g : Nat} (h : SeeP p Ap cp l w (some g) w') : factsB p l = true ∧ 0 < p.length ∧ shapedB p = true ∧ ∃ Al cl, BdAt w' g p Ap cp l Al cl (madeS p l) := by
 obtain ⟨h1, h2, h3⟩ := h
 exact ⟨h2, (shape_few (facts_shape h2).2).1, (facts_shape h2).2, h3⟩
theorem SeeP.hasnt {p : List S37} {Ap : Option Addr} {cp : Nat} {l : List S59} {w w' : World} (h : SeeP p Ap cp l w none w') : factsB p l = false := h.2
section
variable {p : List S37} {Ap : Option Addr} {cp : Nat} {l : List S59} {w w' : World} {r : Option Nat}
theorem verdict_ptr (h : SeeP p Ap cp l w r w') : Calls Try.prog 14 #[ptrV r] w' fun e w2 => e = .returned (.int .i64 (if factsB p l then verdictB p l (madeS p l) else 0)) ∧ Below w'.heap.size w' w2 := by
 cases r with
 | none => rw [h.hasnt]; refine (verdict_none w').mono ?_; rintro e w2 ⟨rfl, rfl⟩; exact ⟨rfl, Below.refl _ _⟩
 | some g => obtain ⟨h1, h2, h3, Al, cl, h4⟩ := h.has; rw [h1]; exact verdict_walk h4 h2
theorem at_ptr (h : SeeP p Ap cp l w r w') (i : Int) : Calls Try.prog 15 #[ptrV r, .int .i64 i] w' fun e w2 => e = .returned (.int .i64 (if factsB p l then atB p (madeS p l) i else 0)) ∧ Below w'.heap.size w' w2 := by
 cases r with
 | none => rw [h.hasnt]; refine (at_none i w').mono ?_; rintro e w2 ⟨rfl, rfl⟩; exact ⟨rfl, Below.refl _ _⟩
 | some g => obtain ⟨h1, h2, h3, Al, cl, h4⟩ := h.has; rw [h1]; refine (at_walk h4 h2 i).mono ?_; rintro e w2 ⟨rfl, rfl⟩; exact ⟨rfl, Below.refl _ _⟩
theorem clean_ptr (h : SeeP p Ap cp l w r w') (i : Int) : Calls Try.prog 17 #[ptrV r, .int .i64 i] w' fun e w2 => e = .returned (.bool (if factsB p l then cleanB p (madeS p l) i else false)) ∧ Below w'.heap.size w' w2 := by
 cases r with
 | none => rw [h.hasnt]; refine (clean_none i w').mono ?_; rintro e w2 ⟨rfl, rfl⟩; exact ⟨rfl, Below.refl _ _⟩
 | some g => obtain ⟨h1, h2, h3, Al, cl, h4⟩ := h.has; rw [h1]; refine (clean_walk h4 i).mono ?_; rintro e w2 ⟨rfl, rfl⟩; exact ⟨rfl, Below.refl _ _⟩
theorem all_ptr (h : SeeP p Ap cp l w r w') : Calls Try.prog 13 #[ptrV r] w' fun e w2 => ∃ v, e = .returned v ∧ Kd.R (Kd.int .i64) 32 w2 w'.heap.size (fun _ => True) v (if factsB p l then allB p l (madeS p l) else []) ∧ Below w'.heap.size w' w2 := by
 cases r with
 | none => rw [h.hasnt]; exact all_none w'
 | some g => obtain ⟨h1, h2, h3, Al, cl, h4⟩ := h.has; rw [h1]; exact all_walk h4
theorem falling_ptr (h : SeeP p Ap cp l w r w') (i a : Int) : Calls Try.prog 16 #[ptrV r, .int .i64 i, .int .i64 a] w' fun e w2 => e = .returned (.bool (if factsB p l then fallB p (madeS p l) i a else false)) ∧ Below w'.heap.size w' w2 := by
 cases r with
 | none => rw [h.hasnt]; refine (falling_none i a w').mono ?_; rintro e w2 ⟨rfl, rfl⟩; exact ⟨rfl, Below.refl _ _⟩
 | some g => obtain ⟨h1, h2, h3, Al, cl, h4⟩ := h.has; rw [h1]; refine (falling_walk h4 (shape_of h3) i a).mono ?_; rintro e w2 ⟨rfl, rfl⟩; exact ⟨rfl, Below.refl _ _⟩
end
section
variable (A0_0 : Option Addr) (c0_0 : Nat) (l0_0 : List S37) (A1 : Option Addr) (c1 : Nat) (l1 : List S59)
theorem state_All.calls (r1 : List Int) (r2 : Int) (w : World) (hr0_0 : Kd.C k37 w A0_0 l0_0.length l0_0) (hc0_0 : l0_0.length ≤ c0_0) (hr1 : Kd.C k59 w A1 l1.length l1) (hc1 : l1.length ≤ c1) (h : state_All.f l0_0 l1 = some (r1, r2)) :
  Calls Try.prog 9 #[.agg #[.slice A0_0 l0_0.length c0_0], .slice A1 l1.length c1] w fun e w' => ∃ v0_ : Value, e = .returned (.tuple #[v0_, .int .i64 r2]) ∧ Kd.R (Kd.int .i64) 32 w' w.heap.size (fun _ => True) v0_ r1 ∧ Below w.heap.size w w' := by
 unfold state_All.f at h
 by_cases hok : okArgs l0_0 l1 = true
 ·rw [if_pos hok] at h
  unfold okArgs at hok
  rw [Bool.and_eq_true, decide_eq_true_eq] at hok
  have HB0 := Aside0.mk (below_alloc (Below.refl w.heap.size w) (.cells #[.slice A0_0 l0_0.length c0_0] 24 (0, 0)))
  have HAS := Aside0.mk (fun (W : World) (hb : Below w.heap.size w W) => see_walk l0_0 A0_0 c0_0 l1 A1 c1 W (Kd.C_below hr0_0 hb) hc0_0 (Kd.C_below hr1 hb) hc1 hok.1 hok.2)
  have h3 := Option.some.inj h
  have H1 : Aside0 ((if factsB l0_0 l1 = true then allB l0_0 l1 (madeS l0_0 l1) else []) = r1) := ⟨(by split <;> rfl : (if factsB l0_0 l1 = true then allB l0_0 l1 (madeS l0_0 l1) else []) = (if factsB l0_0 l1 = true then (allB l0_0 l1 (madeS l0_0 l1), (0 : Int)) else ([], 2)).1).trans (congrArg Prod.fst h3)⟩
  have H2 : Aside0 ((if factsB l0_0 l1 = true then (0 : Int) else 2) = r2) := ⟨(by split <;> rfl : (if factsB l0_0 l1 = true then (0 : Int) else 2) = (if factsB l0_0 l1 = true then (allB l0_0 l1 (madeS l0_0 l1), (0 : Int)) else ([], 2)).2).trans (congrArg Prod.snd h3)⟩
  clear h3
  clear hr0_0 hc0_0 hr1 hc1 hok h
  go_enter Try.func9, Try.ntmps9
  go_wp2_with (first
   | (go_at_call 18; refine (HAS.out _ HB0.out).mono ?_; rw [H2.out]; rintro e w2 ⟨q, rfl, hm⟩; have HM := Aside0.mk hm; clear hm)
   | (go_at_call 13; refine (all_ptr HM.out).mono ?_; rw [H1.out]; rintro e w3 ⟨v, rfl, hR, hb⟩; have HR := Aside0.mk hR; have HB3 := Aside0.mk (HB0.out.trans ((HM.out.1.trans (hb.mono HM.out.1.size)).mono HB0.out.size)); clear hb))
  go_ret2
  exact ⟨v, rfl, Kd.R_lower HR.out (Nat.le_trans HB0.out.size HM.out.1.size), HB3.out⟩
 ·rw [if_neg hok] at h
  cases h
theorem state_Verdict.calls (r : Int) (w : World) (hr0_0 : Kd.C k37 w A0_0 l0_0.length l0_0) (hc0_0 : l0_0.length ≤ c0_0) (hr1 : Kd.C k59 w A1 l1.length l1) (hc1 : l1.length ≤ c1) (h : state_Verdict.f l0_0 l1 = some r) :
  Calls Try.prog 10 #[.agg #[.slice A0_0 l0_0.length c0_0], .slice A1 l1.length c1] w fun e w' => e = .returned (.int .i64 r) ∧ Below w.heap.size w w' := by
 unfold state_Verdict.f at h
 by_cases hok : okArgs l0_0 l1 = true
 ·rw [if_pos hok] at h
  unfold okArgs at hok
  rw [Bool.and_eq_true, decide_eq_true_eq] at hok
  have HB0 := Aside0.mk (below_alloc (Below.refl w.heap.size w) (.cells #[.slice A0_0 l0_0.length c0_0] 24 (0, 0)))
  have HAS := Aside0.mk (fun (W : World) (hb : Below w.heap.size w W) => asked_walk l0_0 A0_0 c0_0 l1 A1 c1 W (Kd.C_below hr0_0 hb) hc0_0 (Kd.C_below hr1 hb) hc1 hok.1 hok.2)
  have HRR := Aside0.mk (Option.some.inj h)
  clear hr0_0 hc0_0 hr1 hc1 hok h
  go_enter Try.func10, Try.ntmps10
  go_wp2_with (first
   | (go_at_call 24; refine (HAS.out _ HB0.out).mono ?_; rintro e w2 ⟨q, rfl, hm⟩; have HM := Aside0.mk hm; clear hm)
   | (go_at_call 14; refine (verdict_ptr HM.out).mono ?_; rw [HRR.out]; rintro e w3 ⟨rfl, hb⟩; have HB3 := Aside0.mk (HB0.out.trans ((HM.out.1.trans (hb.mono HM.out.1.size)).mono HB0.out.size)); clear hb))
  go_ret
  exact ⟨rfl, HB3.out⟩
 ·rw [if_neg hok] at h
  cases h
theorem state_At.calls (a2 : Int) (r : Int) (w : World) (hr0_0 : Kd.C k37 w A0_0 l0_0.length l0_0) (hc0_0 : l0_0.length ≤ c0_0) (hr1 : Kd.C k59 w A1 l1.length l1) (hc1 : l1.length ≤ c1) (h : state_At.f l0_0 l1 a2 = some r) :
  Calls Try.prog 12 #[.agg #[.slice A0_0 l0_0.length c0_0], .slice A1 l1.length c1, .int .i64 a2] w fun e w' => e = .returned (.int .i64 r) ∧ Below w.heap.size w w' := by
 unfold state_At.f at h
 by_cases hok : okArgs l0_0 l1 = true
 ·rw [if_pos hok] at h
  unfold okArgs at hok
  rw [Bool.and_eq_true, decide_eq_true_eq] at hok
  have HB0 := Aside0.mk (below_alloc (Below.refl w.heap.size w) (.cells #[.slice A0_0 l0_0.length c0_0] 24 (0, 0)))
  have HAS := Aside0.mk (fun (W : World) (hb : Below w.heap.size w W) => asked_walk l0_0 A0_0 c0_0 l1 A1 c1 W (Kd.C_below hr0_0 hb) hc0_0 (Kd.C_below hr1 hb) hc1 hok.1 hok.2)
  have HRR := Aside0.mk (Option.some.inj h)
  clear hr0_0 hc0_0 hr1 hc1 hok h
  go_enter Try.func12, Try.ntmps12
  go_wp2_with (first
   | (go_at_call 24; refine (HAS.out _ HB0.out).mono ?_; rintro e w2 ⟨q, rfl, hm⟩; have HM := Aside0.mk hm; clear hm)
   | (go_at_call 15; refine (at_ptr HM.out a2).mono ?_; rw [HRR.out]; rintro e w3 ⟨rfl, hb⟩; have HB3 := Aside0.mk (HB0.out.trans ((HM.out.1.trans (hb.mono HM.out.1.size)).mono HB0.out.size)); clear hb))
  go_ret
  exact ⟨rfl, HB3.out⟩
 ·rw [if_neg hok] at h
  cases h
theorem state_Falling.calls (a2 a3 : Int) (r : Bool) (w : World) (hr0_0 : Kd.C k37 w A0_0 l0_0.length l0_0) (hc0_0 : l0_0.length ≤ c0_0) (hr1 : Kd.C k59 w A1 l1.length l1) (hc1 : l1.length ≤ c1) (h : state_Falling.f l0_0 l1 a2 a3 = some r) :
  Calls Try.prog 20 #[.agg #[.slice A0_0 l0_0.length c0_0], .slice A1 l1.length c1, .int .i64 a2, .int .i64 a3] w fun e w' => e = .returned (.bool r) ∧ Below w.heap.size w w' := by
 unfold state_Falling.f at h
 by_cases hok : okArgs l0_0 l1 = true
 ·rw [if_pos hok] at h
  unfold okArgs at hok
  rw [Bool.and_eq_true, decide_eq_true_eq] at hok
  have HB0 := Aside0.mk (below_alloc (Below.refl w.heap.size w) (.cells #[.slice A0_0 l0_0.length c0_0] 24 (0, 0)))
  have HAS := Aside0.mk (fun (W : World) (hb : Below w.heap.size w W) => asked_walk l0_0 A0_0 c0_0 l1 A1 c1 W (Kd.C_below hr0_0 hb) hc0_0 (Kd.C_below hr1 hb) hc1 hok.1 hok.2)
  have HRR := Aside0.mk (Option.some.inj h)
  clear hr0_0 hc0_0 hr1 hc1 hok h
  go_enter Try.func20, Try.ntmps20
  go_wp2_with (first
   | (go_at_call 24; refine (HAS.out _ HB0.out).mono ?_; rintro e w2 ⟨q, rfl, hm⟩; have HM := Aside0.mk hm; clear hm)
   | (go_at_call 16; refine (falling_ptr HM.out a2 a3).mono ?_; rw [HRR.out]; rintro e w3 ⟨rfl, hb⟩; have HB3 := Aside0.mk (HB0.out.trans ((HM.out.1.trans (hb.mono HM.out.1.size)).mono HB0.out.size)); clear hb))
  go_ret
  exact ⟨rfl, HB3.out⟩
 ·rw [if_neg hok] at h
  cases h
theorem state_Clean.calls (a2 : Int) (r : Bool) (w : World) (hr0_0 : Kd.C k37 w A0_0 l0_0.length l0_0) (hc0_0 : l0_0.length ≤ c0_0) (hr1 : Kd.C k59 w A1 l1.length l1) (hc1 : l1.length ≤ c1) (h : state_Clean.f l0_0 l1 a2 = some r) :
  Calls Try.prog 11 #[.agg #[.slice A0_0 l0_0.length c0_0], .slice A1 l1.length c1, .int .i64 a2] w fun e w' => e = .returned (.bool r) ∧ Below w.heap.size w w' := by
 unfold state_Clean.f at h
 by_cases hok : okArgs l0_0 l1 = true
 ·rw [if_pos hok] at h
  unfold okArgs at hok
  rw [Bool.and_eq_true, decide_eq_true_eq] at hok
  have HB0 := Aside0.mk (below_alloc (Below.refl w.heap.size w) (.cells #[.slice A0_0 l0_0.length c0_0] 24 (0, 0)))
  have HAS := Aside0.mk (fun (W : World) (hb : Below w.heap.size w W) => asked_walk l0_0 A0_0 c0_0 l1 A1 c1 W (Kd.C_below hr0_0 hb) hc0_0 (Kd.C_below hr1 hb) hc1 hok.1 hok.2)
  have HRR := Aside0.mk (Option.some.inj h)
  clear hr0_0 hc0_0 hr1 hc1 hok h
  go_enter Try.func11, Try.ntmps11
  go_wp2_with (first
   | (go_at_call 24; refine (HAS.out _ HB0.out).mono ?_; rintro e w2 ⟨q, rfl, hm⟩; have HM := Aside0.mk hm; clear hm)
   | (go_at_call 17; refine (clean_ptr HM.out a2).mono ?_; rw [HRR.out]; rintro e w3 ⟨rfl, hb⟩; have HB3 := Aside0.mk (HB0.out.trans ((HM.out.1.trans (hb.mono HM.out.1.size)).mono HB0.out.size)); clear hb))
  go_ret
  exact ⟨rfl, HB3.out⟩
 ·rw [if_neg hok] at h
  cases h
end
end Go.Proofs.Ytihpndignekheaa.F
end

section
namespace Go.Proofs.Ytihpndignekheaa.F
open Go.RowKit Go.Proofs.YtihpndignekheaaW.PrintWords Go.Proofs.YtihpndignekheaaW.PrintLast Go.Proofs.YtihpndignekheaaW.PrintMore
attribute [local go_sem] max2_int min2_int max_two min_two max_three min_three max_four min_four
set_option linter.unusedVariables false
set_option linter.unusedSimpArgs false
def argosylaw14_is.l0 : Nat → List Int → List Int → Int → Option (Bool)
 | 0, _, _, _ => none
 | k + 1, x0, x1, x5 => if x5 < (x0.length : Int) then (if 0 ≤ x5 then (if x5 < (x1.length : Int) then (if (rd x0 x5) = (rd x1 x5) then (argosylaw14_is.l0 k x0 x1 (wrap64 (x5 + 1))) else (some false)) else (none)) else (none)) else (some true)
def argosylaw14_is.f (k : Nat) (l0 : List Int) (l1 : List Int) : Option (Bool) := if (l0.length : Int) = (l1.length : Int) then (argosylaw14_is.l0 k l0 l1 0) else (some false)
theorem argosylaw14_is.mono_l : ∀ k, (∀ y0 y1 y2, LeO (argosylaw14_is.l0 k y0 y1 y2) (argosylaw14_is.l0 (k + 1) y0 y1 y2))
 | 0 => fun _ _ _ r h => by simp [argosylaw14_is.l0] at h
 | k + 1 => by
  have ih0 := argosylaw14_is.mono_l k
  ·intro y0 y1 y2
   unfold argosylaw14_is.l0
   repeat' first
   | (with_reducible exact ih0 _ _ _)
   | (with_reducible exact LeO.refl _)
   | (with_reducible exact LeO.none _)
   | (with_reducible refine LeO.ite ?_ ?_)
   | (with_reducible refine LeO.bind ?_ (fun _ => ?_))
   | exact ih0 _ _ _
   | exact LeO.none _
   | refine LeO.ite ?_ ?_
   | refine LeO.bind ?_ (fun _ => ?_)
theorem argosylaw14_is.mono : ∀ a0 a1 k, LeO (argosylaw14_is.f k a0 a1) (argosylaw14_is.f (k + 1) a0 a1) := by
 intro a0 a1 k
 have ih0 := argosylaw14_is.mono_l k
 unfold argosylaw14_is.f
 repeat' first
   | (with_reducible exact ih0 _ _ _)
   | (with_reducible exact LeO.refl _)
   | (with_reducible exact LeO.none _)
   | (with_reducible refine LeO.ite ?_ ?_)
   | (with_reducible refine LeO.bind ?_ (fun _ => ?_))
   | exact ih0 _ _ _
   | exact LeO.none _
   | refine LeO.ite ?_ ?_
   | refine LeO.bind ?_ (fun _ => ?_)
set_option maxHeartbeats 8000000 in
set_option maxRecDepth 100000 in
theorem argosylaw14_is.calls (k : Nat) (A0 : Option Addr) (c0 : Nat) (l0 : List Int) (A1 : Option Addr) (c1 : Nat) (l1 : List Int) (r : Bool) (w : World) (hr0 : Kd.C (Kd.int .i64) w A0 l0.length l0) (hc0 : l0.length ≤ c0) (hr1 : Kd.C (Kd.int .i64) w A1 l1.length l1) (hc1 : l1.length ≤ c1) (h : argosylaw14_is.f k l0 l1 = some r) :
  Calls Try.prog 19 #[.slice A0 l0.length c0, .slice A1 l1.length c1] w fun e w' => e = .returned (.bool r) ∧ Drawn0 w w' := by
 have HR0 := Aside0.mk hr0
 have HC0 := Aside0.mk hc0
 clear hr0 hc0
 have HR1 := Aside0.mk hr1
 have HC1 := Aside0.mk hc1
 clear hr1 hc1
 have H : (if (l0.length : Int) = (l1.length : Int) then (argosylaw14_is.l0 k l0 l1 0) else (some false)) = some r := h
 clear h
 by_cases c3 : (l0.length : Int) = (l1.length : Int)
 ·rw [if_pos c3] at H
  have c3b0 : ((l0.length : Int) == (l1.length : Int)) = true := beq_iff_eq.mpr c3
  have c3b1 : ((l0.length : Int) != (l1.length : Int)) = false := bne_eq_false_iff_eq.mpr c3
  have c3b2 : (l0.length == l1.length) = true := by first | simpa using c3 | (simp at c3 ⊢; omega)
  clear c3
  have H' := Aside0.mk H
  clear H
  go_enter Try.func19, Try.ntmps19
  go_wp2
  repeat (go_quiet (fail); try go_wp2)
  go_loopg [5] k (fun kq v5 w' => ∃ (x5_1 : Int), v5 = .int .i64 x5_1 ∧ Aside0 (argosylaw14_is.l0 kq l0 l1 x5_1 = some r) ∧ Aside0 (kq ≤ k) ∧ Drawn0 w w')
  case atStart => exact ⟨(0), (by first | rfl | (simp; done) | (simp [*]; done)), H', ⟨Nat.le_refl _⟩, by repeat (first | exact Drawn0.refl _ | apply Drawn0.step)⟩
  case round =>
   clear H'
   try clear c1
   try clear p2
   try clear c3
   try clear c3b0
   try clear c3b1
   try clear c3b2
   obtain ⟨x5_1, rfl, HA, HK1, ⟨m1, rfl⟩⟩ := hrel
   cases gk with
   | zero => exact absurd HA.out (by simp [argosylaw14_is.l0])
   | succ k1 =>
    have H := HA.out
    clear HA
    simp only [argosylaw14_is.l0] at H
    by_cases c4 : x5_1 < (l0.length : Int)
    ·rw [if_pos c4] at H
     have c4b0 : decide (x5_1 < (l0.length : Int)) = true := decide_eq_true c4
     clear c4
     by_cases c5 : 0 ≤ x5_1
     ·rw [if_pos c5] at H
      have c5b0 : decide (0 ≤ x5_1) = true := decide_eq_true c5
      clear c5
      by_cases c6 : x5_1 < (l1.length : Int)
      ·rw [if_pos c6] at H
       have c6b0 : decide (x5_1 < (l1.length : Int)) = true := decide_eq_true c6
       clear c6
       by_cases c7 : (rd l0 x5_1) = (rd l1 x5_1)
       ·rw [if_pos c7] at H
        have c7b0 : ((rd l0 x5_1) == (rd l1 x5_1)) = true := beq_iff_eq.mpr c7
        have c7b1 : ((rd l0 x5_1) != (rd l1 x5_1)) = false := bne_eq_false_iff_eq.mpr c7
        clear c7
        have H' := Aside0.mk H
        clear H
        have p142 : 0 ≤ (x5_1 : Int) := of_decide_eq_true (by first | (with_reducible assumption) | assumption)
        have q142 : x5_1 < (l0.length : Int) := of_decide_eq_true (by first | (with_reducible assumption) | assumption)
        obtain ⟨ad142, e142, hx142_0⟩ := Kd.at_int HR0.out x5_1 p142 q142
        cases e142
        replace p142 := eq_true p142
        replace q142 := eq_true q142
        have p143 : 0 ≤ (x5_1 : Int) := of_decide_eq_true (by first | (with_reducible assumption) | assumption)
        have q143 : x5_1 < (l1.length : Int) := of_decide_eq_true (by first | (with_reducible assumption) | assumption)
        obtain ⟨ad143, e143, hx143_0⟩ := Kd.at_int HR1.out x5_1 p143 q143
        cases e143
        replace p143 := eq_true p143
        replace q143 := eq_true q143
        go_wp2
        repeat (go_quiet (fail); try go_wp2)
        go_roundg k1
        case measure => have := HK1.out; omega
        case rel => exact ⟨(wrap64 (x5_1 + 1)), (by first | rfl | (simp; done) | (simp [*]; done)), H', ⟨by have := HK1.out; omega⟩, by repeat (first | exact Drawn0.refl _ | apply Drawn0.step)⟩
       ·rw [if_neg c7] at H
        have c7b0 : ((rd l0 x5_1) == (rd l1 x5_1)) = false := beq_eq_false_iff_ne.mpr c7
        have c7b1 : ((rd l0 x5_1) != (rd l1 x5_1)) = true := bne_iff_ne.mpr c7
        obtain rfl := Option.some.inj H
        have p142 : 0 ≤ (x5_1 : Int) := of_decide_eq_true (by first | (with_reducible assumption) | assumption)
        have q142 : x5_1 < (l0.length : Int) := of_decide_eq_true (by first | (with_reducible assumption) | assumption)
        obtain ⟨ad142, e142, hx142_0⟩ := Kd.at_int HR0.out x5_1 p142 q142
        cases e142
        replace p142 := eq_true p142
        replace q142 := eq_true q142
        have p143 : 0 ≤ (x5_1 : Int) := of_decide_eq_true (by first | (with_reducible assumption) | assumption)
        have q143 : x5_1 < (l1.length : Int) := of_decide_eq_true (by first | (with_reducible assumption) | assumption)
        obtain ⟨ad143, e143, hx143_0⟩ := Kd.at_int HR1.out x5_1 p143 q143
        cases e143
        replace p143 := eq_true p143
        replace q143 := eq_true q143
        go_wp2
        repeat (go_quiet (fail); try go_wp2)
        go_ret
        exact ⟨by first | rfl | (simp; done) | (simp [*]; done), by repeat (first | exact Drawn0.refl _ | apply Drawn0.step)⟩
      ·rw [if_neg c6] at H
       exact absurd H (by simp)
     ·rw [if_neg c5] at H
      exact absurd H (by simp)
    ·rw [if_neg c4] at H
     have c4b0 : decide (x5_1 < (l0.length : Int)) = false := decide_eq_false c4
     clear c4
     obtain rfl := Option.some.inj H
     go_wp2
     repeat (go_quiet (fail); try go_wp2)
     go_ret
     exact ⟨by first | rfl | (simp; done) | (simp [*]; done), by repeat (first | exact Drawn0.refl _ | apply Drawn0.step)⟩
 ·rw [if_neg c3] at H
  have c3b0 : ((l0.length : Int) == (l1.length : Int)) = false := beq_eq_false_iff_ne.mpr c3
  have c3b1 : ((l0.length : Int) != (l1.length : Int)) = true := bne_iff_ne.mpr c3
  have c3b2 : (l0.length == l1.length) = false := by first | simpa using c3 | (simp at c3 ⊢; omega)
  obtain rfl := Option.some.inj H
  go_enter Try.func19, Try.ntmps19
  go_wp2
  repeat (go_quiet (fail); try go_wp2)
  go_ret
  exact ⟨by first | rfl | (simp; done) | (simp [*]; done), by repeat (first | exact Drawn0.refl _ | apply Drawn0.step)⟩
end Go.Proofs.Ytihpndignekheaa.F
end

section
namespace Go.Proofs.Ytihpndignekheaa.F
open Go.RowKit Go.Proofs.YtihpndignekheaaW.PrintWords Go.Proofs.YtihpndignekheaaW.PrintLast Go.Proofs.YtihpndignekheaaW.PrintMore
attribute [local go_sem] max2_int min2_int max_two min_two max_three min_three max_four min_four
set_option linter.unusedVariables false
set_option linter.unusedSimpArgs false
def argosylaw14_either.f : Option (List S37) := (plan_Make.f (⟨#[116]⟩ : ByteArray) ([⟨[⟨⟨#[97]⟩, ⟨#[120]⟩, [], false, false, []⟩]⟩, ⟨[⟨⟨#[98]⟩, ⟨#[121]⟩, [], false, false, []⟩]⟩] : List BodyK)).bind fun bt => some bt.1
def Stop3_ (p : Prop) : Prop := p
theorem stop3_ {p : Prop} (h : Stop3_ p) : p := h
theorem rows2_ {W : World} {g : Nat} {A3 A5 : Option Addr} {c3 c5 : Nat} {x y : S79} (hg : W.heap[g]? = some (.cells #[.slice A3 1 c3, .slice A5 1 c5] 82 (0, 0))) (l3 : 1 ≤ c3) (h3 : Kd.C k79 W A3 1 [x]) (l5 : 1 ≤ c5) (h5 : Kd.C k79 W A5 1 [y]) :
  Kd.C k82 W (some ⟨g, 0, none⟩) 2 ([⟨[x]⟩, ⟨[y]⟩] : List S82) := by
 refine ⟨rfl, by omega, fun _ => ⟨_, rfl, fun j p hj => ?_⟩⟩
 match j, hj with
 | 0, hj =>
  obtain rfl := Option.some.inj hj
  refine ⟨[.slice A3 1 c3], rfl, k82_mk W _ l3 h3, fun i u hu => ?_⟩
  match i, hu with
  | 0, hu => obtain rfl := Option.some.inj hu; exact (blk_cell hg 0).trans rfl
 | 1, hj =>
  obtain rfl := Option.some.inj hj
  refine ⟨[.slice A5 1 c5], rfl, k82_mk W _ l5 h5, fun i u hu => ?_⟩
  match i, hu with
  | 0, hu => obtain rfl := Option.some.inj hu; exact (blk_cell hg 1).trans rfl
set_option maxHeartbeats 8000000 in
set_option maxRecDepth 100000 in
theorem argosylaw14_either.calls (r : List S37) (w : World) (h : argosylaw14_either.f = some r) :
  Calls Try.prog 23 #[] w fun e w' => ∃ v0_ : Value, e = .returned (.agg #[v0_]) ∧ Kd.N k37 37 w' w.heap.size (fun k_ => (w.heap.size ≤ k_)) v0_ r ∧ Below w.heap.size w w' := by
 obtain ⟨⟨t1, t2⟩, A1_, H⟩ := Option.bind_eq_some_iff.mp h
 have A1 := Aside0.mk A1_
 obtain rfl := Option.some.inj H
 clear h A1_ H
 have HB := Aside0.mk (Below.refl w.heap.size w)
 have hu := Try.underlying24
 have hu2 := Try.underlying82
 have hu3 := Try.underlying79
 go_enter Try.func23, Try.ntmps23
 go_wp2_with (first
  | ((with_reducible refine gate_dst (N := 0) rfl ?_); refine box_event ?hg (N := 0) ?hd (cs := #[.slice none 0 0]) (t := 24) ?hr ?_; (case hd => rfl); (case hg => rfl); (case hr => first | (go_simp; done) | (go_simp; rfl)); intro g0 hg w2 hbox hb; have K0 := Aside0.mk hbox; have n0_ := Aside0.mk (below_step (by repeat (first | (with_reducible first | exact HB.out | apply pw_below_drewN | apply below_drew1) | exact HB.out)) hb); have G0 := Aside0.mk (by rw [hg]; exact (below_size (by repeat (first | (with_reducible first | exact HB.out | apply pw_below_drewN | apply below_drew1) | exact HB.out))) : w.heap.size ≤ g0); clear HB; have HB := n0_; clear n0_ hbox hb hg)
  | ((with_reducible refine gate_dst (N := 6) rfl ?_); refine Kd.N_lit k79 _ 79 ?hg (N' := 6) ?hd (xs := ([⟨⟨#[97]⟩, ⟨#[120]⟩, [], false, false, []⟩] : List S79)) (inner := [.string ⟨#[97]⟩, .string ⟨#[120]⟩, .slice none 0 0, .bool false, .bool false, .slice none 0 0]) (ok := fun _ => True) (okp := fun _ => True) ?hr ?hp (fun _ hk => hk) trivial (Below.refl _ _) (Nat.le_refl _) (by simp) ?_; (case hd => rfl); (case hg => rfl); (case hr => first | (go_simp; done) | (go_simp; rfl)); (case hp => exact (Reps.c6 (show Kd.FK k79 _ _ (⟨⟨#[97]⟩, ⟨#[120]⟩, [], false, false, []⟩ : S79) [.string ⟨#[97]⟩, .string ⟨#[120]⟩, .slice none 0 0, .bool false, .bool false, .slice none 0 0] from (k79_mkF _ _ (⟨⟨#[97]⟩, ⟨#[120]⟩, [], false, false, []⟩ : S79) (Nat.le_refl _) (Kd.F_nil _ _ _) (Nat.le_refl _) (Kd.F_nil _ _ _))) (Reps.none _ _))); intro v3 w3 ho hb hg_ hnew_; clear hg_ hnew_; obtain ⟨A3, c3, rfl⟩ := Kd.N_slice ho; have C3 := Aside0.mk (Kd.N_reads' ho); have n0_ := Aside0.mk (below_step (by repeat (first | (with_reducible first | exact HB.out | apply pw_below_drewN | apply below_drew1) | exact HB.out)) hb); have n1_ := Aside0.mk (blk_below (g := g0) (o := .cells #[.slice none 0 0] 24 (0, 0)) (by (with_reducible repeat (first | refine blk_drewN ?_ _ | refine blk_drew ?_)); exact K0.out) hb); clear HB K0; have HB := n0_; have K0 := n1_; have HC := Aside0.mk (Below.refl w3.heap.size w3); clear n0_ n1_ ho hb)
  | ((with_reducible refine gate_dst (N := 1) rfl ?_); refine box_event ?hg (N := 1) ?hd (cs := #[.slice none 0 0]) (t := 82) ?hr ?_; (case hd => rfl); (case hg => rfl); (case hr => first | (go_simp; done) | (go_simp; rfl)); intro g1 hg w4 hbox hb; have K1 := Aside0.mk hbox; have n0_ := Aside0.mk (below_step (by repeat (first | (with_reducible first | exact HB.out | apply pw_below_drewN | apply below_drew1) | exact HB.out)) hb); have n1_ := Aside0.mk (below_step (by repeat (first | (with_reducible first | exact HC.out | apply pw_below_drewN | apply below_drew1) | exact HC.out)) hb); have n2_ := Aside0.mk (blk_below (g := g0) (o := .cells #[.slice none 0 0] 24 (0, 0)) (by (with_reducible repeat (first | refine blk_drewN ?_ _ | refine blk_drew ?_)); exact K0.out) hb); have G1 := Aside0.mk (by rw [hg]; exact (below_size (by repeat (first | (with_reducible first | exact HC.out | apply pw_below_drewN | apply below_drew1) | exact HC.out))) : w3.heap.size ≤ g1); have G1' := Aside0.mk (by rw [hg]; exact (below_size (by repeat (first | (with_reducible first | exact HB.out | apply pw_below_drewN | apply below_drew1) | exact HB.out))) : w.heap.size ≤ g1); have N01 := Aside0.mk (by rw [hg]; exact Nat.ne_of_lt (blk_lt (g := g0) (o := .cells #[.slice none 0 0] 24 (0, 0)) (by (with_reducible repeat (first | refine blk_drewN ?_ _ | refine blk_drew ?_)); exact K0.out)) : g0 ≠ g1); clear HB HC K0; have HB := n0_; have HC := n1_; have K0 := n2_; clear n0_ n1_ n2_ hbox hb hg; have hz1 : w4.cell? ⟨g1, 0, none⟩ = some (.slice none 0 0) := (blk_cell K1.out 0).trans rfl; have hf1 := blk_frozen K1.out 0)
  | ((with_reducible refine gate_dst (N := 9) rfl ?_); clear hz1 hf1; refine Kd.N_lit k79 _ 79 ?hg (N' := 9) ?hd (xs := ([⟨⟨#[98]⟩, ⟨#[121]⟩, [], false, false, []⟩] : List S79)) (inner := [.string ⟨#[98]⟩, .string ⟨#[121]⟩, .slice none 0 0, .bool false, .bool false, .slice none 0 0]) (ok := fun _ => True) (okp := fun _ => True) ?hr ?hp (fun _ hk => hk) trivial (Below.refl _ _) (Nat.le_refl _) (by simp) ?_; (case hd => rfl); (case hg => rfl); (case hr => first | (go_simp; done) | (go_simp; rfl)); (case hp => exact (Reps.c6 (show Kd.FK k79 _ _ (⟨⟨#[98]⟩, ⟨#[121]⟩, [], false, false, []⟩ : S79) [.string ⟨#[98]⟩, .string ⟨#[121]⟩, .slice none 0 0, .bool false, .bool false, .slice none 0 0] from (k79_mkF _ _ (⟨⟨#[98]⟩, ⟨#[121]⟩, [], false, false, []⟩ : S79) (Nat.le_refl _) (Kd.F_nil _ _ _) (Nat.le_refl _) (Kd.F_nil _ _ _))) (Reps.none _ _))); intro v5 w5 ho hb hg_ hnew_; clear hg_ hnew_; obtain ⟨A5, c5, rfl⟩ := Kd.N_slice ho; have C5 := Aside0.mk (Kd.N_reads' ho); have n0_ := Aside0.mk (below_step (by repeat (first | (with_reducible first | exact HB.out | apply pw_below_drewN | apply below_drew1 | refine below_set ?_ G1'.out) | exact HB.out)) hb); have n1_ := Aside0.mk (below_step (by repeat (first | (with_reducible first | exact HC.out | apply pw_below_drewN | apply below_drew1 | refine below_set ?_ G1.out) | exact HC.out)) hb); have n2_ := Aside0.mk (blk_below (g := g0) (o := .cells #[.slice none 0 0] 24 (0, 0)) (by (with_reducible repeat (first | refine blk_drewN ?_ _ | refine blk_drew ?_)); refine blk_far ?_ N01.out _; (with_reducible repeat (first | refine blk_drewN ?_ _ | refine blk_drew ?_)); exact K0.out) hb); have n3_ := Aside0.mk (blk_below (g := g1) (o := .cells #[.slice A3 1 c3] 82 (0, 0)) (by (with_reducible repeat (first | refine blk_drewN ?_ _ | refine blk_drew ?_)); refine blk_put (cs := #[.slice none 0 0]) ?_ 0 _ rfl; (with_reducible repeat (first | refine blk_drewN ?_ _ | refine blk_drew ?_)); exact K1.out) hb); clear HB HC K0 K1; have HB := n0_; have HC := n1_; have K0 := n2_; have K1 := n3_; have HD := Aside0.mk (Below.refl w5.heap.size w5); clear n0_ n1_ n2_ n3_ ho hb)
  | ((with_reducible refine gate_dst (N := 2) rfl ?_); refine box_event ?hg (N := 2) ?hd (cs := #[.slice none 0 0]) (t := 82) ?hr ?_; (case hd => rfl); (case hg => rfl); (case hr => first | (go_simp; done) | (go_simp; rfl)); intro g2 hg w6 hbox hb; have K2 := Aside0.mk hbox; have n0_ := Aside0.mk (below_step (by repeat (first | (with_reducible first | exact HB.out | apply pw_below_drewN | apply below_drew1) | exact HB.out)) hb); have n1_ := Aside0.mk (below_step (by repeat (first | (with_reducible first | exact HC.out | apply pw_below_drewN | apply below_drew1) | exact HC.out)) hb); have n4_ := Aside0.mk (below_step (by repeat (first | (with_reducible first | exact HD.out | apply pw_below_drewN | apply below_drew1) | exact HD.out)) hb); have n2_ := Aside0.mk (blk_below (g := g0) (o := .cells #[.slice none 0 0] 24 (0, 0)) (by (with_reducible repeat (first | refine blk_drewN ?_ _ | refine blk_drew ?_)); exact K0.out) hb); have n3_ := Aside0.mk (blk_below (g := g1) (o := .cells #[.slice A3 1 c3] 82 (0, 0)) (by (with_reducible repeat (first | refine blk_drewN ?_ _ | refine blk_drew ?_)); exact K1.out) hb); have G2 := Aside0.mk (by rw [hg]; exact (below_size (by repeat (first | (with_reducible first | exact HD.out | apply pw_below_drewN | apply below_drew1) | exact HD.out))) : w5.heap.size ≤ g2); have G2' := Aside0.mk (by rw [hg]; exact (below_size (by repeat (first | (with_reducible first | exact HB.out | apply pw_below_drewN | apply below_drew1) | exact HB.out))) : w.heap.size ≤ g2); have G2c := Aside0.mk (by rw [hg]; exact (below_size (by repeat (first | (with_reducible first | exact HC.out | apply pw_below_drewN | apply below_drew1) | exact HC.out))) : w3.heap.size ≤ g2); have N02 := Aside0.mk (by rw [hg]; exact Nat.ne_of_lt (blk_lt (g := g0) (o := .cells #[.slice none 0 0] 24 (0, 0)) (by (with_reducible repeat (first | refine blk_drewN ?_ _ | refine blk_drew ?_)); exact K0.out)) : g0 ≠ g2); have N12 := Aside0.mk (by rw [hg]; exact Nat.ne_of_lt (blk_lt (g := g1) (o := .cells #[.slice A3 1 c3] 82 (0, 0)) (by (with_reducible repeat (first | refine blk_drewN ?_ _ | refine blk_drew ?_)); exact K1.out)) : g1 ≠ g2); clear HB HC HD K0 K1; have HB := n0_; have HC := n1_; have HD := n4_; have K0 := n2_; have K1 := n3_; clear n0_ n1_ n2_ n3_ n4_ hbox hb hg; have hz2 : w6.cell? ⟨g2, 0, none⟩ = some (.slice none 0 0) := (blk_cell K2.out 0).trans rfl; have hf2 := blk_frozen K2.out 0; have hz1 : w6.cell? ⟨g1, 0, none⟩ = some (.slice A3 1 c3) := (blk_cell K1.out 0).trans rfl; have hn12 := N12.out; have hn21 := N12.out.symm)
  | (go_at_call 33; refine stop3_ ?_))
 unfold Stop3_
 have hBW := below_alloc (below_set HB.out G2'.out (v := .slice A5 1 c5) (j := 0)) (.cells #[.slice A3 1 c3, .slice A5 1 c5] 82 (0, 0))
 have hCW := below_alloc (below_set HC.out G2c.out (v := .slice A5 1 c5) (j := 0)) (.cells #[.slice A3 1 c3, .slice A5 1 c5] 82 (0, 0))
 have hDW := below_alloc (below_set HD.out G2.out (v := .slice A5 1 c5) (j := 0)) (.cells #[.slice A3 1 c3, .slice A5 1 c5] 82 (0, 0))
 have hKW : (((w6.setCell ⟨g2, 0, none⟩ (.slice A5 1 c5)).alloc (.cells #[.slice A3 1 c3, .slice A5 1 c5] 82 (0, 0))).heap[g0]?) = some (.cells #[.slice none 0 0] 24 (0, 0)) := blk_alloc (blk_far K0.out N02.out _) _
 refine (plan_Make.calls (⟨#[116]⟩ : ByteArray) _ _ ([⟨[⟨⟨#[97]⟩, ⟨#[120]⟩, [], false, false, []⟩]⟩, ⟨[⟨⟨#[98]⟩, ⟨#[121]⟩, [], false, false, []⟩]⟩] : List BodyK) t1 t2 _ (rows2_ (by have h_ := blk_new (w6.setCell ⟨g2, 0, none⟩ (.slice A5 1 c5)) (.cells #[.slice A3 1 c3, .slice A5 1 c5] 82 (0, 0)); rwa [World.size_setCell] at h_) C3.out.2.1 (Kd.C_below C3.out.2.2 hCW) C5.out.2.1 (Kd.C_below C5.out.2.2 hDW)) (Nat.le_refl _) A1.out).mono ?_
 rintro e w7 ⟨v7, rfl, ho, hb⟩
 have HB7 := Aside0.mk (hBW.trans (hb.mono hBW.size))
 have K7 := Aside0.mk (blk_below hKW hb)
 have G7 := Aside0.mk (blk_lt K7.out)
 obtain ⟨A7, c7, rfl⟩ := Kd.N_slice ho
 have HN := Aside0.mk (Kd.N_lower (Kd.N_mono (ok' := fun k_ => w.heap.size ≤ k_ ∧ k_ ≠ g0) ho (fun k_ hk_ => ⟨Nat.le_trans hBW.size hk_, fun e => by have := blk_lt hKW; omega⟩)) hBW.size)
 clear hBW hCW hDW hKW hb ho hz1 hz2 hf2 hn12 hn21
 go_wp2_with ((with_reducible refine gate_dst (N := 3) rfl ?_); refine stop3_ ?_)
 unfold Stop3_
 refine box_event ?hg (N := 3) ?hd (cs := #[.slice none 0 0]) (t := 24) ?hr ?_
 (case hd => rfl)
 (case hg => rfl)
 (case hr => first | (go_simp; done) | (go_simp; rfl))
 intro g3 hg w8 hbox hb
 have K8 := Aside0.mk (blk_below K7.out hb)
 have K3 := Aside0.mk hbox
 have HB8 := Aside0.mk (below_step HB7.out hb)
 have G3 : Aside0 (w.heap.size ≤ g3) := ⟨by rw [hg]; exact HB7.out.size⟩
 have HN8 := Aside0.mk (Kd.N_below (Kd.N_elderB HN.out g3 (Nat.le_of_eq hg.symm)) hb)
 have hn0 : g0 ≠ g3 := by rw [hg]; exact Nat.ne_of_lt G7.out
 have hn0' : g3 ≠ g0 := hn0.symm
 have NB := Aside0.mk hn0
 clear hbox hb hg
 have hz3 : w8.cell? ⟨g3, 0, none⟩ = some (.slice none 0 0) := (blk_cell K3.out 0).trans rfl
 have hf3 := blk_frozen K3.out 0
 have hz0 : w8.cell? ⟨g0, 0, none⟩ = some (.slice none 0 0) := (blk_cell K8.out 0).trans rfl
 have hf0 := blk_frozen K8.out 0
 go_wp2
 refine bodyPost_ret (results_cell_row rfl _ _ g0 24 #[.slice A7 t1.length c7] (0, 0) _ rfl (by (with_reducible repeat (first | refine blk_drewN ?_ _ | refine blk_drew ?_ | refine blk_alloc ?_ _)); refine blk_put (cs := #[.slice none 0 0]) ?_ 0 _ rfl; (with_reducible repeat (first | refine blk_drewN ?_ _ | refine blk_drew ?_ | refine blk_alloc ?_ _)); refine blk_far ?_ NB.out _; (with_reducible repeat (first | refine blk_drewN ?_ _ | refine blk_drew ?_ | refine blk_alloc ?_ _)); exact K8.out) Try.underlying24 rfl (by kernel_rfl)) rfl ?_
 exact ⟨_, rfl, by (with_reducible repeat (first | apply Kd.N_alloc | apply Kd.N_drewN | apply Kd.N_drew)); exact Kd.N_mono (Kd.N_far (p := ⟨g0, 0, none⟩) (Kd.N_far (p := ⟨g3, 0, none⟩) (Kd.N_mono HN8.out (fun k_ hk => (⟨hk.1, hk.2⟩ : _ ∧ k_ ≠ g3))) (fun k_ hk => hk.2) (.slice A7 t1.length c7)) (fun _ hk => hk.1.2) (.slice A7 t1.length c7)) (fun _ hk => hk.1.1), by repeat (first | (with_reducible first | exact HB8.out | apply below_alloc | apply pw_below_drewN | apply below_drew1 | refine below_set ?_ G0.out | refine below_set ?_ G3.out) | exact HB8.out)⟩
end Go.Proofs.Ytihpndignekheaa.F
end

section
namespace Go.Proofs.Ytihpndignekheaa.F
open Go.RowKit Go.Proofs.YtihpndignekheaaW.PrintWords Go.Proofs.YtihpndignekheaaW.PrintLast Go.Proofs.YtihpndignekheaaW.PrintMore
attribute [local go_sem] max2_int min2_int max_two min_two max_three min_three max_four min_four
set_option linter.unusedVariables false
set_option linter.unusedSimpArgs false
def argosylaw14_lives.f (k : Nat)  : Option (Bool) := (argosylaw14_either.f).bind fun t144 => (if 3 ≤ 8796093022208 then ((some (List.replicate 3 z59 : List (S59))).bind fun y148 => ((some (([(⟨0, 0, 0, false⟩ : S59), (⟨3, 0, 0, false⟩ : S59), (⟨0, 0, 0, false⟩ : S59)] : List (S59)) : List (S59))).bind fun y151 => ((state_All.f t144 y148).bind fun bt160 => ((state_All.f t144 y151).bind fun bt164 => ((argosylaw14_is.f k bt160.1 (([0, 0, 0] : List Int))).bind fun t171 => (if t171 = true then (if bt160.2 = 0 then ((argosylaw14_is.f k bt164.1 (([1, 3, 0] : List Int))).bind fun t175 => (if t175 = true then (if bt164.2 = 0 then ((state_At.f t144 y151 0).bind fun t176 => (if t176 = 1 then ((state_Verdict.f t144 (([(⟨0, 0, 0, false⟩ : S59), (⟨3, 0, 0, false⟩ : S59), (⟨3, 0, 0, false⟩ : S59)] : List (S59)))).bind fun t177 => (if t177 = 3 then ((state_Verdict.f t144 (([(⟨0, 0, 0, false⟩ : S59), (⟨3, 0, 0, false⟩ : S59), (⟨2, 0, 0, false⟩ : S59)] : List (S59)))).bind fun t178 => (if t178 = 2 then ((state_Verdict.f t144 y148).bind fun t179 => (if t179 = 1 then ((state_Falling.f t144 y151 0 0).bind fun t180 => (some t180)) else (some false))) else (some false))) else (some false))) else (some false))) else (some false)) else (some false))) else (some false)) else (some false))))))) else (none))
theorem argosylaw14_lives.mono : ∀ k, LeO (argosylaw14_lives.f k ) (argosylaw14_lives.f (k + 1) ) := by
 intro  k
 unfold argosylaw14_lives.f
 repeat' first
   | (with_reducible exact argosylaw14_is.mono _ _ _)
   | (with_reducible exact LeO.refl _)
   | (with_reducible exact LeO.none _)
   | (with_reducible refine LeO.ite ?_ ?_)
   | (with_reducible refine LeO.bind ?_ (fun _ => ?_))
   | exact argosylaw14_is.mono _ _ _
   | exact LeO.none _
   | refine LeO.ite ?_ ?_
   | refine LeO.bind ?_ (fun _ => ?_)
set_option maxHeartbeats 8000000 in
set_option maxRecDepth 100000 in
theorem argosylaw14_lives.calls_ (k : Nat)  (r : Bool) (w : World) (hr0 : r = true) (h : argosylaw14_lives.f k  = some r) :
  Calls Try.prog 8 #[] w fun e w' => e = .returned (.bool r) ∧ Below w.heap.size w w' := by
 have HR0 := Aside0.mk hr0
 clear hr0
 have hu24 := Try.underlying24
 have hu59 := Try.underlying59
 have HB := Aside0.mk (Below.refl w.heap.size w)
 have H : ((argosylaw14_either.f).bind fun t144 => (if 3 ≤ 8796093022208 then ((some (List.replicate 3 z59 : List (S59))).bind fun y148 => ((some (([(⟨0, 0, 0, false⟩ : S59), (⟨3, 0, 0, false⟩ : S59), (⟨0, 0, 0, false⟩ : S59)] : List (S59)) : List (S59))).bind fun y151 => ((state_All.f t144 y148).bind fun bt160 => ((state_All.f t144 y151).bind fun bt164 => ((argosylaw14_is.f k bt160.1 (([0, 0, 0] : List Int))).bind fun t171 => (if t171 = true then (if bt160.2 = 0 then ((argosylaw14_is.f k bt164.1 (([1, 3, 0] : List Int))).bind fun t175 => (if t175 = true then (if bt164.2 = 0 then ((state_At.f t144 y151 0).bind fun t176 => (if t176 = 1 then ((state_Verdict.f t144 (([(⟨0, 0, 0, false⟩ : S59), (⟨3, 0, 0, false⟩ : S59), (⟨3, 0, 0, false⟩ : S59)] : List (S59)))).bind fun t177 => (if t177 = 3 then ((state_Verdict.f t144 (([(⟨0, 0, 0, false⟩ : S59), (⟨3, 0, 0, false⟩ : S59), (⟨2, 0, 0, false⟩ : S59)] : List (S59)))).bind fun t178 => (if t178 = 2 then ((state_Verdict.f t144 y148).bind fun t179 => (if t179 = 1 then ((state_Falling.f t144 y151 0 0).bind fun t180 => (some t180)) else (some false))) else (some false))) else (some false))) else (some false))) else (some false)) else (some false))) else (some false)) else (some false))))))) else (none))) = some r := h
 clear h
 replace H := Option.bind_eq_some_iff.mp H
 obtain ⟨t144, A10, H⟩ := H
 replace H : (if 3 ≤ 8796093022208 then ((some (List.replicate 3 z59 : List (S59))).bind fun y148 => ((some (([(⟨0, 0, 0, false⟩ : S59), (⟨3, 0, 0, false⟩ : S59), (⟨0, 0, 0, false⟩ : S59)] : List (S59)) : List (S59))).bind fun y151 => ((state_All.f t144 y148).bind fun bt160 => ((state_All.f t144 y151).bind fun bt164 => ((argosylaw14_is.f k bt160.1 (([0, 0, 0] : List Int))).bind fun t171 => (if t171 = true then (if bt160.2 = 0 then ((argosylaw14_is.f k bt164.1 (([1, 3, 0] : List Int))).bind fun t175 => (if t175 = true then (if bt164.2 = 0 then ((state_At.f t144 y151 0).bind fun t176 => (if t176 = 1 then ((state_Verdict.f t144 (([(⟨0, 0, 0, false⟩ : S59), (⟨3, 0, 0, false⟩ : S59), (⟨3, 0, 0, false⟩ : S59)] : List (S59)))).bind fun t177 => (if t177 = 3 then ((state_Verdict.f t144 (([(⟨0, 0, 0, false⟩ : S59), (⟨3, 0, 0, false⟩ : S59), (⟨2, 0, 0, false⟩ : S59)] : List (S59)))).bind fun t178 => (if t178 = 2 then ((state_Verdict.f t144 y148).bind fun t179 => (if t179 = 1 then ((state_Falling.f t144 y151 0 0).bind fun t180 => (some t180)) else (some false))) else (some false))) else (some false))) else (some false))) else (some false)) else (some false))) else (some false)) else (some false))))))) else (none)) = some r := H
 have A1 := Aside0.mk A10
 clear A10
 by_cases c2 : 3 ≤ 8796093022208
 ·rw [if_pos c2] at H
  have c2b0 := eq_true c2
  have c2b1 : decide (3 ≤ 8796093022208) = true := decide_eq_true c2
  clear c2
  obtain ⟨y148, hy148⟩ : ∃ y_ : List (S59), y_ = (List.replicate 3 z59) := ⟨_, rfl⟩
  replace H : ((some (([(⟨0, 0, 0, false⟩ : S59), (⟨3, 0, 0, false⟩ : S59), (⟨0, 0, 0, false⟩ : S59)] : List (S59)) : List (S59))).bind fun y151 => ((state_All.f t144 y148).bind fun bt160 => ((state_All.f t144 y151).bind fun bt164 => ((argosylaw14_is.f k bt160.1 (([0, 0, 0] : List Int))).bind fun t171 => (if t171 = true then (if bt160.2 = 0 then ((argosylaw14_is.f k bt164.1 (([1, 3, 0] : List Int))).bind fun t175 => (if t175 = true then (if bt164.2 = 0 then ((state_At.f t144 y151 0).bind fun t176 => (if t176 = 1 then ((state_Verdict.f t144 (([(⟨0, 0, 0, false⟩ : S59), (⟨3, 0, 0, false⟩ : S59), (⟨3, 0, 0, false⟩ : S59)] : List (S59)))).bind fun t177 => (if t177 = 3 then ((state_Verdict.f t144 (([(⟨0, 0, 0, false⟩ : S59), (⟨3, 0, 0, false⟩ : S59), (⟨2, 0, 0, false⟩ : S59)] : List (S59)))).bind fun t178 => (if t178 = 2 then ((state_Verdict.f t144 y148).bind fun t179 => (if t179 = 1 then ((state_Falling.f t144 y151 0 0).bind fun t180 => (some t180)) else (some false))) else (some false))) else (some false))) else (some false))) else (some false)) else (some false))) else (some false)) else (some false)))))) = some r := by first | (rw [hy148]; with_reducible exact H) | (have H2_ := (Option.bind_some _ _).symm.trans H; rw [hy148]; with_reducible exact H2_) | (have H2_ := (Option.bind_some _ _).symm.trans H; with_reducible exact H2_) | with_reducible exact H | (rw [hy148]; exact H) | exact H
  have Ny148 := Aside0.mk hy148
  clear hy148
  obtain ⟨y151, hy151⟩ : ∃ y_ : List (S59), y_ = (([(⟨0, 0, 0, false⟩ : S59), (⟨3, 0, 0, false⟩ : S59), (⟨0, 0, 0, false⟩ : S59)] : List (S59))) := ⟨_, rfl⟩
  replace H : ((state_All.f t144 y148).bind fun bt160 => ((state_All.f t144 y151).bind fun bt164 => ((argosylaw14_is.f k bt160.1 (([0, 0, 0] : List Int))).bind fun t171 => (if t171 = true then (if bt160.2 = 0 then ((argosylaw14_is.f k bt164.1 (([1, 3, 0] : List Int))).bind fun t175 => (if t175 = true then (if bt164.2 = 0 then ((state_At.f t144 y151 0).bind fun t176 => (if t176 = 1 then ((state_Verdict.f t144 (([(⟨0, 0, 0, false⟩ : S59), (⟨3, 0, 0, false⟩ : S59), (⟨3, 0, 0, false⟩ : S59)] : List (S59)))).bind fun t177 => (if t177 = 3 then ((state_Verdict.f t144 (([(⟨0, 0, 0, false⟩ : S59), (⟨3, 0, 0, false⟩ : S59), (⟨2, 0, 0, false⟩ : S59)] : List (S59)))).bind fun t178 => (if t178 = 2 then ((state_Verdict.f t144 y148).bind fun t179 => (if t179 = 1 then ((state_Falling.f t144 y151 0 0).bind fun t180 => (some t180)) else (some false))) else (some false))) else (some false))) else (some false))) else (some false)) else (some false))) else (some false)) else (some false))))) = some r := by first | (rw [hy151]; with_reducible exact H) | (have H2_ := (Option.bind_some _ _).symm.trans H; rw [hy151]; with_reducible exact H2_) | (have H2_ := (Option.bind_some _ _).symm.trans H; with_reducible exact H2_) | with_reducible exact H | (rw [hy151]; exact H) | exact H
  have Ny151 := Aside0.mk hy151
  clear hy151
  obtain ⟨y154, hy154⟩ : ∃ y_ : List (S59), y_ = (([(⟨0, 0, 0, false⟩ : S59), (⟨3, 0, 0, false⟩ : S59), (⟨3, 0, 0, false⟩ : S59)] : List (S59))) := ⟨_, rfl⟩
  replace H : ((state_All.f t144 y148).bind fun bt160 => ((state_All.f t144 y151).bind fun bt164 => ((argosylaw14_is.f k bt160.1 (([0, 0, 0] : List Int))).bind fun t171 => (if t171 = true then (if bt160.2 = 0 then ((argosylaw14_is.f k bt164.1 (([1, 3, 0] : List Int))).bind fun t175 => (if t175 = true then (if bt164.2 = 0 then ((state_At.f t144 y151 0).bind fun t176 => (if t176 = 1 then ((state_Verdict.f t144 y154).bind fun t177 => (if t177 = 3 then ((state_Verdict.f t144 (([(⟨0, 0, 0, false⟩ : S59), (⟨3, 0, 0, false⟩ : S59), (⟨2, 0, 0, false⟩ : S59)] : List (S59)))).bind fun t178 => (if t178 = 2 then ((state_Verdict.f t144 y148).bind fun t179 => (if t179 = 1 then ((state_Falling.f t144 y151 0 0).bind fun t180 => (some t180)) else (some false))) else (some false))) else (some false))) else (some false))) else (some false)) else (some false))) else (some false)) else (some false))))) = some r := by first | (rw [hy154]; with_reducible exact H) | (have H2_ := (Option.bind_some _ _).symm.trans H; rw [hy154]; with_reducible exact H2_) | (have H2_ := (Option.bind_some _ _).symm.trans H; with_reducible exact H2_) | with_reducible exact H | (rw [hy154]; exact H) | exact H
  have Ny154 := Aside0.mk hy154
  clear hy154
  obtain ⟨y157, hy157⟩ : ∃ y_ : List (S59), y_ = (([(⟨0, 0, 0, false⟩ : S59), (⟨3, 0, 0, false⟩ : S59), (⟨2, 0, 0, false⟩ : S59)] : List (S59))) := ⟨_, rfl⟩
  replace H : ((state_All.f t144 y148).bind fun bt160 => ((state_All.f t144 y151).bind fun bt164 => ((argosylaw14_is.f k bt160.1 (([0, 0, 0] : List Int))).bind fun t171 => (if t171 = true then (if bt160.2 = 0 then ((argosylaw14_is.f k bt164.1 (([1, 3, 0] : List Int))).bind fun t175 => (if t175 = true then (if bt164.2 = 0 then ((state_At.f t144 y151 0).bind fun t176 => (if t176 = 1 then ((state_Verdict.f t144 y154).bind fun t177 => (if t177 = 3 then ((state_Verdict.f t144 y157).bind fun t178 => (if t178 = 2 then ((state_Verdict.f t144 y148).bind fun t179 => (if t179 = 1 then ((state_Falling.f t144 y151 0 0).bind fun t180 => (some t180)) else (some false))) else (some false))) else (some false))) else (some false))) else (some false)) else (some false))) else (some false)) else (some false))))) = some r := by first | (rw [hy157]; with_reducible exact H) | (have H2_ := (Option.bind_some _ _).symm.trans H; rw [hy157]; with_reducible exact H2_) | (have H2_ := (Option.bind_some _ _).symm.trans H; with_reducible exact H2_) | with_reducible exact H | (rw [hy157]; exact H) | exact H
  have Ny157 := Aside0.mk hy157
  clear hy157
  replace H := Option.bind_eq_some_iff.mp H
  obtain ⟨⟨t160, t163⟩, A30, H⟩ := H
  replace H : ((state_All.f t144 y151).bind fun bt164 => ((argosylaw14_is.f k t160 (([0, 0, 0] : List Int))).bind fun t171 => (if t171 = true then (if t163 = 0 then ((argosylaw14_is.f k bt164.1 (([1, 3, 0] : List Int))).bind fun t175 => (if t175 = true then (if bt164.2 = 0 then ((state_At.f t144 y151 0).bind fun t176 => (if t176 = 1 then ((state_Verdict.f t144 y154).bind fun t177 => (if t177 = 3 then ((state_Verdict.f t144 y157).bind fun t178 => (if t178 = 2 then ((state_Verdict.f t144 y148).bind fun t179 => (if t179 = 1 then ((state_Falling.f t144 y151 0 0).bind fun t180 => (some t180)) else (some false))) else (some false))) else (some false))) else (some false))) else (some false)) else (some false))) else (some false)) else (some false)))) = some r := H
  have A3 := Aside0.mk A30
  clear A30
  replace H := Option.bind_eq_some_iff.mp H
  obtain ⟨⟨t164, t167⟩, A40, H⟩ := H
  replace H : ((argosylaw14_is.f k t160 (([0, 0, 0] : List Int))).bind fun t171 => (if t171 = true then (if t163 = 0 then ((argosylaw14_is.f k t164 (([1, 3, 0] : List Int))).bind fun t175 => (if t175 = true then (if t167 = 0 then ((state_At.f t144 y151 0).bind fun t176 => (if t176 = 1 then ((state_Verdict.f t144 y154).bind fun t177 => (if t177 = 3 then ((state_Verdict.f t144 y157).bind fun t178 => (if t178 = 2 then ((state_Verdict.f t144 y148).bind fun t179 => (if t179 = 1 then ((state_Falling.f t144 y151 0 0).bind fun t180 => (some t180)) else (some false))) else (some false))) else (some false))) else (some false))) else (some false)) else (some false))) else (some false)) else (some false))) = some r := H
  have A4 := Aside0.mk A40
  clear A40
  obtain ⟨y168, hy168⟩ : ∃ y_ : List Int, y_ = (([0, 0, 0] : List Int)) := ⟨_, rfl⟩
  replace H : ((argosylaw14_is.f k t160 y168).bind fun t171 => (if t171 = true then (if t163 = 0 then ((argosylaw14_is.f k t164 (([1, 3, 0] : List Int))).bind fun t175 => (if t175 = true then (if t167 = 0 then ((state_At.f t144 y151 0).bind fun t176 => (if t176 = 1 then ((state_Verdict.f t144 y154).bind fun t177 => (if t177 = 3 then ((state_Verdict.f t144 y157).bind fun t178 => (if t178 = 2 then ((state_Verdict.f t144 y148).bind fun t179 => (if t179 = 1 then ((state_Falling.f t144 y151 0 0).bind fun t180 => (some t180)) else (some false))) else (some false))) else (some false))) else (some false))) else (some false)) else (some false))) else (some false)) else (some false))) = some r := by first | (rw [hy168]; with_reducible exact H) | (have H2_ := (Option.bind_some _ _).symm.trans H; rw [hy168]; with_reducible exact H2_) | (have H2_ := (Option.bind_some _ _).symm.trans H; with_reducible exact H2_) | with_reducible exact H | (rw [hy168]; exact H) | exact H
  have Ny168 := Aside0.mk hy168
  clear hy168
  replace H := Option.bind_eq_some_iff.mp H
  obtain ⟨t171, A50, H⟩ := H
  replace H : (if t171 = true then (if t163 = 0 then ((argosylaw14_is.f k t164 (([1, 3, 0] : List Int))).bind fun t175 => (if t175 = true then (if t167 = 0 then ((state_At.f t144 y151 0).bind fun t176 => (if t176 = 1 then ((state_Verdict.f t144 y154).bind fun t177 => (if t177 = 3 then ((state_Verdict.f t144 y157).bind fun t178 => (if t178 = 2 then ((state_Verdict.f t144 y148).bind fun t179 => (if t179 = 1 then ((state_Falling.f t144 y151 0 0).bind fun t180 => (some t180)) else (some false))) else (some false))) else (some false))) else (some false))) else (some false)) else (some false))) else (some false)) else (some false)) = some r := H
  have A5 := Aside0.mk A50
  clear A50
  by_cases c6 : t171 = true
  ·subst c6
   have H1 : (if t163 = 0 then ((argosylaw14_is.f k t164 (([1, 3, 0] : List Int))).bind fun t175 => (if t175 = true then (if t167 = 0 then ((state_At.f t144 y151 0).bind fun t176 => (if t176 = 1 then ((state_Verdict.f t144 y154).bind fun t177 => (if t177 = 3 then ((state_Verdict.f t144 y157).bind fun t178 => (if t178 = 2 then ((state_Verdict.f t144 y148).bind fun t179 => (if t179 = 1 then ((state_Falling.f t144 y151 0 0).bind fun t180 => (some t180)) else (some false))) else (some false))) else (some false))) else (some false))) else (some false)) else (some false))) else (some false)) = some r := by rw [if_pos rfl] at H; exact H
   clear H
   have H := H1
   clear H1
   by_cases c7 : t163 = 0
   ·rw [if_pos c7] at H
    have c7b0 : (t163 == 0) = true := beq_iff_eq.mpr c7
    have c7b1 : (t163 != 0) = false := bne_eq_false_iff_eq.mpr c7
    clear c7
    obtain ⟨y172, hy172⟩ : ∃ y_ : List Int, y_ = (([1, 3, 0] : List Int)) := ⟨_, rfl⟩
    replace H : ((argosylaw14_is.f k t164 y172).bind fun t175 => (if t175 = true then (if t167 = 0 then ((state_At.f t144 y151 0).bind fun t176 => (if t176 = 1 then ((state_Verdict.f t144 y154).bind fun t177 => (if t177 = 3 then ((state_Verdict.f t144 y157).bind fun t178 => (if t178 = 2 then ((state_Verdict.f t144 y148).bind fun t179 => (if t179 = 1 then ((state_Falling.f t144 y151 0 0).bind fun t180 => (some t180)) else (some false))) else (some false))) else (some false))) else (some false))) else (some false)) else (some false))) = some r := by first | (rw [hy172]; with_reducible exact H) | (have H2_ := (Option.bind_some _ _).symm.trans H; rw [hy172]; with_reducible exact H2_) | (have H2_ := (Option.bind_some _ _).symm.trans H; with_reducible exact H2_) | with_reducible exact H | (rw [hy172]; exact H) | exact H
    have Ny172 := Aside0.mk hy172
    clear hy172
    replace H := Option.bind_eq_some_iff.mp H
    obtain ⟨t175, A80, H⟩ := H
    replace H : (if t175 = true then (if t167 = 0 then ((state_At.f t144 y151 0).bind fun t176 => (if t176 = 1 then ((state_Verdict.f t144 y154).bind fun t177 => (if t177 = 3 then ((state_Verdict.f t144 y157).bind fun t178 => (if t178 = 2 then ((state_Verdict.f t144 y148).bind fun t179 => (if t179 = 1 then ((state_Falling.f t144 y151 0 0).bind fun t180 => (some t180)) else (some false))) else (some false))) else (some false))) else (some false))) else (some false)) else (some false)) = some r := H
    have A8 := Aside0.mk A80
    clear A80
    by_cases c9 : t175 = true
    ·subst c9
     have H1 : (if t167 = 0 then ((state_At.f t144 y151 0).bind fun t176 => (if t176 = 1 then ((state_Verdict.f t144 y154).bind fun t177 => (if t177 = 3 then ((state_Verdict.f t144 y157).bind fun t178 => (if t178 = 2 then ((state_Verdict.f t144 y148).bind fun t179 => (if t179 = 1 then ((state_Falling.f t144 y151 0 0).bind fun t180 => (some t180)) else (some false))) else (some false))) else (some false))) else (some false))) else (some false)) = some r := by rw [if_pos rfl] at H; exact H
     clear H
     have H := H1
     clear H1
     by_cases c10 : t167 = 0
     ·rw [if_pos c10] at H
      have c10b0 : (t167 == 0) = true := beq_iff_eq.mpr c10
      have c10b1 : (t167 != 0) = false := bne_eq_false_iff_eq.mpr c10
      clear c10
      replace H := Option.bind_eq_some_iff.mp H
      obtain ⟨t176, A110, H⟩ := H
      replace H : (if t176 = 1 then ((state_Verdict.f t144 y154).bind fun t177 => (if t177 = 3 then ((state_Verdict.f t144 y157).bind fun t178 => (if t178 = 2 then ((state_Verdict.f t144 y148).bind fun t179 => (if t179 = 1 then ((state_Falling.f t144 y151 0 0).bind fun t180 => (some t180)) else (some false))) else (some false))) else (some false))) else (some false)) = some r := H
      have A11 := Aside0.mk A110
      clear A110
      by_cases c12 : t176 = 1
      ·rw [if_pos c12] at H
       have c12b0 : (t176 == 1) = true := beq_iff_eq.mpr c12
       have c12b1 : (t176 != 1) = false := bne_eq_false_iff_eq.mpr c12
       clear c12
       replace H := Option.bind_eq_some_iff.mp H
       obtain ⟨t177, A130, H⟩ := H
       replace H : (if t177 = 3 then ((state_Verdict.f t144 y157).bind fun t178 => (if t178 = 2 then ((state_Verdict.f t144 y148).bind fun t179 => (if t179 = 1 then ((state_Falling.f t144 y151 0 0).bind fun t180 => (some t180)) else (some false))) else (some false))) else (some false)) = some r := H
       have A13 := Aside0.mk A130
       clear A130
       by_cases c14 : t177 = 3
       ·rw [if_pos c14] at H
        have c14b0 : (t177 == 3) = true := beq_iff_eq.mpr c14
        have c14b1 : (t177 != 3) = false := bne_eq_false_iff_eq.mpr c14
        clear c14
        replace H := Option.bind_eq_some_iff.mp H
        obtain ⟨t178, A150, H⟩ := H
        replace H : (if t178 = 2 then ((state_Verdict.f t144 y148).bind fun t179 => (if t179 = 1 then ((state_Falling.f t144 y151 0 0).bind fun t180 => (some t180)) else (some false))) else (some false)) = some r := H
        have A15 := Aside0.mk A150
        clear A150
        by_cases c16 : t178 = 2
        ·rw [if_pos c16] at H
         have c16b0 : (t178 == 2) = true := beq_iff_eq.mpr c16
         have c16b1 : (t178 != 2) = false := bne_eq_false_iff_eq.mpr c16
         clear c16
         replace H := Option.bind_eq_some_iff.mp H
         obtain ⟨t179, A170, H⟩ := H
         replace H : (if t179 = 1 then ((state_Falling.f t144 y151 0 0).bind fun t180 => (some t180)) else (some false)) = some r := H
         have A17 := Aside0.mk A170
         clear A170
         by_cases c18 : t179 = 1
         ·rw [if_pos c18] at H
          have c18b0 : (t179 == 1) = true := beq_iff_eq.mpr c18
          have c18b1 : (t179 != 1) = false := bne_eq_false_iff_eq.mpr c18
          clear c18
          replace H := Option.bind_eq_some_iff.mp H
          obtain ⟨t180, A190, H⟩ := H
          replace H : (some t180) = some r := H
          have A19 := Aside0.mk A190
          clear A190
          obtain rfl := Option.some.inj H
          go_enter Try.func8, Try.ntmps8
          go_wp2_with (first | ((with_reducible refine gate_callee (f := 23) rfl ?_); refine goesL_ (some 10) rfl rfl Try.func23 (by kernel_rfl) rfl #[] rfl (by (try simp only [List.map_toArray, List.map_cons, List.map_nil]); first | done | rfl | (simp only [List.length_drop, List.length_take]; rfl)) ?_; (with_reducible refine (argosylaw14_either.calls  t144 _ A1.out).mono ?_); rintro e w20 ⟨v145, rfl, ho0, hb⟩; refine ⟨_, rfl, ?_⟩; have n0_ := Aside0.mk (Kd.N_lower (Kd.N_mono (ok' := fun k_ => True) ho0 (fun k_ hk_ => trivial)) (below_size (by repeat (first | (with_reducible first | exact HB.out | apply below_alloc | apply pw_below_drewN | apply below_drew1) | exact HB.out)))); have n1_ := Aside0.mk (below_step (by repeat (first | (with_reducible first | exact HB.out | apply below_alloc | apply pw_below_drewN | apply below_drew1) | exact HB.out)) hb); clear HB; have HO146 := n0_; have HB := n1_; clear n0_ n1_; (try clear hb); (try clear hb2); (try clear hk); (try clear hi); (try clear ho0)) | ((with_reducible refine gate_dst (N := 1) rfl ?_); (try (refine gate_guard (by rfl) ?_; dsimp only)); refine box_event ?hg (N := 1) ?hd (cs := #[.slice none 0 0]) (t := 24) ?hr ?_; (case hd => rfl); (case hg => rfl); (case hr => first | (go_simp; done) | (go_simp; rfl)); intro gb147 hg w21 hbox hb; have n0_ := Aside0.mk (Kd.N_below (Kd.N_elderB (by (with_reducible repeat (first | apply Kd.N_alloc | apply Kd.N_drewN | apply Kd.N_drew)); exact HO146.out) gb147 (Nat.le_of_eq hg.symm)) hb); have n1_ := Aside0.mk (below_step (by repeat (first | (with_reducible first | exact HB.out | apply below_alloc | apply pw_below_drewN | apply below_drew1) | exact HB.out)) hb); have n2_ := Aside0.mk (hbox); have n3_ := Aside0.mk ((by rw [hg]; exact (below_size (by repeat (first | (with_reducible first | exact HB.out | apply below_alloc | apply pw_below_drewN | apply below_drew1) | exact HB.out))) : w.heap.size ≤ gb147)); have n4_ := Aside0.mk ((by rw [hg]; exact (below_size (by repeat (first | (with_reducible first | exact HB.out | apply below_alloc | apply pw_below_drewN | apply below_drew1) | exact HB.out))) : w.heap.size ≤ gb147)); clear HO146; clear HB; have HO146 := n0_; have HB := n1_; have BK147 := n2_; have GW147 := n3_; have GE147 := n4_; clear n0_ n1_ n2_ n3_ n4_; clear hb hbox hg; obtain ⟨Ao22, co22, eo22⟩ := Kd.N_slice HO146.out; subst eo22; have hcz23_0 : w21.cell? ⟨gb147, 0, none⟩ = some (.slice none 0 0) := (blk_cell BK147.out 0).trans rfl; have hfz23_0 := blk_frozen BK147.out 0) | ((with_reducible refine gate_dst (N := 11) rfl ?_); (try (refine gate_guard (by rfl) ?_; dsimp only)); refine Kd.R_make k59 _ 59 rfl (N := 11) rfl 25 _ _ rfl 3 rfl rfl Try.underlying25 (.agg #[(.int .i64 0), (.int .i64 0), (.int .i64 0), (.bool false)]) 32 info59 rfl (by decide) (by omega) z59 (ok := fun _ => True) (okp := fun _ => True) (k59_mkM _ _ _ z59 ) (fun _ hk => hk) trivial (by omega) (by omega) (Below.refl _ _) (Nat.le_refl _) ?_; intro v149 w24 ho25 hb hg_ hnew_; clear hg_ hnew_; (first | rw [← Ny148.out] at ho25 | (simp only [Int.reduceToNat] at ho25; rw [← Ny148.out] at ho25)); have n0_ := Aside0.mk (Kd.N_elder' (by (with_reducible repeat (first | apply Kd.N_alloc | apply Kd.N_drewN | apply Kd.N_drew)); exact (Kd.N_mono (Kd.N_far (p := ⟨gb147, 0, none⟩) (Kd.N_mono HO146.out (fun k_ hk => (⟨hk, hk.2⟩ : _ ∧ k_ ≠ gb147))) (fun _ hk => hk.2) (.slice Ao22 t144.length co22)) (fun _ h_ => h_.1))) (Kd.R_base ho25) hb); have n1_ := Aside0.mk (Kd.R_lower ho25 (below_size (by repeat (first | (with_reducible first | exact HB.out | apply below_alloc | apply pw_below_drewN | apply below_drew1 | refine below_set ?_ GE147.out) | exact HB.out)))); have n2_ := Aside0.mk (blk_below (g := gb147) (o := .cells #[.slice Ao22 t144.length co22] 24 (0, 0)) (by (with_reducible repeat (first | refine blk_drewN ?_ _ | refine blk_drew ?_ | refine blk_alloc ?_ _)); refine blk_put (cs := #[.slice none 0 0]) ?_ 0 _ rfl; (with_reducible repeat (first | refine blk_drewN ?_ _ | refine blk_drew ?_ | refine blk_alloc ?_ _)); exact BK147.out) hb); have n3_ := Aside0.mk (below_step (by repeat (first | (with_reducible first | exact HB.out | apply below_alloc | apply pw_below_drewN | apply below_drew1 | refine below_set ?_ GE147.out) | exact HB.out)) hb); clear HO146; clear BK147; clear HB; have HO146 := n0_; have HO150 := n1_; have BK147 := n2_; have HB := n3_; clear n0_ n1_ n2_ n3_; clear hb ho25) | ((with_reducible refine gate_dst (N := 15) rfl ?_); (try (refine gate_guard (by rfl) ?_; dsimp only)); refine Kd.R_lit k59 _ 59 ?hg (N := 15) ?hd (xs := ([(⟨0, 0, 0, false⟩ : S59), (⟨3, 0, 0, false⟩ : S59), (⟨0, 0, 0, false⟩ : S59)] : List (S59))) (inner := [.int .i64 0, .int .i64 0, .int .i64 0, .bool false, .int .i64 3, .int .i64 0, .int .i64 0, .bool false, .int .i64 0, .int .i64 0, .int .i64 0, .bool false]) (ok := fun _ => True) (okp := fun _ => True) ?hr ?hp (fun _ hk => hk) trivial (Below.refl _ _) (Nat.le_refl _) (by simp) ?_; (case hd => rfl); (case hg => rfl); (case hr => first | (go_simp; done) | (go_simp; rfl)); (case hp => exact (Reps.c4 (show Kd.M k59 _ _ _ (⟨0, 0, 0, false⟩ : S59) [.int .i64 0, .int .i64 0, .int .i64 0, .bool false] from (k59_mkM _ _ _ (⟨0, 0, 0, false⟩ : S59) )) (Reps.c4 (show Kd.M k59 _ _ _ (⟨3, 0, 0, false⟩ : S59) [.int .i64 3, .int .i64 0, .int .i64 0, .bool false] from (k59_mkM _ _ _ (⟨3, 0, 0, false⟩ : S59) )) (Reps.c4 (show Kd.M k59 _ _ _ (⟨0, 0, 0, false⟩ : S59) [.int .i64 0, .int .i64 0, .int .i64 0, .bool false] from (k59_mkM _ _ _ (⟨0, 0, 0, false⟩ : S59) )) (Reps.none _ _))))); intro v152 w26 ho27 hb hg_ hnew_; clear hg_ hnew_; (first | rw [← Ny151.out] at ho27 | (simp only [Int.reduceToNat] at ho27; rw [← Ny151.out] at ho27)); have n0_ := Aside0.mk (Kd.N_elder' (by (with_reducible repeat (first | apply Kd.N_alloc | apply Kd.N_drewN | apply Kd.N_drew)); exact HO146.out) (Kd.R_base ho27) hb); have n1_ := Aside0.mk (Kd.R_elder' (by (with_reducible repeat (first | apply Kd.R_alloc | apply Kd.R_drewN | apply Kd.R_drew)); exact HO150.out) (Kd.R_base ho27) hb); have n2_ := Aside0.mk (Kd.R_lower (Kd.R_new' ho27 (Kd.R_lt (by (with_reducible repeat (first | apply Kd.R_alloc | apply Kd.R_drewN | apply Kd.R_drew)); exact HO150.out))) (below_size (by repeat (first | (with_reducible first | exact HB.out | apply below_alloc | apply pw_below_drewN | apply below_drew1 | refine below_set ?_ GE147.out) | exact HB.out)))); have n3_ := Aside0.mk (blk_below (g := gb147) (o := .cells #[.slice Ao22 t144.length co22] 24 (0, 0)) (by (with_reducible repeat (first | refine blk_drewN ?_ _ | refine blk_drew ?_ | refine blk_alloc ?_ _)); exact BK147.out) hb); have n4_ := Aside0.mk (below_step (by repeat (first | (with_reducible first | exact HB.out | apply below_alloc | apply pw_below_drewN | apply below_drew1 | refine below_set ?_ GE147.out) | exact HB.out)) hb); clear HO146; clear HO150; clear BK147; clear HB; have HO146 := n0_; have HO150 := n1_; have HO153 := n2_; have BK147 := n3_; have HB := n4_; clear n0_ n1_ n2_ n3_ n4_; clear hb ho27) | ((with_reducible refine gate_dst (N := 19) rfl ?_); (try (refine gate_guard (by rfl) ?_; dsimp only)); refine Kd.R_lit k59 _ 59 ?hg (N := 19) ?hd (xs := ([(⟨0, 0, 0, false⟩ : S59), (⟨3, 0, 0, false⟩ : S59), (⟨3, 0, 0, false⟩ : S59)] : List (S59))) (inner := [.int .i64 0, .int .i64 0, .int .i64 0, .bool false, .int .i64 3, .int .i64 0, .int .i64 0, .bool false, .int .i64 3, .int .i64 0, .int .i64 0, .bool false]) (ok := fun _ => True) (okp := fun _ => True) ?hr ?hp (fun _ hk => hk) trivial (Below.refl _ _) (Nat.le_refl _) (by simp) ?_; (case hd => rfl); (case hg => rfl); (case hr => first | (go_simp; done) | (go_simp; rfl)); (case hp => exact (Reps.c4 (show Kd.M k59 _ _ _ (⟨0, 0, 0, false⟩ : S59) [.int .i64 0, .int .i64 0, .int .i64 0, .bool false] from (k59_mkM _ _ _ (⟨0, 0, 0, false⟩ : S59) )) (Reps.c4 (show Kd.M k59 _ _ _ (⟨3, 0, 0, false⟩ : S59) [.int .i64 3, .int .i64 0, .int .i64 0, .bool false] from (k59_mkM _ _ _ (⟨3, 0, 0, false⟩ : S59) )) (Reps.c4 (show Kd.M k59 _ _ _ (⟨3, 0, 0, false⟩ : S59) [.int .i64 3, .int .i64 0, .int .i64 0, .bool false] from (k59_mkM _ _ _ (⟨3, 0, 0, false⟩ : S59) )) (Reps.none _ _))))); intro v155 w28 ho29 hb hg_ hnew_; clear hg_ hnew_; (first | rw [← Ny154.out] at ho29 | (simp only [Int.reduceToNat] at ho29; rw [← Ny154.out] at ho29)); have n0_ := Aside0.mk (Kd.N_elder' (by (with_reducible repeat (first | apply Kd.N_alloc | apply Kd.N_drewN | apply Kd.N_drew)); exact HO146.out) (Kd.R_base ho29) hb); have n1_ := Aside0.mk (Kd.R_elder' (by (with_reducible repeat (first | apply Kd.R_alloc | apply Kd.R_drewN | apply Kd.R_drew)); exact HO150.out) (Kd.R_base ho29) hb); have n2_ := Aside0.mk (Kd.R_elder' (by (with_reducible repeat (first | apply Kd.R_alloc | apply Kd.R_drewN | apply Kd.R_drew)); exact HO153.out) (Kd.R_base ho29) hb); have n3_ := Aside0.mk (Kd.R_lower (Kd.R_new' (Kd.R_new' ho29 (Kd.R_lt (by (with_reducible repeat (first | apply Kd.R_alloc | apply Kd.R_drewN | apply Kd.R_drew)); exact HO150.out))) (Kd.R_lt (by (with_reducible repeat (first | apply Kd.R_alloc | apply Kd.R_drewN | apply Kd.R_drew)); exact HO153.out))) (below_size (by repeat (first | (with_reducible first | exact HB.out | apply below_alloc | apply pw_below_drewN | apply below_drew1 | refine below_set ?_ GE147.out) | exact HB.out)))); have n4_ := Aside0.mk (blk_below (g := gb147) (o := .cells #[.slice Ao22 t144.length co22] 24 (0, 0)) (by (with_reducible repeat (first | refine blk_drewN ?_ _ | refine blk_drew ?_ | refine blk_alloc ?_ _)); exact BK147.out) hb); have n5_ := Aside0.mk (below_step (by repeat (first | (with_reducible first | exact HB.out | apply below_alloc | apply pw_below_drewN | apply below_drew1 | refine below_set ?_ GE147.out) | exact HB.out)) hb); clear HO146; clear HO150; clear HO153; clear BK147; clear HB; have HO146 := n0_; have HO150 := n1_; have HO153 := n2_; have HO156 := n3_; have BK147 := n4_; have HB := n5_; clear n0_ n1_ n2_ n3_ n4_ n5_; clear hb ho29) | ((with_reducible refine gate_dst (N := 23) rfl ?_); (try (refine gate_guard (by rfl) ?_; dsimp only)); refine Kd.R_lit k59 _ 59 ?hg (N := 23) ?hd (xs := ([(⟨0, 0, 0, false⟩ : S59), (⟨3, 0, 0, false⟩ : S59), (⟨2, 0, 0, false⟩ : S59)] : List (S59))) (inner := [.int .i64 0, .int .i64 0, .int .i64 0, .bool false, .int .i64 3, .int .i64 0, .int .i64 0, .bool false, .int .i64 2, .int .i64 0, .int .i64 0, .bool false]) (ok := fun _ => True) (okp := fun _ => True) ?hr ?hp (fun _ hk => hk) trivial (Below.refl _ _) (Nat.le_refl _) (by simp) ?_; (case hd => rfl); (case hg => rfl); (case hr => first | (go_simp; done) | (go_simp; rfl)); (case hp => exact (Reps.c4 (show Kd.M k59 _ _ _ (⟨0, 0, 0, false⟩ : S59) [.int .i64 0, .int .i64 0, .int .i64 0, .bool false] from (k59_mkM _ _ _ (⟨0, 0, 0, false⟩ : S59) )) (Reps.c4 (show Kd.M k59 _ _ _ (⟨3, 0, 0, false⟩ : S59) [.int .i64 3, .int .i64 0, .int .i64 0, .bool false] from (k59_mkM _ _ _ (⟨3, 0, 0, false⟩ : S59) )) (Reps.c4 (show Kd.M k59 _ _ _ (⟨2, 0, 0, false⟩ : S59) [.int .i64 2, .int .i64 0, .int .i64 0, .bool false] from (k59_mkM _ _ _ (⟨2, 0, 0, false⟩ : S59) )) (Reps.none _ _))))); intro v158 w30 ho31 hb hg_ hnew_; clear hg_ hnew_; (first | rw [← Ny157.out] at ho31 | (simp only [Int.reduceToNat] at ho31; rw [← Ny157.out] at ho31)); have n0_ := Aside0.mk (Kd.N_elder' (by (with_reducible repeat (first | apply Kd.N_alloc | apply Kd.N_drewN | apply Kd.N_drew)); exact HO146.out) (Kd.R_base ho31) hb); have n1_ := Aside0.mk (Kd.R_elder' (by (with_reducible repeat (first | apply Kd.R_alloc | apply Kd.R_drewN | apply Kd.R_drew)); exact HO150.out) (Kd.R_base ho31) hb); have n2_ := Aside0.mk (Kd.R_elder' (by (with_reducible repeat (first | apply Kd.R_alloc | apply Kd.R_drewN | apply Kd.R_drew)); exact HO153.out) (Kd.R_base ho31) hb); have n3_ := Aside0.mk (Kd.R_elder' (by (with_reducible repeat (first | apply Kd.R_alloc | apply Kd.R_drewN | apply Kd.R_drew)); exact HO156.out) (Kd.R_base ho31) hb); have n4_ := Aside0.mk (Kd.R_lower (Kd.R_new' (Kd.R_new' (Kd.R_new' ho31 (Kd.R_lt (by (with_reducible repeat (first | apply Kd.R_alloc | apply Kd.R_drewN | apply Kd.R_drew)); exact HO150.out))) (Kd.R_lt (by (with_reducible repeat (first | apply Kd.R_alloc | apply Kd.R_drewN | apply Kd.R_drew)); exact HO153.out))) (Kd.R_lt (by (with_reducible repeat (first | apply Kd.R_alloc | apply Kd.R_drewN | apply Kd.R_drew)); exact HO156.out))) (below_size (by repeat (first | (with_reducible first | exact HB.out | apply below_alloc | apply pw_below_drewN | apply below_drew1 | refine below_set ?_ GE147.out) | exact HB.out)))); have n5_ := Aside0.mk (blk_below (g := gb147) (o := .cells #[.slice Ao22 t144.length co22] 24 (0, 0)) (by (with_reducible repeat (first | refine blk_drewN ?_ _ | refine blk_drew ?_ | refine blk_alloc ?_ _)); exact BK147.out) hb); have n6_ := Aside0.mk (below_step (by repeat (first | (with_reducible first | exact HB.out | apply below_alloc | apply pw_below_drewN | apply below_drew1 | refine below_set ?_ GE147.out) | exact HB.out)) hb); clear HO146; clear HO150; clear HO153; clear HO156; clear BK147; clear HB; have HO146 := n0_; have HO150 := n1_; have HO153 := n2_; have HO156 := n3_; have HO159 := n4_; have BK147 := n5_; have HB := n6_; clear n0_ n1_ n2_ n3_ n4_ n5_ n6_; clear hb ho31; have hcz32_0 : w30.cell? ⟨gb147, 0, none⟩ = some (.slice Ao22 t144.length co22) := (blk_cell BK147.out 0).trans rfl; have hfz32_0 := blk_frozen BK147.out 0; obtain ⟨Ao33, co33, eo33⟩ := Kd.R_slice HO150.out; subst eo33) | ((with_reducible refine gate_callee (f := 9) rfl ?_); refine goesL_ (some 27) rfl rfl Try.func9 (by kernel_rfl) rfl #[.agg #[.slice Ao22 t144.length co22], .slice Ao33 y148.length co33] rfl (by (try simp only [List.map_toArray, List.map_cons, List.map_nil]); first | done | rfl | (simp only [List.length_drop, List.length_take]; rfl)) ?_; (with_reducible refine (state_All.calls _ _ t144 _ _ y148 t160 t163 _ ?side1 ?side2 ?side3 ?side4 A3.out).mono ?_); (case side1 => repeat (first | exact (Kd.N_reads' HO146.out).2.2 | (with_reducible refine Kd.C_alloc ?_ _) | (with_reducible refine Kd.C_drewN ?_ _) | (with_reducible refine Kd.C_drew ?_))); (case side2 => exact (Kd.N_reads' HO146.out).2.1); (case side3 => repeat (first | exact (Kd.R_reads' HO150.out).2.2 | (with_reducible refine Kd.C_alloc ?_ _) | (with_reducible refine Kd.C_drewN ?_ _) | (with_reducible refine Kd.C_drew ?_))); (case side4 => exact (Kd.R_reads' HO150.out).2.1); rintro e w34 ⟨v161, rfl, ho0, hb⟩; refine ⟨_, rfl, ?_⟩; have n0_ := Aside0.mk (Kd.N_elder' (by (with_reducible repeat (first | apply Kd.N_alloc | apply Kd.N_drewN | apply Kd.N_drew)); exact HO146.out) (Kd.R_base ho0) hb); have n1_ := Aside0.mk (Kd.R_below (by (with_reducible repeat (first | apply Kd.R_alloc | apply Kd.R_drewN | apply Kd.R_drew)); exact HO150.out) hb); have n2_ := Aside0.mk (Kd.R_below (by (with_reducible repeat (first | apply Kd.R_alloc | apply Kd.R_drewN | apply Kd.R_drew)); exact HO153.out) hb); have n3_ := Aside0.mk (Kd.R_below (by (with_reducible repeat (first | apply Kd.R_alloc | apply Kd.R_drewN | apply Kd.R_drew)); exact HO156.out) hb); have n4_ := Aside0.mk (Kd.R_below (by (with_reducible repeat (first | apply Kd.R_alloc | apply Kd.R_drewN | apply Kd.R_drew)); exact HO159.out) hb); have n5_ := Aside0.mk (Kd.R_lower ho0 (below_size (by repeat (first | (with_reducible first | exact HB.out | apply below_alloc | apply pw_below_drewN | apply below_drew1 | refine below_set ?_ GE147.out) | exact HB.out)))); have n6_ := Aside0.mk (blk_below (g := gb147) (o := .cells #[.slice Ao22 t144.length co22] 24 (0, 0)) (by (with_reducible repeat (first | refine blk_drewN ?_ _ | refine blk_drew ?_ | refine blk_alloc ?_ _)); exact BK147.out) hb); have n7_ := Aside0.mk (below_step (by repeat (first | (with_reducible first | exact HB.out | apply below_alloc | apply pw_below_drewN | apply below_drew1 | refine below_set ?_ GE147.out) | exact HB.out)) hb); clear HO146; clear HO150; clear HO153; clear HO156; clear HO159; clear BK147; clear HB; have HO146 := n0_; have HO150 := n1_; have HO153 := n2_; have HO156 := n3_; have HO159 := n4_; have HO162 := n5_; have BK147 := n6_; have HB := n7_; clear n0_ n1_ n2_ n3_ n4_ n5_ n6_ n7_; (try clear hb); (try clear hb2); (try clear hk); (try clear hi); (try clear ho0); have hcz35_0 : w34.cell? ⟨gb147, 0, none⟩ = some (.slice Ao22 t144.length co22) := (blk_cell BK147.out 0).trans rfl; have hfz35_0 := blk_frozen BK147.out 0; obtain ⟨Ao36, co36, eo36⟩ := Kd.R_slice HO153.out; subst eo36) | ((with_reducible refine gate_callee (f := 9) rfl ?_); refine goesL_ (some 33) rfl rfl Try.func9 (by kernel_rfl) rfl #[.agg #[.slice Ao22 t144.length co22], .slice Ao36 y151.length co36] rfl (by (try simp only [List.map_toArray, List.map_cons, List.map_nil]); first | done | rfl | (simp only [List.length_drop, List.length_take]; rfl)) ?_; (with_reducible refine (state_All.calls _ _ t144 _ _ y151 t164 t167 _ ?side1 ?side2 ?side3 ?side4 A4.out).mono ?_); (case side1 => repeat (first | exact (Kd.N_reads' HO146.out).2.2 | (with_reducible refine Kd.C_alloc ?_ _) | (with_reducible refine Kd.C_drewN ?_ _) | (with_reducible refine Kd.C_drew ?_))); (case side2 => exact (Kd.N_reads' HO146.out).2.1); (case side3 => repeat (first | exact (Kd.R_reads' HO153.out).2.2 | (with_reducible refine Kd.C_alloc ?_ _) | (with_reducible refine Kd.C_drewN ?_ _) | (with_reducible refine Kd.C_drew ?_))); (case side4 => exact (Kd.R_reads' HO153.out).2.1); rintro e w37 ⟨v165, rfl, ho0, hb⟩; refine ⟨_, rfl, ?_⟩; have n0_ := Aside0.mk (Kd.N_elder' (by (with_reducible repeat (first | apply Kd.N_alloc | apply Kd.N_drewN | apply Kd.N_drew)); exact HO146.out) (Kd.R_base ho0) hb); have n1_ := Aside0.mk (Kd.R_below (by (with_reducible repeat (first | apply Kd.R_alloc | apply Kd.R_drewN | apply Kd.R_drew)); exact HO150.out) hb); have n2_ := Aside0.mk (Kd.R_below (by (with_reducible repeat (first | apply Kd.R_alloc | apply Kd.R_drewN | apply Kd.R_drew)); exact HO153.out) hb); have n3_ := Aside0.mk (Kd.R_below (by (with_reducible repeat (first | apply Kd.R_alloc | apply Kd.R_drewN | apply Kd.R_drew)); exact HO156.out) hb); have n4_ := Aside0.mk (Kd.R_below (by (with_reducible repeat (first | apply Kd.R_alloc | apply Kd.R_drewN | apply Kd.R_drew)); exact HO159.out) hb); have n5_ := Aside0.mk (Kd.R_elder' (by (with_reducible repeat (first | apply Kd.R_alloc | apply Kd.R_drewN | apply Kd.R_drew)); exact HO162.out) (Kd.R_base ho0) hb); have n6_ := Aside0.mk (Kd.R_lower (Kd.R_new' ho0 (Kd.R_lt (by (with_reducible repeat (first | apply Kd.R_alloc | apply Kd.R_drewN | apply Kd.R_drew)); exact HO162.out))) (below_size (by repeat (first | (with_reducible first | exact HB.out | apply below_alloc | apply pw_below_drewN | apply below_drew1 | refine below_set ?_ GE147.out) | exact HB.out)))); have n7_ := Aside0.mk (blk_below (g := gb147) (o := .cells #[.slice Ao22 t144.length co22] 24 (0, 0)) (by (with_reducible repeat (first | refine blk_drewN ?_ _ | refine blk_drew ?_ | refine blk_alloc ?_ _)); exact BK147.out) hb); have n8_ := Aside0.mk (below_step (by repeat (first | (with_reducible first | exact HB.out | apply below_alloc | apply pw_below_drewN | apply below_drew1 | refine below_set ?_ GE147.out) | exact HB.out)) hb); clear HO146; clear HO150; clear HO153; clear HO156; clear HO159; clear HO162; clear BK147; clear HB; have HO146 := n0_; have HO150 := n1_; have HO153 := n2_; have HO156 := n3_; have HO159 := n4_; have HO162 := n5_; have HO166 := n6_; have BK147 := n7_; have HB := n8_; clear n0_ n1_ n2_ n3_ n4_ n5_ n6_ n7_ n8_; (try clear hb); (try clear hb2); (try clear hk); (try clear hi); (try clear ho0)) | ((with_reducible refine gate_dst (N := 37) rfl ?_); (try (refine gate_guard (by rfl) ?_; dsimp only)); refine Kd.R_lit (Kd.int .i64) _ 32 ?hg (N := 37) ?hd (xs := ([0, 0, 0] : List Int)) (inner := [.int .i64 0, .int .i64 0, .int .i64 0]) (ok := fun _ => True) (okp := fun _ => True) ?hr ?hp (fun _ hk => hk) trivial (Below.refl _ _) (Nat.le_refl _) (by simp) ?_; (case hd => rfl); (case hg => rfl); (case hr => first | (go_simp; done) | (go_simp; rfl)); (case hp => exact (Reps.one (show Kd.M (Kd.int .i64) _ _ _ 0 [.int .i64 0] from rfl) (Reps.one (show Kd.M (Kd.int .i64) _ _ _ 0 [.int .i64 0] from rfl) (Reps.one (show Kd.M (Kd.int .i64) _ _ _ 0 [.int .i64 0] from rfl) (Reps.none _ _))))); intro v169 w38 ho39 hb hg_ hnew_; clear hg_ hnew_; (first | rw [← Ny168.out] at ho39 | (simp only [Int.reduceToNat] at ho39; rw [← Ny168.out] at ho39)); have n0_ := Aside0.mk (Kd.N_elder' (by (with_reducible repeat (first | apply Kd.N_alloc | apply Kd.N_drewN | apply Kd.N_drew)); exact HO146.out) (Kd.R_base ho39) hb); have n1_ := Aside0.mk (Kd.R_below (by (with_reducible repeat (first | apply Kd.R_alloc | apply Kd.R_drewN | apply Kd.R_drew)); exact HO150.out) hb); have n2_ := Aside0.mk (Kd.R_below (by (with_reducible repeat (first | apply Kd.R_alloc | apply Kd.R_drewN | apply Kd.R_drew)); exact HO153.out) hb); have n3_ := Aside0.mk (Kd.R_below (by (with_reducible repeat (first | apply Kd.R_alloc | apply Kd.R_drewN | apply Kd.R_drew)); exact HO156.out) hb); have n4_ := Aside0.mk (Kd.R_below (by (with_reducible repeat (first | apply Kd.R_alloc | apply Kd.R_drewN | apply Kd.R_drew)); exact HO159.out) hb); have n5_ := Aside0.mk (Kd.R_elder' (by (with_reducible repeat (first | apply Kd.R_alloc | apply Kd.R_drewN | apply Kd.R_drew)); exact HO162.out) (Kd.R_base ho39) hb); have n6_ := Aside0.mk (Kd.R_elder' (by (with_reducible repeat (first | apply Kd.R_alloc | apply Kd.R_drewN | apply Kd.R_drew)); exact HO166.out) (Kd.R_base ho39) hb); have n7_ := Aside0.mk (Kd.R_lower (Kd.R_new' (Kd.R_new' ho39 (Kd.R_lt (by (with_reducible repeat (first | apply Kd.R_alloc | apply Kd.R_drewN | apply Kd.R_drew)); exact HO162.out))) (Kd.R_lt (by (with_reducible repeat (first | apply Kd.R_alloc | apply Kd.R_drewN | apply Kd.R_drew)); exact HO166.out))) (below_size (by repeat (first | (with_reducible first | exact HB.out | apply below_alloc | apply pw_below_drewN | apply below_drew1 | refine below_set ?_ GE147.out) | exact HB.out)))); have n8_ := Aside0.mk (blk_below (g := gb147) (o := .cells #[.slice Ao22 t144.length co22] 24 (0, 0)) (by (with_reducible repeat (first | refine blk_drewN ?_ _ | refine blk_drew ?_ | refine blk_alloc ?_ _)); exact BK147.out) hb); have n9_ := Aside0.mk (below_step (by repeat (first | (with_reducible first | exact HB.out | apply below_alloc | apply pw_below_drewN | apply below_drew1 | refine below_set ?_ GE147.out) | exact HB.out)) hb); clear HO146; clear HO150; clear HO153; clear HO156; clear HO159; clear HO162; clear HO166; clear BK147; clear HB; have HO146 := n0_; have HO150 := n1_; have HO153 := n2_; have HO156 := n3_; have HO159 := n4_; have HO162 := n5_; have HO166 := n6_; have HO170 := n7_; have BK147 := n8_; have HB := n9_; clear n0_ n1_ n2_ n3_ n4_ n5_ n6_ n7_ n8_ n9_; clear hb ho39; obtain ⟨Ao40, co40, eo40⟩ := Kd.R_slice HO162.out; subst eo40; obtain ⟨Ao41, co41, eo41⟩ := Kd.R_slice HO170.out; subst eo41) | ((with_reducible refine gate_callee (f := 19) rfl ?_); refine goesL_ (some 38) rfl rfl Try.func19 (by kernel_rfl) rfl #[.slice Ao40 t160.length co40, .slice Ao41 y168.length co41] rfl (by (try simp only [List.map_toArray, List.map_cons, List.map_nil]); first | done | rfl | (simp only [List.length_drop, List.length_take]; rfl)) ?_; (with_reducible refine (argosylaw14_is.calls k _ _ t160 _ _ y168 true _ ?side1 ?side2 ?side3 ?side4 A5.out).mono ?_); (case side1 => repeat (first | exact (Kd.R_reads' HO162.out).2.2 | (with_reducible refine Kd.C_alloc ?_ _) | (with_reducible refine Kd.C_drewN ?_ _) | (with_reducible refine Kd.C_drew ?_))); (case side2 => exact (Kd.R_reads' HO162.out).2.1); (case side3 => repeat (first | exact (Kd.R_reads' HO170.out).2.2 | (with_reducible refine Kd.C_alloc ?_ _) | (with_reducible refine Kd.C_drewN ?_ _) | (with_reducible refine Kd.C_drew ?_))); (case side4 => exact (Kd.R_reads' HO170.out).2.1); rintro e w' ⟨rfl, ⟨nd, rfl⟩⟩; refine ⟨_, rfl, ?_⟩) | ((with_reducible refine gate_dst (N := 45) rfl ?_); (try (refine gate_guard (by rfl) ?_; dsimp only)); refine Kd.R_lit (Kd.int .i64) _ 32 ?hg (N := 45) ?hd (xs := ([1, 3, 0] : List Int)) (inner := [.int .i64 1, .int .i64 3, .int .i64 0]) (ok := fun _ => True) (okp := fun _ => True) ?hr ?hp (fun _ hk => hk) trivial (Below.refl _ _) (Nat.le_refl _) (by simp) ?_; (case hd => rfl); (case hg => rfl); (case hr => first | (go_simp; done) | (go_simp; rfl)); (case hp => exact (Reps.one (show Kd.M (Kd.int .i64) _ _ _ 1 [.int .i64 1] from rfl) (Reps.one (show Kd.M (Kd.int .i64) _ _ _ 3 [.int .i64 3] from rfl) (Reps.one (show Kd.M (Kd.int .i64) _ _ _ 0 [.int .i64 0] from rfl) (Reps.none _ _))))); intro v173 w42 ho43 hb hg_ hnew_; clear hg_ hnew_; (first | rw [← Ny172.out] at ho43 | (simp only [Int.reduceToNat] at ho43; rw [← Ny172.out] at ho43)); have n0_ := Aside0.mk (Kd.N_elder' (by (with_reducible repeat (first | apply Kd.N_alloc | apply Kd.N_drewN | apply Kd.N_drew)); exact HO146.out) (Kd.R_base ho43) hb); have n1_ := Aside0.mk (Kd.R_below (by (with_reducible repeat (first | apply Kd.R_alloc | apply Kd.R_drewN | apply Kd.R_drew)); exact HO150.out) hb); have n2_ := Aside0.mk (Kd.R_below (by (with_reducible repeat (first | apply Kd.R_alloc | apply Kd.R_drewN | apply Kd.R_drew)); exact HO153.out) hb); have n3_ := Aside0.mk (Kd.R_below (by (with_reducible repeat (first | apply Kd.R_alloc | apply Kd.R_drewN | apply Kd.R_drew)); exact HO156.out) hb); have n4_ := Aside0.mk (Kd.R_below (by (with_reducible repeat (first | apply Kd.R_alloc | apply Kd.R_drewN | apply Kd.R_drew)); exact HO159.out) hb); have n5_ := Aside0.mk (Kd.R_elder' (by (with_reducible repeat (first | apply Kd.R_alloc | apply Kd.R_drewN | apply Kd.R_drew)); exact HO162.out) (Kd.R_base ho43) hb); have n6_ := Aside0.mk (Kd.R_elder' (by (with_reducible repeat (first | apply Kd.R_alloc | apply Kd.R_drewN | apply Kd.R_drew)); exact HO166.out) (Kd.R_base ho43) hb); have n7_ := Aside0.mk (Kd.R_elder' (by (with_reducible repeat (first | apply Kd.R_alloc | apply Kd.R_drewN | apply Kd.R_drew)); exact HO170.out) (Kd.R_base ho43) hb); have n8_ := Aside0.mk (Kd.R_lower (Kd.R_new' (Kd.R_new' (Kd.R_new' ho43 (Kd.R_lt (by (with_reducible repeat (first | apply Kd.R_alloc | apply Kd.R_drewN | apply Kd.R_drew)); exact HO162.out))) (Kd.R_lt (by (with_reducible repeat (first | apply Kd.R_alloc | apply Kd.R_drewN | apply Kd.R_drew)); exact HO166.out))) (Kd.R_lt (by (with_reducible repeat (first | apply Kd.R_alloc | apply Kd.R_drewN | apply Kd.R_drew)); exact HO170.out))) (below_size (by repeat (first | (with_reducible first | exact HB.out | apply below_alloc | apply pw_below_drewN | apply below_drew1 | refine below_set ?_ GE147.out) | exact HB.out)))); have n9_ := Aside0.mk (blk_below (g := gb147) (o := .cells #[.slice Ao22 t144.length co22] 24 (0, 0)) (by (with_reducible repeat (first | refine blk_drewN ?_ _ | refine blk_drew ?_ | refine blk_alloc ?_ _)); exact BK147.out) hb); have n10_ := Aside0.mk (below_step (by repeat (first | (with_reducible first | exact HB.out | apply below_alloc | apply pw_below_drewN | apply below_drew1 | refine below_set ?_ GE147.out) | exact HB.out)) hb); clear HO146; clear HO150; clear HO153; clear HO156; clear HO159; clear HO162; clear HO166; clear HO170; clear BK147; clear HB; have HO146 := n0_; have HO150 := n1_; have HO153 := n2_; have HO156 := n3_; have HO159 := n4_; have HO162 := n5_; have HO166 := n6_; have HO170 := n7_; have HO174 := n8_; have BK147 := n9_; have HB := n10_; clear n0_ n1_ n2_ n3_ n4_ n5_ n6_ n7_ n8_ n9_ n10_; clear hb ho43; obtain ⟨Ao44, co44, eo44⟩ := Kd.R_slice HO166.out; subst eo44; obtain ⟨Ao45, co45, eo45⟩ := Kd.R_slice HO174.out; subst eo45) | (go_at_call 19; (with_reducible refine (argosylaw14_is.calls k _ _ t164 _ _ y172 true _ ?side1 ?side2 ?side3 ?side4 A8.out).mono ?_); (case side1 => repeat (first | exact (Kd.R_reads' HO166.out).2.2 | (with_reducible refine Kd.C_alloc ?_ _) | (with_reducible refine Kd.C_drewN ?_ _) | (with_reducible refine Kd.C_drew ?_))); (case side2 => exact (Kd.R_reads' HO166.out).2.1); (case side3 => repeat (first | exact (Kd.R_reads' HO174.out).2.2 | (with_reducible refine Kd.C_alloc ?_ _) | (with_reducible refine Kd.C_drewN ?_ _) | (with_reducible refine Kd.C_drew ?_))); (case side4 => exact (Kd.R_reads' HO174.out).2.1); rintro e w' ⟨rfl, ⟨nd, rfl⟩⟩; have hcz46_0 : w42.cell? ⟨gb147, 0, none⟩ = some (.slice Ao22 t144.length co22) := (blk_cell BK147.out 0).trans rfl; have hfz46_0 := blk_frozen BK147.out 0) | (go_at_call 12; (with_reducible refine (state_At.calls _ _ t144 _ _ y151 0 t176 _ ?side1 ?side2 ?side3 ?side4 A11.out).mono ?_); (case side1 => repeat (first | exact (Kd.N_reads' HO146.out).2.2 | (with_reducible refine Kd.C_alloc ?_ _) | (with_reducible refine Kd.C_drewN ?_ _) | (with_reducible refine Kd.C_drew ?_))); (case side2 => exact (Kd.N_reads' HO146.out).2.1); (case side3 => repeat (first | exact (Kd.R_reads' HO153.out).2.2 | (with_reducible refine Kd.C_alloc ?_ _) | (with_reducible refine Kd.C_drewN ?_ _) | (with_reducible refine Kd.C_drew ?_))); (case side4 => exact (Kd.R_reads' HO153.out).2.1); rintro e w47 ⟨rfl, hb⟩; have n0_ := Aside0.mk (Kd.N_below (by (with_reducible repeat (first | apply Kd.N_alloc | apply Kd.N_drewN | apply Kd.N_drew)); exact HO146.out) hb); have n1_ := Aside0.mk (Kd.R_below (by (with_reducible repeat (first | apply Kd.R_alloc | apply Kd.R_drewN | apply Kd.R_drew)); exact HO150.out) hb); have n2_ := Aside0.mk (Kd.R_below (by (with_reducible repeat (first | apply Kd.R_alloc | apply Kd.R_drewN | apply Kd.R_drew)); exact HO153.out) hb); have n3_ := Aside0.mk (Kd.R_below (by (with_reducible repeat (first | apply Kd.R_alloc | apply Kd.R_drewN | apply Kd.R_drew)); exact HO156.out) hb); have n4_ := Aside0.mk (Kd.R_below (by (with_reducible repeat (first | apply Kd.R_alloc | apply Kd.R_drewN | apply Kd.R_drew)); exact HO159.out) hb); have n5_ := Aside0.mk (Kd.R_below (by (with_reducible repeat (first | apply Kd.R_alloc | apply Kd.R_drewN | apply Kd.R_drew)); exact HO162.out) hb); have n6_ := Aside0.mk (Kd.R_below (by (with_reducible repeat (first | apply Kd.R_alloc | apply Kd.R_drewN | apply Kd.R_drew)); exact HO166.out) hb); have n7_ := Aside0.mk (Kd.R_below (by (with_reducible repeat (first | apply Kd.R_alloc | apply Kd.R_drewN | apply Kd.R_drew)); exact HO170.out) hb); have n8_ := Aside0.mk (Kd.R_below (by (with_reducible repeat (first | apply Kd.R_alloc | apply Kd.R_drewN | apply Kd.R_drew)); exact HO174.out) hb); have n9_ := Aside0.mk (blk_below (g := gb147) (o := .cells #[.slice Ao22 t144.length co22] 24 (0, 0)) (by (with_reducible repeat (first | refine blk_drewN ?_ _ | refine blk_drew ?_ | refine blk_alloc ?_ _)); exact BK147.out) hb); have n10_ := Aside0.mk (below_step (by repeat (first | (with_reducible first | exact HB.out | apply below_alloc | apply pw_below_drewN | apply below_drew1 | refine below_set ?_ GE147.out) | exact HB.out)) hb); clear HO146; clear HO150; clear HO153; clear HO156; clear HO159; clear HO162; clear HO166; clear HO170; clear HO174; clear BK147; clear HB; have HO146 := n0_; have HO150 := n1_; have HO153 := n2_; have HO156 := n3_; have HO159 := n4_; have HO162 := n5_; have HO166 := n6_; have HO170 := n7_; have HO174 := n8_; have BK147 := n9_; have HB := n10_; clear n0_ n1_ n2_ n3_ n4_ n5_ n6_ n7_ n8_ n9_ n10_; (try clear hb); (try clear hb2); (try clear hk); (try clear hi); have hcz48_0 : w47.cell? ⟨gb147, 0, none⟩ = some (.slice Ao22 t144.length co22) := (blk_cell BK147.out 0).trans rfl; have hfz48_0 := blk_frozen BK147.out 0; obtain ⟨Ao49, co49, eo49⟩ := Kd.R_slice HO156.out; subst eo49) | (go_at_call 10; (with_reducible refine (state_Verdict.calls _ _ t144 _ _ y154 t177 _ ?side1 ?side2 ?side3 ?side4 A13.out).mono ?_); (case side1 => repeat (first | exact (Kd.N_reads' HO146.out).2.2 | (with_reducible refine Kd.C_alloc ?_ _) | (with_reducible refine Kd.C_drewN ?_ _) | (with_reducible refine Kd.C_drew ?_))); (case side2 => exact (Kd.N_reads' HO146.out).2.1); (case side3 => repeat (first | exact (Kd.R_reads' HO156.out).2.2 | (with_reducible refine Kd.C_alloc ?_ _) | (with_reducible refine Kd.C_drewN ?_ _) | (with_reducible refine Kd.C_drew ?_))); (case side4 => exact (Kd.R_reads' HO156.out).2.1); rintro e w50 ⟨rfl, hb⟩; have n0_ := Aside0.mk (Kd.N_below (by (with_reducible repeat (first | apply Kd.N_alloc | apply Kd.N_drewN | apply Kd.N_drew)); exact HO146.out) hb); have n1_ := Aside0.mk (Kd.R_below (by (with_reducible repeat (first | apply Kd.R_alloc | apply Kd.R_drewN | apply Kd.R_drew)); exact HO150.out) hb); have n2_ := Aside0.mk (Kd.R_below (by (with_reducible repeat (first | apply Kd.R_alloc | apply Kd.R_drewN | apply Kd.R_drew)); exact HO153.out) hb); have n3_ := Aside0.mk (Kd.R_below (by (with_reducible repeat (first | apply Kd.R_alloc | apply Kd.R_drewN | apply Kd.R_drew)); exact HO156.out) hb); have n4_ := Aside0.mk (Kd.R_below (by (with_reducible repeat (first | apply Kd.R_alloc | apply Kd.R_drewN | apply Kd.R_drew)); exact HO159.out) hb); have n5_ := Aside0.mk (Kd.R_below (by (with_reducible repeat (first | apply Kd.R_alloc | apply Kd.R_drewN | apply Kd.R_drew)); exact HO162.out) hb); have n6_ := Aside0.mk (Kd.R_below (by (with_reducible repeat (first | apply Kd.R_alloc | apply Kd.R_drewN | apply Kd.R_drew)); exact HO166.out) hb); have n7_ := Aside0.mk (Kd.R_below (by (with_reducible repeat (first | apply Kd.R_alloc | apply Kd.R_drewN | apply Kd.R_drew)); exact HO170.out) hb); have n8_ := Aside0.mk (Kd.R_below (by (with_reducible repeat (first | apply Kd.R_alloc | apply Kd.R_drewN | apply Kd.R_drew)); exact HO174.out) hb); have n9_ := Aside0.mk (blk_below (g := gb147) (o := .cells #[.slice Ao22 t144.length co22] 24 (0, 0)) (by (with_reducible repeat (first | refine blk_drewN ?_ _ | refine blk_drew ?_ | refine blk_alloc ?_ _)); exact BK147.out) hb); have n10_ := Aside0.mk (below_step (by repeat (first | (with_reducible first | exact HB.out | apply below_alloc | apply pw_below_drewN | apply below_drew1 | refine below_set ?_ GE147.out) | exact HB.out)) hb); clear HO146; clear HO150; clear HO153; clear HO156; clear HO159; clear HO162; clear HO166; clear HO170; clear HO174; clear BK147; clear HB; have HO146 := n0_; have HO150 := n1_; have HO153 := n2_; have HO156 := n3_; have HO159 := n4_; have HO162 := n5_; have HO166 := n6_; have HO170 := n7_; have HO174 := n8_; have BK147 := n9_; have HB := n10_; clear n0_ n1_ n2_ n3_ n4_ n5_ n6_ n7_ n8_ n9_ n10_; (try clear hb); (try clear hb2); (try clear hk); (try clear hi); have hcz51_0 : w50.cell? ⟨gb147, 0, none⟩ = some (.slice Ao22 t144.length co22) := (blk_cell BK147.out 0).trans rfl; have hfz51_0 := blk_frozen BK147.out 0; obtain ⟨Ao52, co52, eo52⟩ := Kd.R_slice HO159.out; subst eo52) | (go_at_call 10; (with_reducible refine (state_Verdict.calls _ _ t144 _ _ y157 t178 _ ?side1 ?side2 ?side3 ?side4 A15.out).mono ?_); (case side1 => repeat (first | exact (Kd.N_reads' HO146.out).2.2 | (with_reducible refine Kd.C_alloc ?_ _) | (with_reducible refine Kd.C_drewN ?_ _) | (with_reducible refine Kd.C_drew ?_))); (case side2 => exact (Kd.N_reads' HO146.out).2.1); (case side3 => repeat (first | exact (Kd.R_reads' HO159.out).2.2 | (with_reducible refine Kd.C_alloc ?_ _) | (with_reducible refine Kd.C_drewN ?_ _) | (with_reducible refine Kd.C_drew ?_))); (case side4 => exact (Kd.R_reads' HO159.out).2.1); rintro e w53 ⟨rfl, hb⟩; have n0_ := Aside0.mk (Kd.N_below (by (with_reducible repeat (first | apply Kd.N_alloc | apply Kd.N_drewN | apply Kd.N_drew)); exact HO146.out) hb); have n1_ := Aside0.mk (Kd.R_below (by (with_reducible repeat (first | apply Kd.R_alloc | apply Kd.R_drewN | apply Kd.R_drew)); exact HO150.out) hb); have n2_ := Aside0.mk (Kd.R_below (by (with_reducible repeat (first | apply Kd.R_alloc | apply Kd.R_drewN | apply Kd.R_drew)); exact HO153.out) hb); have n3_ := Aside0.mk (Kd.R_below (by (with_reducible repeat (first | apply Kd.R_alloc | apply Kd.R_drewN | apply Kd.R_drew)); exact HO156.out) hb); have n4_ := Aside0.mk (Kd.R_below (by (with_reducible repeat (first | apply Kd.R_alloc | apply Kd.R_drewN | apply Kd.R_drew)); exact HO159.out) hb); have n5_ := Aside0.mk (Kd.R_below (by (with_reducible repeat (first | apply Kd.R_alloc | apply Kd.R_drewN | apply Kd.R_drew)); exact HO162.out) hb); have n6_ := Aside0.mk (Kd.R_below (by (with_reducible repeat (first | apply Kd.R_alloc | apply Kd.R_drewN | apply Kd.R_drew)); exact HO166.out) hb); have n7_ := Aside0.mk (Kd.R_below (by (with_reducible repeat (first | apply Kd.R_alloc | apply Kd.R_drewN | apply Kd.R_drew)); exact HO170.out) hb); have n8_ := Aside0.mk (Kd.R_below (by (with_reducible repeat (first | apply Kd.R_alloc | apply Kd.R_drewN | apply Kd.R_drew)); exact HO174.out) hb); have n9_ := Aside0.mk (blk_below (g := gb147) (o := .cells #[.slice Ao22 t144.length co22] 24 (0, 0)) (by (with_reducible repeat (first | refine blk_drewN ?_ _ | refine blk_drew ?_ | refine blk_alloc ?_ _)); exact BK147.out) hb); have n10_ := Aside0.mk (below_step (by repeat (first | (with_reducible first | exact HB.out | apply below_alloc | apply pw_below_drewN | apply below_drew1 | refine below_set ?_ GE147.out) | exact HB.out)) hb); clear HO146; clear HO150; clear HO153; clear HO156; clear HO159; clear HO162; clear HO166; clear HO170; clear HO174; clear BK147; clear HB; have HO146 := n0_; have HO150 := n1_; have HO153 := n2_; have HO156 := n3_; have HO159 := n4_; have HO162 := n5_; have HO166 := n6_; have HO170 := n7_; have HO174 := n8_; have BK147 := n9_; have HB := n10_; clear n0_ n1_ n2_ n3_ n4_ n5_ n6_ n7_ n8_ n9_ n10_; (try clear hb); (try clear hb2); (try clear hk); (try clear hi); have hcz54_0 : w53.cell? ⟨gb147, 0, none⟩ = some (.slice Ao22 t144.length co22) := (blk_cell BK147.out 0).trans rfl; have hfz54_0 := blk_frozen BK147.out 0) | (go_at_call 10; (with_reducible refine (state_Verdict.calls _ _ t144 _ _ y148 t179 _ ?side1 ?side2 ?side3 ?side4 A17.out).mono ?_); (case side1 => repeat (first | exact (Kd.N_reads' HO146.out).2.2 | (with_reducible refine Kd.C_alloc ?_ _) | (with_reducible refine Kd.C_drewN ?_ _) | (with_reducible refine Kd.C_drew ?_))); (case side2 => exact (Kd.N_reads' HO146.out).2.1); (case side3 => repeat (first | exact (Kd.R_reads' HO150.out).2.2 | (with_reducible refine Kd.C_alloc ?_ _) | (with_reducible refine Kd.C_drewN ?_ _) | (with_reducible refine Kd.C_drew ?_))); (case side4 => exact (Kd.R_reads' HO150.out).2.1); rintro e w55 ⟨rfl, hb⟩; have n0_ := Aside0.mk (Kd.N_below (by (with_reducible repeat (first | apply Kd.N_alloc | apply Kd.N_drewN | apply Kd.N_drew)); exact HO146.out) hb); have n1_ := Aside0.mk (Kd.R_below (by (with_reducible repeat (first | apply Kd.R_alloc | apply Kd.R_drewN | apply Kd.R_drew)); exact HO150.out) hb); have n2_ := Aside0.mk (Kd.R_below (by (with_reducible repeat (first | apply Kd.R_alloc | apply Kd.R_drewN | apply Kd.R_drew)); exact HO153.out) hb); have n3_ := Aside0.mk (Kd.R_below (by (with_reducible repeat (first | apply Kd.R_alloc | apply Kd.R_drewN | apply Kd.R_drew)); exact HO156.out) hb); have n4_ := Aside0.mk (Kd.R_below (by (with_reducible repeat (first | apply Kd.R_alloc | apply Kd.R_drewN | apply Kd.R_drew)); exact HO159.out) hb); have n5_ := Aside0.mk (Kd.R_below (by (with_reducible repeat (first | apply Kd.R_alloc | apply Kd.R_drewN | apply Kd.R_drew)); exact HO162.out) hb); have n6_ := Aside0.mk (Kd.R_below (by (with_reducible repeat (first | apply Kd.R_alloc | apply Kd.R_drewN | apply Kd.R_drew)); exact HO166.out) hb); have n7_ := Aside0.mk (Kd.R_below (by (with_reducible repeat (first | apply Kd.R_alloc | apply Kd.R_drewN | apply Kd.R_drew)); exact HO170.out) hb); have n8_ := Aside0.mk (Kd.R_below (by (with_reducible repeat (first | apply Kd.R_alloc | apply Kd.R_drewN | apply Kd.R_drew)); exact HO174.out) hb); have n9_ := Aside0.mk (blk_below (g := gb147) (o := .cells #[.slice Ao22 t144.length co22] 24 (0, 0)) (by (with_reducible repeat (first | refine blk_drewN ?_ _ | refine blk_drew ?_ | refine blk_alloc ?_ _)); exact BK147.out) hb); have n10_ := Aside0.mk (below_step (by repeat (first | (with_reducible first | exact HB.out | apply below_alloc | apply pw_below_drewN | apply below_drew1 | refine below_set ?_ GE147.out) | exact HB.out)) hb); clear HO146; clear HO150; clear HO153; clear HO156; clear HO159; clear HO162; clear HO166; clear HO170; clear HO174; clear BK147; clear HB; have HO146 := n0_; have HO150 := n1_; have HO153 := n2_; have HO156 := n3_; have HO159 := n4_; have HO162 := n5_; have HO166 := n6_; have HO170 := n7_; have HO174 := n8_; have BK147 := n9_; have HB := n10_; clear n0_ n1_ n2_ n3_ n4_ n5_ n6_ n7_ n8_ n9_ n10_; (try clear hb); (try clear hb2); (try clear hk); (try clear hi); have hcz56_0 : w55.cell? ⟨gb147, 0, none⟩ = some (.slice Ao22 t144.length co22) := (blk_cell BK147.out 0).trans rfl; have hfz56_0 := blk_frozen BK147.out 0) | (go_at_call 20; (with_reducible refine (state_Falling.calls _ _ t144 _ _ y151 0 0 t180 _ ?side1 ?side2 ?side3 ?side4 A19.out).mono ?_); (case side1 => repeat (first | exact (Kd.N_reads' HO146.out).2.2 | (with_reducible refine Kd.C_alloc ?_ _) | (with_reducible refine Kd.C_drewN ?_ _) | (with_reducible refine Kd.C_drew ?_))); (case side2 => exact (Kd.N_reads' HO146.out).2.1); (case side3 => repeat (first | exact (Kd.R_reads' HO153.out).2.2 | (with_reducible refine Kd.C_alloc ?_ _) | (with_reducible refine Kd.C_drewN ?_ _) | (with_reducible refine Kd.C_drew ?_))); (case side4 => exact (Kd.R_reads' HO153.out).2.1); rintro e w57 ⟨rfl, hb⟩; have n0_ := Aside0.mk (Kd.N_below (by (with_reducible repeat (first | apply Kd.N_alloc | apply Kd.N_drewN | apply Kd.N_drew)); exact HO146.out) hb); have n1_ := Aside0.mk (Kd.R_below (by (with_reducible repeat (first | apply Kd.R_alloc | apply Kd.R_drewN | apply Kd.R_drew)); exact HO150.out) hb); have n2_ := Aside0.mk (Kd.R_below (by (with_reducible repeat (first | apply Kd.R_alloc | apply Kd.R_drewN | apply Kd.R_drew)); exact HO153.out) hb); have n3_ := Aside0.mk (Kd.R_below (by (with_reducible repeat (first | apply Kd.R_alloc | apply Kd.R_drewN | apply Kd.R_drew)); exact HO156.out) hb); have n4_ := Aside0.mk (Kd.R_below (by (with_reducible repeat (first | apply Kd.R_alloc | apply Kd.R_drewN | apply Kd.R_drew)); exact HO159.out) hb); have n5_ := Aside0.mk (Kd.R_below (by (with_reducible repeat (first | apply Kd.R_alloc | apply Kd.R_drewN | apply Kd.R_drew)); exact HO162.out) hb); have n6_ := Aside0.mk (Kd.R_below (by (with_reducible repeat (first | apply Kd.R_alloc | apply Kd.R_drewN | apply Kd.R_drew)); exact HO166.out) hb); have n7_ := Aside0.mk (Kd.R_below (by (with_reducible repeat (first | apply Kd.R_alloc | apply Kd.R_drewN | apply Kd.R_drew)); exact HO170.out) hb); have n8_ := Aside0.mk (Kd.R_below (by (with_reducible repeat (first | apply Kd.R_alloc | apply Kd.R_drewN | apply Kd.R_drew)); exact HO174.out) hb); have n9_ := Aside0.mk (blk_below (g := gb147) (o := .cells #[.slice Ao22 t144.length co22] 24 (0, 0)) (by (with_reducible repeat (first | refine blk_drewN ?_ _ | refine blk_drew ?_ | refine blk_alloc ?_ _)); exact BK147.out) hb); have n10_ := Aside0.mk (below_step (by repeat (first | (with_reducible first | exact HB.out | apply below_alloc | apply pw_below_drewN | apply below_drew1 | refine below_set ?_ GE147.out) | exact HB.out)) hb); clear HO146; clear HO150; clear HO153; clear HO156; clear HO159; clear HO162; clear HO166; clear HO170; clear HO174; clear BK147; clear HB; have HO146 := n0_; have HO150 := n1_; have HO153 := n2_; have HO156 := n3_; have HO159 := n4_; have HO162 := n5_; have HO166 := n6_; have HO170 := n7_; have HO174 := n8_; have BK147 := n9_; have HB := n10_; clear n0_ n1_ n2_ n3_ n4_ n5_ n6_ n7_ n8_ n9_ n10_; (try clear hb); (try clear hb2); (try clear hk); (try clear hi)))
          go_ret
          exact ⟨by first | rfl | (simp [errW_none, errW_some] <;> rfl) | (simp [*, errW_none, errW_some] <;> rfl), by repeat (first | (with_reducible first | exact HB.out | apply below_alloc | apply pw_below_drewN | apply below_drew1 | refine below_set ?_ GE147.out) | exact HB.out)⟩
         ·rw [if_neg c18] at H
          have c18b0 : (t179 == 1) = false := beq_eq_false_iff_ne.mpr c18
          have c18b1 : (t179 != 1) = true := bne_iff_ne.mpr c18
          obtain rfl := Option.some.inj H
          exact absurd HR0.out (by decide)
        ·rw [if_neg c16] at H
         have c16b0 : (t178 == 2) = false := beq_eq_false_iff_ne.mpr c16
         have c16b1 : (t178 != 2) = true := bne_iff_ne.mpr c16
         obtain rfl := Option.some.inj H
         exact absurd HR0.out (by decide)
       ·rw [if_neg c14] at H
        have c14b0 : (t177 == 3) = false := beq_eq_false_iff_ne.mpr c14
        have c14b1 : (t177 != 3) = true := bne_iff_ne.mpr c14
        obtain rfl := Option.some.inj H
        exact absurd HR0.out (by decide)
      ·rw [if_neg c12] at H
       have c12b0 : (t176 == 1) = false := beq_eq_false_iff_ne.mpr c12
       have c12b1 : (t176 != 1) = true := bne_iff_ne.mpr c12
       obtain rfl := Option.some.inj H
       exact absurd HR0.out (by decide)
     ·rw [if_neg c10] at H
      have c10b0 : (t167 == 0) = false := beq_eq_false_iff_ne.mpr c10
      have c10b1 : (t167 != 0) = true := bne_iff_ne.mpr c10
      obtain rfl := Option.some.inj H
      exact absurd HR0.out (by decide)
    ·replace c9 := Bool.eq_false_iff.mpr c9
     subst c9
     have H1 : (some false) = some r := by rw [if_neg (show ¬ (false = true) by decide)] at H; exact H
     clear H
     have H := H1
     clear H1
     obtain rfl := Option.some.inj H
     exact absurd HR0.out (by decide)
   ·rw [if_neg c7] at H
    have c7b0 : (t163 == 0) = false := beq_eq_false_iff_ne.mpr c7
    have c7b1 : (t163 != 0) = true := bne_iff_ne.mpr c7
    obtain rfl := Option.some.inj H
    exact absurd HR0.out (by decide)
  ·replace c6 := Bool.eq_false_iff.mpr c6
   subst c6
   have H1 : (some false) = some r := by rw [if_neg (show ¬ (false = true) by decide)] at H; exact H
   clear H
   have H := H1
   clear H1
   obtain rfl := Option.some.inj H
   exact absurd HR0.out (by decide)
 ·rw [if_neg c2] at H
  exact absurd H (by simp)
theorem argosylaw14_lives.at_ : argosylaw14_lives.f 80 = some true := by decide +kernel
theorem argosylaw14_lives.up_ : ∀ (m k : Nat) (r : Bool), argosylaw14_lives.f k = some r → argosylaw14_lives.f (k + m) = some r
 | 0, _, _, h => h
 | m + 1, k, r, h => argosylaw14_lives.mono _ _ (argosylaw14_lives.up_ m k r h)
theorem argosylaw14_lives.only_ {k : Nat} {r : Bool} (h : argosylaw14_lives.f k = some r) : r = true := by
 have a := argosylaw14_lives.up_ 80 k r h
 have b := argosylaw14_lives.up_ k 80 true argosylaw14_lives.at_
 rw [Nat.add_comm] at b
 exact Option.some.inj (a.symm.trans b)
theorem argosylaw14_lives.calls (k : Nat)  (r : Bool) (w : World) (h : argosylaw14_lives.f k  = some r) :
  Calls Try.prog 8 #[] w fun e w' => e = .returned (.bool r) ∧ Below w.heap.size w w' := argosylaw14_lives.calls_ k r w (argosylaw14_lives.only_ h) h
end Go.Proofs.Ytihpndignekheaa.F
end

section
namespace Go.Proofs.Ytihpndignekheaa.Pure
set_option linter.unusedVariables false
open Go.RowKit Go.Proofs.Ytihpndignekheaa.F Go.Proofs.YtihpndignekheaaW.PrintWords Go.Proofs.YtihpndignekheaaW.PrintLast
theorem fine_iff (a b c : Int) (d : Bool) : fineB ⟨a, b, c, d⟩ = true ↔ (0 ≤ a ∧ a ≤ 3 ∧ 0 ≤ c ∧ c ≤ 3 ∧ (b = c ∨ b = c + 1) ∧ (b > 0 → a = 2) ∧ (d = true → b > c)) := by
 unfold fineB
 simp only [Bool.and_eq_true, Bool.or_eq_true, decide_eq_true_eq, Bool.not_eq_true', decide_eq_false_iff_not]
 constructor
 ·rintro ⟨⟨⟨⟨⟨⟨h1, h2⟩, h3⟩, h4⟩, h5⟩, h6⟩, h7⟩
  refine ⟨h1, h2, h3, h4, h5, fun h => ?_, fun h => ?_⟩
  ·rcases h6 with h6 | h6
   ·exact absurd h h6
   ·exact h6
  ·rcases h7 with h7 | h7
   ·rw [h] at h7; cases h7
   ·exact h7
 ·rintro ⟨h1, h2, h3, h4, h5, h6, h7⟩
  refine ⟨⟨⟨⟨⟨⟨h1, h2⟩, h3⟩, h4⟩, h5⟩, ?_⟩, ?_⟩
  ·by_cases h : b > 0
   ·exact .inr (h6 h)
   ·exact .inl h
  ·cases d
   ·exact .inl rfl
   ·exact .inr (h7 rfl)
theorem facts_iff (p : List S37) (l : List S59) : factsB p l = true ↔ (l.length = p.length ∧ rightB p = true ∧ ∀ j, j < l.length → factOk p l j = true) := by
 unfold factsB
 simp only [Bool.and_eq_true, decide_eq_true_eq, List.all_eq_true, List.mem_range'_1]
 constructor
 ·rintro ⟨h1, h2, h3⟩; exact ⟨h1, h2, fun j hj => h3 j (by omega)⟩
 ·rintro ⟨h1, h2, h3⟩; exact ⟨h1, h2, fun j hj => h3 j (by omega)⟩
end Go.Proofs.Ytihpndignekheaa.Pure
end
