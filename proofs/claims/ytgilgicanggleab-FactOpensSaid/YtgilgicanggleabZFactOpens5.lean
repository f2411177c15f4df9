-- Texts of this seat's, joined.
import Derived.Test.YtgilgicanggleabZFactOpens1
import Derived.Test.YtgilgicanggleabZFactOpens2
import Derived.Test.YtgilgicanggleabZFactOpens4
import Derived.Test.YtgilgicanggleabProg
import Derived.Below
import Derived.Deep.Draws
import Derived.Deep.AppendLies
import Derived.Maps.AppendAt
import Derived.OwnWalk
import Derived.Laws.BytesArg
import Derived.Laws.MakeOwn
import Derived.Laws.OwnMore
import Derived.Deep.OwnRows
import Derived.Tactics
import Derived.Lib.ConvBytes
import Derived.Laws.Slices
import Derived.WalkKit
import Derived.KernelRfl
import Derived.RowKit3
import Derived.Deep.LoopGhost
import Derived.Deep.QuietTactic
import Derived.BigQuiet
import Derived.WideLaws
import Derived.Deep.DeepCutAuto
import Derived.Deep.CutBlock
import Derived.Deep.RegionHeld3
import Derived.Laws.Rows
import Derived.Lib.AppendStr
import Derived.ArgAppend
import Derived.Laws.IdiomCopy
import Derived.OrdersHeld
import Derived.Laws.BitsLemmas
import Derived.RowKit
import Derived.Recover
import Derived.WalkSmall
import Derived.Lib.SliceRun
section
namespace Go.Proofs.Ytgilgicanggleab.F
open Go.RowKit Go.Proofs.YtgilgicanggleabW.PrintWords Go.Proofs.YtgilgicanggleabW.PrintLast Go.Proofs.YtgilgicanggleabW.PrintMore
attribute [local go_sem] max2_int min2_int max_two min_two max_three min_three max_four min_four
set_option linter.unusedVariables false
set_option linter.unusedSimpArgs false
attribute [local go_sem high] eqA52
def fact_fine.j0 : Nat → Bool → Int → Int → Int → Bool → Option (Bool)
 | 0, _, _, _, _, _ => none
 | k + 1, x3, x131000, x131001, x131002, x131003 => if x3 = true then (some false) else (if x131001 = x131002 then (if x131001 > 0 then (if x131000 = 2 then (if x131003 = true then (some (decide (x131001 > x131002))) else (some true)) else (some false)) else (if x131003 = true then (some (decide (x131001 > x131002))) else (some true))) else (if x131001 = (wrap64 (x131002 + 1)) then (if x131001 > 0 then (if x131000 = 2 then (if x131003 = true then (some (decide (x131001 > x131002))) else (some true)) else (some false)) else (if x131003 = true then (some (decide (x131001 > x131002))) else (some true))) else (some false)))
def fact_fine.f (k : Nat) (a0_0 : Int) (a0_1 : Int) (a0_2 : Int) (a0_3 : Bool) : Option (Bool) := if a0_0 < 0 then (fact_fine.j0 k true a0_0 a0_1 a0_2 a0_3) else (if a0_0 > 3 then (fact_fine.j0 k true a0_0 a0_1 a0_2 a0_3) else (if a0_2 < 0 then (fact_fine.j0 k true a0_0 a0_1 a0_2 a0_3) else (fact_fine.j0 k (decide (a0_2 > 3)) a0_0 a0_1 a0_2 a0_3)))
theorem fact_fine.mono_l : ∀ k, (∀ y0 y1 y2 y3 y4, LeO (fact_fine.j0 k y0 y1 y2 y3 y4) (fact_fine.j0 (k + 1) y0 y1 y2 y3 y4))
 | 0 => fun _ _ _ _ _ r h => by simp [fact_fine.j0] at h
 | k + 1 => by
  have ih0 := fact_fine.mono_l k
  ·intro y0 y1 y2 y3 y4
   unfold fact_fine.j0
   repeat' first
   | (with_reducible exact ih0 _ _ _ _ _)
   | (with_reducible exact LeO.refl _)
   | (with_reducible exact LeO.none _)
   | (with_reducible refine LeO.ite ?_ ?_)
   | (with_reducible refine LeO.bind ?_ (fun _ => ?_))
   | exact ih0 _ _ _ _ _
   | exact LeO.none _
   | refine LeO.ite ?_ ?_
   | refine LeO.bind ?_ (fun _ => ?_)
theorem fact_fine.mono : ∀ a0 a1 a2 a3 k, LeO (fact_fine.f k a0 a1 a2 a3) (fact_fine.f (k + 1) a0 a1 a2 a3) := by
 intro a0 a1 a2 a3 k
 have ih0 := fact_fine.mono_l k
 unfold fact_fine.f
 repeat' first
   | (with_reducible exact ih0 _ _ _ _ _)
   | (with_reducible exact LeO.refl _)
   | (with_reducible exact LeO.none _)
   | (with_reducible refine LeO.ite ?_ ?_)
   | (with_reducible refine LeO.bind ?_ (fun _ => ?_))
   | exact ih0 _ _ _ _ _
   | exact LeO.none _
   | refine LeO.ite ?_ ?_
   | refine LeO.bind ?_ (fun _ => ?_)
set_option maxHeartbeats 8000000 in
set_option maxRecDepth 100000 in
theorem fact_fine.calls (k : Nat) (a0_0 : Int) (a0_1 : Int) (a0_2 : Int) (a0_3 : Bool) (r : Bool) (w : World) (h : fact_fine.f k a0_0 a0_1 a0_2 a0_3 = some r) :
  Calls Try.prog 20 #[.agg #[.int .i64 a0_0, .int .i64 a0_1, .int .i64 a0_2, .bool a0_3]] w fun e w' => e = .returned (.bool r) ∧ Below w.heap.size w w' := by
 have hu52 := Try.underlying52
 have HB := Aside0.mk (Below.refl w.heap.size w)
 have H : (if a0_0 < 0 then (fact_fine.j0 k true a0_0 a0_1 a0_2 a0_3) else (if a0_0 > 3 then (fact_fine.j0 k true a0_0 a0_1 a0_2 a0_3) else (if a0_2 < 0 then (fact_fine.j0 k true a0_0 a0_1 a0_2 a0_3) else (fact_fine.j0 k (decide (a0_2 > 3)) a0_0 a0_1 a0_2 a0_3)))) = some r := h
 clear h
 have HC2 := Aside0.mk H
 clear H
 go_enter Try.func20, Try.ntmps20
 go_upto_region 1 with (first | ((with_reducible refine gate_dst (N := 1) rfl ?_); refine box_event ?hg (N := 1) ?hd (cs := #[.int .i64 a0_0, .int .i64 a0_1, .int .i64 a0_2, .bool a0_3]) (t := 52) ?hr ?_; (case hd => rfl); (case hg => rfl); (case hr => first | (go_simp; done) | (go_simp; rfl)); intro gb130 hg w3 hbox hb; have n0_ := Aside0.mk (below_step (by repeat (first | (with_reducible first | exact HB.out | apply below_alloc | apply pw_below_drewN | apply below_drew1) | exact HB.out)) hb); have n1_ := Aside0.mk (hbox); have n2_ := Aside0.mk ((by rw [hg]; exact (below_size (by repeat (first | (with_reducible first | exact HB.out | apply below_alloc | apply pw_below_drewN | apply below_drew1) | exact HB.out))) : w.heap.size ≤ gb130)); have n3_ := Aside0.mk ((by rw [hg]; exact (below_size (by repeat (first | (with_reducible first | exact HB.out | apply below_alloc | apply pw_below_drewN | apply below_drew1) | exact HB.out))) : w.heap.size ≤ gb130)); clear HB; have HB := n0_; have BK130 := n1_; have GW130 := n2_; have GE130 := n3_; clear n0_ n1_ n2_ n3_; clear hb hbox hg))
 (try simp only [Act.put, List.setIfInBounds_toArray, List.set_cons_zero, List.set_cons_succ])
 go_cut [3] (fun v3 wc => ∃ (kq : Nat) (x3_1 : Bool), v3 = .bool x3_1 ∧ Aside0 (fact_fine.j0 kq x3_1 a0_0 a0_1 a0_2 a0_3 = some r) ∧ Aside0 (kq ≤ k) ∧ Aside0 (wc.heap[gb130]? = some (.cells #[.int .i64 a0_0, .int .i64 a0_1, .int .i64 a0_2, .bool a0_3] 52 (0, 0))) ∧ Aside0 (Below w.heap.size w wc))
 case first =>
  have H := HC2.out
  clear HC2
  by_cases c4 : a0_0 < 0
  ·rw [if_pos c4] at H
   have c4b0 : decide (a0_0 < 0) = true := decide_eq_true c4
   clear c4
   (first | rw [c4b0] | (simp only [i64_w, i32_w]; rw [c4b0]) | skip)
   have H' := Aside0.mk H
   clear H
   have hcz5_0 : w3.cell? ⟨gb130, 0, none⟩ = some (.int .i64 a0_0) := (blk_cell BK130.out 0).trans rfl
   have hcz5_1 : w3.cell? ⟨gb130, 1, none⟩ = some (.int .i64 a0_1) := (blk_cell BK130.out 1).trans rfl
   have hcz5_2 : w3.cell? ⟨gb130, 2, none⟩ = some (.int .i64 a0_2) := (blk_cell BK130.out 2).trans rfl
   have hcz5_3 : w3.cell? ⟨gb130, 3, none⟩ = some (.bool a0_3) := (blk_cell BK130.out 3).trans rfl
   have hfz5_0 := blk_frozen BK130.out 0
   have hfz5_1 := blk_frozen BK130.out 1
   have hfz5_2 := blk_frozen BK130.out 2
   have hfz5_3 := blk_frozen BK130.out 3
   go_wp2
   go_meet
   case rel => exact ⟨_, (true), (by first | rfl | (simp; done) | (simp [*]; done)), H', ⟨by first | omega | exact Nat.le_refl _⟩, ⟨by (with_reducible repeat (first | refine blk_drewN ?_ _ | refine blk_drew ?_ | refine blk_alloc ?_ _)); exact BK130.out⟩, ⟨by repeat (first | (with_reducible first | exact HB.out | apply below_alloc | apply pw_below_drewN | apply below_drew1 | refine below_set ?_ GE130.out) | exact HB.out)⟩⟩
  ·rw [if_neg c4] at H
   have c4b0 : decide (a0_0 < 0) = false := decide_eq_false c4
   clear c4
   (first | rw [c4b0] | (simp only [i64_w, i32_w]; rw [c4b0]) | skip)
   by_cases c6 : a0_0 > 3
   ·rw [if_pos c6] at H
    have c6b0 : decide (3 < a0_0) = true := decide_eq_true c6
    clear c6
    have H' := Aside0.mk H
    clear H
    have hcz7_0 : w3.cell? ⟨gb130, 0, none⟩ = some (.int .i64 a0_0) := (blk_cell BK130.out 0).trans rfl
    have hcz7_1 : w3.cell? ⟨gb130, 1, none⟩ = some (.int .i64 a0_1) := (blk_cell BK130.out 1).trans rfl
    have hcz7_2 : w3.cell? ⟨gb130, 2, none⟩ = some (.int .i64 a0_2) := (blk_cell BK130.out 2).trans rfl
    have hcz7_3 : w3.cell? ⟨gb130, 3, none⟩ = some (.bool a0_3) := (blk_cell BK130.out 3).trans rfl
    have hfz7_0 := blk_frozen BK130.out 0
    have hfz7_1 := blk_frozen BK130.out 1
    have hfz7_2 := blk_frozen BK130.out 2
    have hfz7_3 := blk_frozen BK130.out 3
    go_wp2
    go_meet
    case rel => exact ⟨_, (true), (by first | rfl | (simp; done) | (simp [*]; done)), H', ⟨by first | omega | exact Nat.le_refl _⟩, ⟨by (with_reducible repeat (first | refine blk_drewN ?_ _ | refine blk_drew ?_ | refine blk_alloc ?_ _)); exact BK130.out⟩, ⟨by repeat (first | (with_reducible first | exact HB.out | apply below_alloc | apply pw_below_drewN | apply below_drew1 | refine below_set ?_ GE130.out) | exact HB.out)⟩⟩
   ·rw [if_neg c6] at H
    have c6b0 : decide (3 < a0_0) = false := decide_eq_false c6
    clear c6
    by_cases c8 : a0_2 < 0
    ·rw [if_pos c8] at H
     have c8b0 : decide (a0_2 < 0) = true := decide_eq_true c8
     clear c8
     have H' := Aside0.mk H
     clear H
     have hcz9_0 : w3.cell? ⟨gb130, 0, none⟩ = some (.int .i64 a0_0) := (blk_cell BK130.out 0).trans rfl
     have hcz9_1 : w3.cell? ⟨gb130, 1, none⟩ = some (.int .i64 a0_1) := (blk_cell BK130.out 1).trans rfl
     have hcz9_2 : w3.cell? ⟨gb130, 2, none⟩ = some (.int .i64 a0_2) := (blk_cell BK130.out 2).trans rfl
     have hcz9_3 : w3.cell? ⟨gb130, 3, none⟩ = some (.bool a0_3) := (blk_cell BK130.out 3).trans rfl
     have hfz9_0 := blk_frozen BK130.out 0
     have hfz9_1 := blk_frozen BK130.out 1
     have hfz9_2 := blk_frozen BK130.out 2
     have hfz9_3 := blk_frozen BK130.out 3
     go_wp2
     go_meet
     case rel => exact ⟨_, (true), (by first | rfl | (simp; done) | (simp [*]; done)), H', ⟨by first | omega | exact Nat.le_refl _⟩, ⟨by (with_reducible repeat (first | refine blk_drewN ?_ _ | refine blk_drew ?_ | refine blk_alloc ?_ _)); exact BK130.out⟩, ⟨by repeat (first | (with_reducible first | exact HB.out | apply below_alloc | apply pw_below_drewN | apply below_drew1 | refine below_set ?_ GE130.out) | exact HB.out)⟩⟩
    ·rw [if_neg c8] at H
     have c8b0 : decide (a0_2 < 0) = false := decide_eq_false c8
     clear c8
     have H' := Aside0.mk H
     clear H
     have hcz10_0 : w3.cell? ⟨gb130, 0, none⟩ = some (.int .i64 a0_0) := (blk_cell BK130.out 0).trans rfl
     have hcz10_1 : w3.cell? ⟨gb130, 1, none⟩ = some (.int .i64 a0_1) := (blk_cell BK130.out 1).trans rfl
     have hcz10_2 : w3.cell? ⟨gb130, 2, none⟩ = some (.int .i64 a0_2) := (blk_cell BK130.out 2).trans rfl
     have hcz10_3 : w3.cell? ⟨gb130, 3, none⟩ = some (.bool a0_3) := (blk_cell BK130.out 3).trans rfl
     have hfz10_0 := blk_frozen BK130.out 0
     have hfz10_1 := blk_frozen BK130.out 1
     have hfz10_2 := blk_frozen BK130.out 2
     have hfz10_3 := blk_frozen BK130.out 3
     go_wp2
     go_meet
     case rel => exact ⟨_, (decide (a0_2 > 3)), (by first | rfl | (simp; done) | (simp [*]; done)), H', ⟨by first | omega | exact Nat.le_refl _⟩, ⟨by (with_reducible repeat (first | refine blk_drewN ?_ _ | refine blk_drew ?_ | refine blk_alloc ?_ _)); exact BK130.out⟩, ⟨by repeat (first | (with_reducible first | exact HB.out | apply below_alloc | apply pw_below_drewN | apply below_drew1 | refine below_set ?_ GE130.out) | exact HB.out)⟩⟩
 case rest =>
  clear HC2
  try clear c2
  try clear p2
  try clear c4
  try clear c4b0
  try clear c6
  try clear c6b0
  try clear c8
  try clear c8b0
  try clear hcz10_0
  try clear hcz10_1
  try clear hcz10_2
  try clear hcz10_3
  try clear hcz5_0
  try clear hcz5_1
  try clear hcz5_2
  try clear hcz5_3
  try clear hcz7_0
  try clear hcz7_1
  try clear hcz7_2
  try clear hcz7_3
  try clear hcz9_0
  try clear hcz9_1
  try clear hcz9_2
  try clear hcz9_3
  try clear hfz10_0
  try clear hfz10_1
  try clear hfz10_2
  try clear hfz10_3
  try clear hfz5_0
  try clear hfz5_1
  try clear hfz5_2
  try clear hfz5_3
  try clear hfz7_0
  try clear hfz7_1
  try clear hfz7_2
  try clear hfz7_3
  try clear hfz9_0
  try clear hfz9_1
  try clear hfz9_2
  try clear hfz9_3
  obtain ⟨kq, x3_1, rfl, HA, HJ1, BK130, HB⟩ := hcut
  cases kq with
  | zero => exact absurd HA.out (by simp [fact_fine.j0])
  | succ kj1 =>
   have H := HA.out
   clear HA
   simp only [fact_fine.j0] at H
   by_cases c11 : x3_1 = true
   ·subst c11
    have H1 : (some false) = some r := by rw [if_pos rfl] at H; exact H
    clear H
    have H := H1
    clear H1
    obtain rfl := Option.some.inj H
    go_wp2
    go_ret
    exact ⟨by first | rfl | (simp [errW_none, errW_some] <;> rfl) | (simp [*, errW_none, errW_some] <;> rfl), by repeat (first | (with_reducible first | exact HB.out | apply below_alloc | apply pw_below_drewN | apply below_drew1 | refine below_set ?_ GE130.out) | exact HB.out)⟩
   ·replace c11 := Bool.eq_false_iff.mpr c11
    subst c11
    have H1 : (if a0_1 = a0_2 then (if a0_1 > 0 then (if a0_0 = 2 then (if a0_3 = true then (some (decide (a0_1 > a0_2))) else (some true)) else (some false)) else (if a0_3 = true then (some (decide (a0_1 > a0_2))) else (some true))) else (if a0_1 = (wrap64 (a0_2 + 1)) then (if a0_1 > 0 then (if a0_0 = 2 then (if a0_3 = true then (some (decide (a0_1 > a0_2))) else (some true)) else (some false)) else (if a0_3 = true then (some (decide (a0_1 > a0_2))) else (some true))) else (some false))) = some r := by rw [if_neg (show ¬ (false = true) by decide)] at H; exact H
    clear H
    have H := H1
    clear H1
    by_cases c12 : a0_1 = a0_2
    ·rw [if_pos c12] at H
     have c12b0 : (a0_1 == a0_2) = true := beq_iff_eq.mpr c12
     have c12b1 : (a0_1 != a0_2) = false := bne_eq_false_iff_eq.mpr c12
     clear c12
     by_cases c13 : a0_1 > 0
     ·rw [if_pos c13] at H
      have c13b0 : decide (0 < a0_1) = true := decide_eq_true c13
      clear c13
      by_cases c14 : a0_0 = 2
      ·rw [if_pos c14] at H
       have c14b0 : (a0_0 == 2) = true := beq_iff_eq.mpr c14
       have c14b1 : (a0_0 != 2) = false := bne_eq_false_iff_eq.mpr c14
       clear c14
       by_cases c15 : a0_3 = true
       ·subst c15
        have H1 : (some (decide (a0_1 > a0_2))) = some r := by rw [if_pos rfl] at H; exact H
        clear H
        have H := H1
        clear H1
        obtain rfl := Option.some.inj H
        have hcz16_0 : wc.cell? ⟨gb130, 0, none⟩ = some (.int .i64 a0_0) := (blk_cell BK130.out 0).trans rfl
        have hcz16_1 : wc.cell? ⟨gb130, 1, none⟩ = some (.int .i64 a0_1) := (blk_cell BK130.out 1).trans rfl
        have hcz16_2 : wc.cell? ⟨gb130, 2, none⟩ = some (.int .i64 a0_2) := (blk_cell BK130.out 2).trans rfl
        have hcz16_3 : wc.cell? ⟨gb130, 3, none⟩ = some (.bool true) := (blk_cell BK130.out 3).trans rfl
        have hfz16_0 := blk_frozen BK130.out 0
        have hfz16_1 := blk_frozen BK130.out 1
        have hfz16_2 := blk_frozen BK130.out 2
        have hfz16_3 := blk_frozen BK130.out 3
        go_wp2
        go_ret
        exact ⟨by first | rfl | (simp [errW_none, errW_some] <;> rfl) | (simp [*, errW_none, errW_some] <;> rfl), by repeat (first | (with_reducible first | exact HB.out | apply below_alloc | apply pw_below_drewN | apply below_drew1 | refine below_set ?_ GE130.out) | exact HB.out)⟩
       ·replace c15 := Bool.eq_false_iff.mpr c15
        subst c15
        have H1 : (some true) = some r := by rw [if_neg (show ¬ (false = true) by decide)] at H; exact H
        clear H
        have H := H1
        clear H1
        obtain rfl := Option.some.inj H
        have hcz17_0 : wc.cell? ⟨gb130, 0, none⟩ = some (.int .i64 a0_0) := (blk_cell BK130.out 0).trans rfl
        have hcz17_1 : wc.cell? ⟨gb130, 1, none⟩ = some (.int .i64 a0_1) := (blk_cell BK130.out 1).trans rfl
        have hcz17_2 : wc.cell? ⟨gb130, 2, none⟩ = some (.int .i64 a0_2) := (blk_cell BK130.out 2).trans rfl
        have hcz17_3 : wc.cell? ⟨gb130, 3, none⟩ = some (.bool false) := (blk_cell BK130.out 3).trans rfl
        have hfz17_0 := blk_frozen BK130.out 0
        have hfz17_1 := blk_frozen BK130.out 1
        have hfz17_2 := blk_frozen BK130.out 2
        have hfz17_3 := blk_frozen BK130.out 3
        go_wp2
        go_ret
        exact ⟨by first | rfl | (simp [errW_none, errW_some] <;> rfl) | (simp [*, errW_none, errW_some] <;> rfl), by repeat (first | (with_reducible first | exact HB.out | apply below_alloc | apply pw_below_drewN | apply below_drew1 | refine below_set ?_ GE130.out) | exact HB.out)⟩
      ·rw [if_neg c14] at H
       have c14b0 : (a0_0 == 2) = false := beq_eq_false_iff_ne.mpr c14
       have c14b1 : (a0_0 != 2) = true := bne_iff_ne.mpr c14
       obtain rfl := Option.some.inj H
       have hcz18_0 : wc.cell? ⟨gb130, 0, none⟩ = some (.int .i64 a0_0) := (blk_cell BK130.out 0).trans rfl
       have hcz18_1 : wc.cell? ⟨gb130, 1, none⟩ = some (.int .i64 a0_1) := (blk_cell BK130.out 1).trans rfl
       have hcz18_2 : wc.cell? ⟨gb130, 2, none⟩ = some (.int .i64 a0_2) := (blk_cell BK130.out 2).trans rfl
       have hcz18_3 : wc.cell? ⟨gb130, 3, none⟩ = some (.bool a0_3) := (blk_cell BK130.out 3).trans rfl
       have hfz18_0 := blk_frozen BK130.out 0
       have hfz18_1 := blk_frozen BK130.out 1
       have hfz18_2 := blk_frozen BK130.out 2
       have hfz18_3 := blk_frozen BK130.out 3
       go_wp2
       go_ret
       exact ⟨by first | rfl | (simp [errW_none, errW_some] <;> rfl) | (simp [*, errW_none, errW_some] <;> rfl), by repeat (first | (with_reducible first | exact HB.out | apply below_alloc | apply pw_below_drewN | apply below_drew1 | refine below_set ?_ GE130.out) | exact HB.out)⟩
     ·rw [if_neg c13] at H
      have c13b0 : decide (0 < a0_1) = false := decide_eq_false c13
      clear c13
      by_cases c19 : a0_3 = true
      ·subst c19
       have H1 : (some (decide (a0_1 > a0_2))) = some r := by rw [if_pos rfl] at H; exact H
       clear H
       have H := H1
       clear H1
       obtain rfl := Option.some.inj H
       have hcz20_0 : wc.cell? ⟨gb130, 0, none⟩ = some (.int .i64 a0_0) := (blk_cell BK130.out 0).trans rfl
       have hcz20_1 : wc.cell? ⟨gb130, 1, none⟩ = some (.int .i64 a0_1) := (blk_cell BK130.out 1).trans rfl
       have hcz20_2 : wc.cell? ⟨gb130, 2, none⟩ = some (.int .i64 a0_2) := (blk_cell BK130.out 2).trans rfl
       have hcz20_3 : wc.cell? ⟨gb130, 3, none⟩ = some (.bool true) := (blk_cell BK130.out 3).trans rfl
       have hfz20_0 := blk_frozen BK130.out 0
       have hfz20_1 := blk_frozen BK130.out 1
       have hfz20_2 := blk_frozen BK130.out 2
       have hfz20_3 := blk_frozen BK130.out 3
       go_wp2
       go_ret
       exact ⟨by first | rfl | (simp [errW_none, errW_some] <;> rfl) | (simp [*, errW_none, errW_some] <;> rfl), by repeat (first | (with_reducible first | exact HB.out | apply below_alloc | apply pw_below_drewN | apply below_drew1 | refine below_set ?_ GE130.out) | exact HB.out)⟩
      ·replace c19 := Bool.eq_false_iff.mpr c19
       subst c19
       have H1 : (some true) = some r := by rw [if_neg (show ¬ (false = true) by decide)] at H; exact H
       clear H
       have H := H1
       clear H1
       obtain rfl := Option.some.inj H
       have hcz21_0 : wc.cell? ⟨gb130, 0, none⟩ = some (.int .i64 a0_0) := (blk_cell BK130.out 0).trans rfl
       have hcz21_1 : wc.cell? ⟨gb130, 1, none⟩ = some (.int .i64 a0_1) := (blk_cell BK130.out 1).trans rfl
       have hcz21_2 : wc.cell? ⟨gb130, 2, none⟩ = some (.int .i64 a0_2) := (blk_cell BK130.out 2).trans rfl
       have hcz21_3 : wc.cell? ⟨gb130, 3, none⟩ = some (.bool false) := (blk_cell BK130.out 3).trans rfl
       have hfz21_0 := blk_frozen BK130.out 0
       have hfz21_1 := blk_frozen BK130.out 1
       have hfz21_2 := blk_frozen BK130.out 2
       have hfz21_3 := blk_frozen BK130.out 3
       go_wp2
       go_ret
       exact ⟨by first | rfl | (simp [errW_none, errW_some] <;> rfl) | (simp [*, errW_none, errW_some] <;> rfl), by repeat (first | (with_reducible first | exact HB.out | apply below_alloc | apply pw_below_drewN | apply below_drew1 | refine below_set ?_ GE130.out) | exact HB.out)⟩
    ·rw [if_neg c12] at H
     have c12b0 : (a0_1 == a0_2) = false := beq_eq_false_iff_ne.mpr c12
     have c12b1 : (a0_1 != a0_2) = true := bne_iff_ne.mpr c12
     by_cases c22 : a0_1 = (wrap64 (a0_2 + 1))
     ·rw [if_pos c22] at H
      have c22b0 : (a0_1 == (wrap64 (a0_2 + 1))) = true := beq_iff_eq.mpr c22
      have c22b1 : (a0_1 != (wrap64 (a0_2 + 1))) = false := bne_eq_false_iff_eq.mpr c22
      clear c22
      by_cases c23 : a0_1 > 0
      ·rw [if_pos c23] at H
       have c23b0 : decide (0 < a0_1) = true := decide_eq_true c23
       clear c23
       by_cases c24 : a0_0 = 2
       ·rw [if_pos c24] at H
        have c24b0 : (a0_0 == 2) = true := beq_iff_eq.mpr c24
        have c24b1 : (a0_0 != 2) = false := bne_eq_false_iff_eq.mpr c24
        clear c24
        by_cases c25 : a0_3 = true
        ·subst c25
         have H1 : (some (decide (a0_1 > a0_2))) = some r := by rw [if_pos rfl] at H; exact H
         clear H
         have H := H1
         clear H1
         obtain rfl := Option.some.inj H
         have hcz26_0 : wc.cell? ⟨gb130, 0, none⟩ = some (.int .i64 a0_0) := (blk_cell BK130.out 0).trans rfl
         have hcz26_1 : wc.cell? ⟨gb130, 1, none⟩ = some (.int .i64 a0_1) := (blk_cell BK130.out 1).trans rfl
         have hcz26_2 : wc.cell? ⟨gb130, 2, none⟩ = some (.int .i64 a0_2) := (blk_cell BK130.out 2).trans rfl
         have hcz26_3 : wc.cell? ⟨gb130, 3, none⟩ = some (.bool true) := (blk_cell BK130.out 3).trans rfl
         have hfz26_0 := blk_frozen BK130.out 0
         have hfz26_1 := blk_frozen BK130.out 1
         have hfz26_2 := blk_frozen BK130.out 2
         have hfz26_3 := blk_frozen BK130.out 3
         go_wp2
         go_ret
         exact ⟨by first | rfl | (simp [errW_none, errW_some] <;> rfl) | (simp [*, errW_none, errW_some] <;> rfl), by repeat (first | (with_reducible first | exact HB.out | apply below_alloc | apply pw_below_drewN | apply below_drew1 | refine below_set ?_ GE130.out) | exact HB.out)⟩
        ·replace c25 := Bool.eq_false_iff.mpr c25
         subst c25
         have H1 : (some true) = some r := by rw [if_neg (show ¬ (false = true) by decide)] at H; exact H
         clear H
         have H := H1
         clear H1
         obtain rfl := Option.some.inj H
         have hcz27_0 : wc.cell? ⟨gb130, 0, none⟩ = some (.int .i64 a0_0) := (blk_cell BK130.out 0).trans rfl
         have hcz27_1 : wc.cell? ⟨gb130, 1, none⟩ = some (.int .i64 a0_1) := (blk_cell BK130.out 1).trans rfl
         have hcz27_2 : wc.cell? ⟨gb130, 2, none⟩ = some (.int .i64 a0_2) := (blk_cell BK130.out 2).trans rfl
         have hcz27_3 : wc.cell? ⟨gb130, 3, none⟩ = some (.bool false) := (blk_cell BK130.out 3).trans rfl
         have hfz27_0 := blk_frozen BK130.out 0
         have hfz27_1 := blk_frozen BK130.out 1
         have hfz27_2 := blk_frozen BK130.out 2
         have hfz27_3 := blk_frozen BK130.out 3
         go_wp2
         go_ret
         exact ⟨by first | rfl | (simp [errW_none, errW_some] <;> rfl) | (simp [*, errW_none, errW_some] <;> rfl), by repeat (first | (with_reducible first | exact HB.out | apply below_alloc | apply pw_below_drewN | apply below_drew1 | refine below_set ?_ GE130.out) | exact HB.out)⟩
       ·rw [if_neg c24] at H
        have c24b0 : (a0_0 == 2) = false := beq_eq_false_iff_ne.mpr c24
        have c24b1 : (a0_0 != 2) = true := bne_iff_ne.mpr c24
        obtain rfl := Option.some.inj H
        have hcz28_0 : wc.cell? ⟨gb130, 0, none⟩ = some (.int .i64 a0_0) := (blk_cell BK130.out 0).trans rfl
        have hcz28_1 : wc.cell? ⟨gb130, 1, none⟩ = some (.int .i64 a0_1) := (blk_cell BK130.out 1).trans rfl
        have hcz28_2 : wc.cell? ⟨gb130, 2, none⟩ = some (.int .i64 a0_2) := (blk_cell BK130.out 2).trans rfl
        have hcz28_3 : wc.cell? ⟨gb130, 3, none⟩ = some (.bool a0_3) := (blk_cell BK130.out 3).trans rfl
        have hfz28_0 := blk_frozen BK130.out 0
        have hfz28_1 := blk_frozen BK130.out 1
        have hfz28_2 := blk_frozen BK130.out 2
        have hfz28_3 := blk_frozen BK130.out 3
        go_wp2
        go_ret
        exact ⟨by first | rfl | (simp [errW_none, errW_some] <;> rfl) | (simp [*, errW_none, errW_some] <;> rfl), by repeat (first | (with_reducible first | exact HB.out | apply below_alloc | apply pw_below_drewN | apply below_drew1 | refine below_set ?_ GE130.out) | exact HB.out)⟩
      ·rw [if_neg c23] at H
       have c23b0 : decide (0 < a0_1) = false := decide_eq_false c23
       clear c23
       by_cases c29 : a0_3 = true
       ·subst c29
        have H1 : (some (decide (a0_1 > a0_2))) = some r := by rw [if_pos rfl] at H; exact H
        clear H
        have H := H1
        clear H1
        obtain rfl := Option.some.inj H
        have hcz30_0 : wc.cell? ⟨gb130, 0, none⟩ = some (.int .i64 a0_0) := (blk_cell BK130.out 0).trans rfl
        have hcz30_1 : wc.cell? ⟨gb130, 1, none⟩ = some (.int .i64 a0_1) := (blk_cell BK130.out 1).trans rfl
        have hcz30_2 : wc.cell? ⟨gb130, 2, none⟩ = some (.int .i64 a0_2) := (blk_cell BK130.out 2).trans rfl
        have hcz30_3 : wc.cell? ⟨gb130, 3, none⟩ = some (.bool true) := (blk_cell BK130.out 3).trans rfl
        have hfz30_0 := blk_frozen BK130.out 0
        have hfz30_1 := blk_frozen BK130.out 1
        have hfz30_2 := blk_frozen BK130.out 2
        have hfz30_3 := blk_frozen BK130.out 3
        go_wp2
        go_ret
        exact ⟨by first | rfl | (simp [errW_none, errW_some] <;> rfl) | (simp [*, errW_none, errW_some] <;> rfl), by repeat (first | (with_reducible first | exact HB.out | apply below_alloc | apply pw_below_drewN | apply below_drew1 | refine below_set ?_ GE130.out) | exact HB.out)⟩
       ·replace c29 := Bool.eq_false_iff.mpr c29
        subst c29
        have H1 : (some true) = some r := by rw [if_neg (show ¬ (false = true) by decide)] at H; exact H
        clear H
        have H := H1
        clear H1
        obtain rfl := Option.some.inj H
        have hcz31_0 : wc.cell? ⟨gb130, 0, none⟩ = some (.int .i64 a0_0) := (blk_cell BK130.out 0).trans rfl
        have hcz31_1 : wc.cell? ⟨gb130, 1, none⟩ = some (.int .i64 a0_1) := (blk_cell BK130.out 1).trans rfl
        have hcz31_2 : wc.cell? ⟨gb130, 2, none⟩ = some (.int .i64 a0_2) := (blk_cell BK130.out 2).trans rfl
        have hcz31_3 : wc.cell? ⟨gb130, 3, none⟩ = some (.bool false) := (blk_cell BK130.out 3).trans rfl
        have hfz31_0 := blk_frozen BK130.out 0
        have hfz31_1 := blk_frozen BK130.out 1
        have hfz31_2 := blk_frozen BK130.out 2
        have hfz31_3 := blk_frozen BK130.out 3
        go_wp2
        go_ret
        exact ⟨by first | rfl | (simp [errW_none, errW_some] <;> rfl) | (simp [*, errW_none, errW_some] <;> rfl), by repeat (first | (with_reducible first | exact HB.out | apply below_alloc | apply pw_below_drewN | apply below_drew1 | refine below_set ?_ GE130.out) | exact HB.out)⟩
     ·rw [if_neg c22] at H
      have c22b0 : (a0_1 == (wrap64 (a0_2 + 1))) = false := beq_eq_false_iff_ne.mpr c22
      have c22b1 : (a0_1 != (wrap64 (a0_2 + 1))) = true := bne_iff_ne.mpr c22
      obtain rfl := Option.some.inj H
      have hcz32_0 : wc.cell? ⟨gb130, 0, none⟩ = some (.int .i64 a0_0) := (blk_cell BK130.out 0).trans rfl
      have hcz32_1 : wc.cell? ⟨gb130, 1, none⟩ = some (.int .i64 a0_1) := (blk_cell BK130.out 1).trans rfl
      have hcz32_2 : wc.cell? ⟨gb130, 2, none⟩ = some (.int .i64 a0_2) := (blk_cell BK130.out 2).trans rfl
      have hcz32_3 : wc.cell? ⟨gb130, 3, none⟩ = some (.bool a0_3) := (blk_cell BK130.out 3).trans rfl
      have hfz32_0 := blk_frozen BK130.out 0
      have hfz32_1 := blk_frozen BK130.out 1
      have hfz32_2 := blk_frozen BK130.out 2
      have hfz32_3 := blk_frozen BK130.out 3
      go_wp2
      go_ret
      exact ⟨by first | rfl | (simp [errW_none, errW_some] <;> rfl) | (simp [*, errW_none, errW_some] <;> rfl), by repeat (first | (with_reducible first | exact HB.out | apply below_alloc | apply pw_below_drewN | apply below_drew1 | refine below_set ?_ GE130.out) | exact HB.out)⟩
mutual
def fact_Check.j0 : Nat → List (S52) → Bool → List (S44) → Option (Int)
 | 0, _, _, _ => none
 | k + 1, x1, x17, x132000 => if x17 = true then (some 2) else (fact_Check.l0 k x1 (x1.length : Int) 0 x132000)
def fact_Check.l0 : Nat → List (S52) → Int → Int → List (S44) → Option (Int)
 | 0, _, _, _, _ => none
 | k + 1, x18, x19, x20, x132000 => if x20 < x19 then (if 0 ≤ x20 then (if x20 < (x18.length : Int) then ((fact_fine.f k ((rd_T52 x18 x20).f0) ((rd_T52 x18 x20).f1) ((rd_T52 x18 x20).f2) ((rd_T52 x18 x20).f3)).bind fun t135 => (if t135 = true then (if x20 < (x132000.length : Int) then (if (rd_T44 x132000 x20).f2 = true then (if (!(((rd_T52 x18 x20).f0) == 0) || (!(((rd_T52 x18 x20).f1) == 0) || (!(((rd_T52 x18 x20).f2) == 0) || (((rd_T52 x18 x20).f3))))) = true then (some 2) else (fact_Check.l0 k x18 x19 (wrap64 (x20 + 1)) x132000)) else (fact_Check.l0 k x18 x19 (wrap64 (x20 + 1)) x132000)) else (none)) else (some 2))) else (none)) else (none)) else (some 0)
end
def fact_Check.f (k : Nat) (l0_0 : List (S44)) (l1 : List (S52)) : Option (Int) := if (l1.length : Int) = (l0_0.length : Int) then ((plan_Right.f l0_0).bind fun t132 => (fact_Check.j0 k l1 (!t132) l0_0)) else (fact_Check.j0 k l1 true l0_0)
theorem fact_Check.mono_l : ∀ k, (∀ y0 y1 y2, LeO (fact_Check.j0 k y0 y1 y2) (fact_Check.j0 (k + 1) y0 y1 y2)) ∧ (∀ y0 y1 y2 y3, LeO (fact_Check.l0 k y0 y1 y2 y3) (fact_Check.l0 (k + 1) y0 y1 y2 y3))
 | 0 => ⟨fun _ _ _ r h => by simp [fact_Check.j0] at h, fun _ _ _ _ r h => by simp [fact_Check.l0] at h⟩
 | k + 1 => by
  obtain ⟨ih0, ih1⟩ := fact_Check.mono_l k
  refine ⟨?_, ?_⟩
  ·intro y0 y1 y2
   unfold fact_Check.j0
   repeat' first
   | (with_reducible exact ih0 _ _ _)
   | (with_reducible exact ih1 _ _ _ _)
   | (with_reducible exact fact_fine.mono _ _ _ _ _)
   | (with_reducible exact LeO.refl _)
   | (with_reducible exact LeO.none _)
   | (with_reducible refine LeO.ite ?_ ?_)
   | (with_reducible refine LeO.bind ?_ (fun _ => ?_))
   | exact ih0 _ _ _
   | exact ih1 _ _ _ _
   | exact fact_fine.mono _ _ _ _ _
   | exact LeO.none _
   | refine LeO.ite ?_ ?_
   | refine LeO.bind ?_ (fun _ => ?_)
  ·intro y0 y1 y2 y3
   unfold fact_Check.l0
   repeat' first
   | (with_reducible exact ih0 _ _ _)
   | (with_reducible exact ih1 _ _ _ _)
   | (with_reducible exact fact_fine.mono _ _ _ _ _)
   | (with_reducible exact LeO.refl _)
   | (with_reducible exact LeO.none _)
   | (with_reducible refine LeO.ite ?_ ?_)
   | (with_reducible refine LeO.bind ?_ (fun _ => ?_))
   | exact ih0 _ _ _
   | exact ih1 _ _ _ _
   | exact fact_fine.mono _ _ _ _ _
   | exact LeO.none _
   | refine LeO.ite ?_ ?_
   | refine LeO.bind ?_ (fun _ => ?_)
theorem fact_Check.mono : ∀ a0 a1 k, LeO (fact_Check.f k a0 a1) (fact_Check.f (k + 1) a0 a1) := by
 intro a0 a1 k
 obtain ⟨ih0, ih1⟩ := fact_Check.mono_l k
 unfold fact_Check.f
 repeat' first
   | (with_reducible exact ih0 _ _ _)
   | (with_reducible exact ih1 _ _ _ _)
   | (with_reducible exact fact_fine.mono _ _ _ _ _)
   | (with_reducible exact LeO.refl _)
   | (with_reducible exact LeO.none _)
   | (with_reducible refine LeO.ite ?_ ?_)
   | (with_reducible refine LeO.bind ?_ (fun _ => ?_))
   | exact ih0 _ _ _
   | exact ih1 _ _ _ _
   | exact fact_fine.mono _ _ _ _ _
   | exact LeO.none _
   | refine LeO.ite ?_ ?_
   | refine LeO.bind ?_ (fun _ => ?_)
set_option maxHeartbeats 8000000 in
set_option maxRecDepth 100000 in
theorem fact_Check.calls (k : Nat) (A0_0 : Option Addr) (c0_0 : Nat) (l0_0 : List (S44)) (A1 : Option Addr) (c1 : Nat) (l1 : List (S52)) (r : Int) (w : World) (hr0_0 : Kd.C k44 w A0_0 l0_0.length l0_0) (hc0_0 : l0_0.length ≤ c0_0) (hr1 : Kd.C k52 w A1 l1.length l1) (hc1 : l1.length ≤ c1) (h : fact_Check.f k l0_0 l1 = some r) :
  Calls Try.prog 14 #[.agg #[.slice A0_0 l0_0.length c0_0], .slice A1 l1.length c1] w fun e w' => e = .returned (.int .i64 r) ∧ Below w.heap.size w w' := by
 have hu24 := Try.underlying24
 have hu52 := Try.underlying52
 have HR0_0 := Aside0.mk hr0_0
 have HC0_0 := Aside0.mk hc0_0
 clear hr0_0 hc0_0
 have HR1 := Aside0.mk hr1
 have HC1 := Aside0.mk hc1
 clear hr1 hc1
 have HB := Aside0.mk (Below.refl w.heap.size w)
 have H : (if (l1.length : Int) = (l0_0.length : Int) then ((plan_Right.f l0_0).bind fun t132 => (fact_Check.j0 k l1 (!t132) l0_0)) else (fact_Check.j0 k l1 true l0_0)) = some r := h
 clear h
 have HC3 := Aside0.mk H
 clear H
 go_enter Try.func14, Try.ntmps14
 go_upto_region 1 with (first | ((with_reducible refine gate_dst (N := 2) rfl ?_); refine box_event ?hg (N := 2) ?hd (cs := #[.slice A0_0 l0_0.length c0_0]) (t := 24) ?hr ?_; (case hd => rfl); (case hg => rfl); (case hr => first | (go_simp; done) | (go_simp; rfl)); intro gb131 hg w4 hbox hb; have n0_ := Aside0.mk (below_step (by repeat (first | (with_reducible first | exact HB.out | apply below_alloc | apply pw_below_drewN | apply below_drew1) | exact HB.out)) hb); have n1_ := Aside0.mk (hbox); have n2_ := Aside0.mk ((by rw [hg]; exact (below_size (by repeat (first | (with_reducible first | exact HB.out | apply below_alloc | apply pw_below_drewN | apply below_drew1) | exact HB.out))) : w.heap.size ≤ gb131)); have n3_ := Aside0.mk ((by rw [hg]; exact (below_size (by repeat (first | (with_reducible first | exact HB.out | apply below_alloc | apply pw_below_drewN | apply below_drew1) | exact HB.out))) : w.heap.size ≤ gb131)); clear HB; have HB := n0_; have BK131 := n1_; have GW131 := n2_; have GE131 := n3_; clear n0_ n1_ n2_ n3_; clear hb hbox hg))
 (try simp only [Act.put, List.setIfInBounds_toArray, List.set_cons_zero, List.set_cons_succ])
 go_cut [17] (fun v17 wc => ∃ (kq : Nat) (x17_2 : Bool), v17 = .bool x17_2 ∧ Aside0 (fact_Check.j0 kq l1 x17_2 l0_0 = some r) ∧ Aside0 (kq ≤ k) ∧ Aside0 (wc.heap[gb131]? = some (.cells #[(.slice A0_0 l0_0.length c0_0)] 24 (0, 0))) ∧ Aside0 (Below w.heap.size w wc))
 case first =>
  have H := HC3.out
  clear HC3
  by_cases c5 : (l1.length : Int) = (l0_0.length : Int)
  ·rw [if_pos c5] at H
   have c5b0 : ((l1.length : Int) == (l0_0.length : Int)) = true := beq_iff_eq.mpr c5
   have c5b1 : ((l1.length : Int) != (l0_0.length : Int)) = false := bne_eq_false_iff_eq.mpr c5
   have c5b2 : (l1.length == l0_0.length) = true := by first | simpa using c5 | (simp at c5 ⊢; omega)
   clear c5
   (first | rw [c5b0] | (simp only [i64_w, i32_w]; rw [c5b0]) | skip)
   replace H := Option.bind_eq_some_iff.mp H
   obtain ⟨t132, A60, H⟩ := H
   replace H : (fact_Check.j0 k l1 (!t132) l0_0) = some r := H
   have A6 := Aside0.mk A60
   clear A60
   have H' := Aside0.mk H
   clear H
   have hcz7_0 : w4.cell? ⟨gb131, 0, none⟩ = some (.slice A0_0 l0_0.length c0_0) := (blk_cell BK131.out 0).trans rfl
   have hfz7_0 := blk_frozen BK131.out 0
   go_wp2_with (first | (go_at_call 19; (with_reducible refine (plan_Right.calls _ _ l0_0 t132 _ ?side1 ?side2 A6.out).mono ?_); (case side1 => repeat (first | exact (Kd.C_below HR0_0.out HB.out) | (with_reducible refine Kd.C_alloc ?_ _) | (with_reducible refine Kd.C_drewN ?_ _) | (with_reducible refine Kd.C_drew ?_))); (case side2 => exact HC0_0.out); rintro e w8 ⟨rfl, hb⟩; have n0_ := Aside0.mk (blk_below (g := gb131) (o := .cells #[.slice A0_0 l0_0.length c0_0] 24 (0, 0)) (by (with_reducible repeat (first | refine blk_drewN ?_ _ | refine blk_drew ?_ | refine blk_alloc ?_ _)); exact BK131.out) hb); have n1_ := Aside0.mk (below_step (by repeat (first | (with_reducible first | exact HB.out | apply below_alloc | apply pw_below_drewN | apply below_drew1 | refine below_set ?_ GE131.out) | exact HB.out)) hb); clear BK131; clear HB; have BK131 := n0_; have HB := n1_; clear n0_ n1_; (try clear hb); (try clear hb2); (try clear hk); (try clear hi)))
   go_meet
   case rel => exact ⟨_, (!t132), (by first | rfl | (simp; done) | (simp [*]; done)), H', ⟨by first | omega | exact Nat.le_refl _⟩, ⟨by (with_reducible repeat (first | refine blk_drewN ?_ _ | refine blk_drew ?_ | refine blk_alloc ?_ _)); exact BK131.out⟩, ⟨by repeat (first | (with_reducible first | exact HB.out | apply below_alloc | apply pw_below_drewN | apply below_drew1 | refine below_set ?_ GE131.out) | exact HB.out)⟩⟩
  ·rw [if_neg c5] at H
   have c5b0 : ((l1.length : Int) == (l0_0.length : Int)) = false := beq_eq_false_iff_ne.mpr c5
   have c5b1 : ((l1.length : Int) != (l0_0.length : Int)) = true := bne_iff_ne.mpr c5
   have c5b2 : (l1.length == l0_0.length) = false := by first | simpa using c5 | (simp at c5 ⊢; omega)
   (first | rw [c5b0] | (simp only [i64_w, i32_w]; rw [c5b0]) | skip)
   have H' := Aside0.mk H
   clear H
   have hcz9_0 : w4.cell? ⟨gb131, 0, none⟩ = some (.slice A0_0 l0_0.length c0_0) := (blk_cell BK131.out 0).trans rfl
   have hfz9_0 := blk_frozen BK131.out 0
   go_wp2
   go_meet
   case rel => exact ⟨_, (true), (by first | rfl | (simp; done) | (simp [*]; done)), H', ⟨by first | omega | exact Nat.le_refl _⟩, ⟨by (with_reducible repeat (first | refine blk_drewN ?_ _ | refine blk_drew ?_ | refine blk_alloc ?_ _)); exact BK131.out⟩, ⟨by repeat (first | (with_reducible first | exact HB.out | apply below_alloc | apply pw_below_drewN | apply below_drew1 | refine below_set ?_ GE131.out) | exact HB.out)⟩⟩
 case rest =>
  clear HC3
  try clear c1
  try clear p2
  try clear c5
  try clear c5b0
  try clear c5b1
  try clear c5b2
  try clear hcz7_0
  try clear hcz9_0
  try clear hfz7_0
  try clear hfz9_0
  obtain ⟨kq, x17_2, rfl, HA, HJ2, BK131, HB⟩ := hcut
  cases kq with
  | zero => exact absurd HA.out (by simp [fact_Check.j0])
  | succ kj2 =>
   have H := HA.out
   clear HA
   simp only [fact_Check.j0] at H
   by_cases c10 : x17_2 = true
   ·subst c10
    have H1 : (some 2) = some r := by rw [if_pos rfl] at H; exact H
    clear H
    have H := H1
    clear H1
    obtain rfl := Option.some.inj H
    go_wp2
    go_ret
    exact ⟨by first | rfl | (simp [errW_none, errW_some] <;> rfl) | (simp [*, errW_none, errW_some] <;> rfl), by repeat (first | (with_reducible first | exact HB.out | apply below_alloc | apply pw_below_drewN | apply below_drew1 | refine below_set ?_ GE131.out) | exact HB.out)⟩
   ·replace c10 := Bool.eq_false_iff.mpr c10
    subst c10
    have H1 : (fact_Check.l0 kj2 l1 (l1.length : Int) 0 l0_0) = some r := by rw [if_neg (show ¬ (false = true) by decide)] at H; exact H
    clear H
    have H := H1
    clear H1
    have H' := Aside0.mk H
    clear H
    go_wp2
    go_loopg [20] kj2 (fun kq v20 w' => ∃ (x20_2 : Int), v20 = .int .i64 x20_2 ∧ Aside0 (fact_Check.l0 kq l1 (l1.length : Int) x20_2 l0_0 = some r) ∧ Aside0 (kq ≤ kj2) ∧ Aside0 (w'.heap[gb131]? = some (.cells #[(.slice A0_0 l0_0.length c0_0)] 24 (0, 0))) ∧ Aside0 (Below w.heap.size w w'))
    case atStart => exact ⟨(0), (by first | rfl | (simp; done) | (simp [*]; done)), H', ⟨Nat.le_refl _⟩, ⟨by (with_reducible repeat (first | refine blk_drewN ?_ _ | refine blk_drew ?_ | refine blk_alloc ?_ _)); exact BK131.out⟩, ⟨by repeat (first | (with_reducible first | exact HB.out | apply below_alloc | apply pw_below_drewN | apply below_drew1 | refine below_set ?_ GE131.out) | exact HB.out)⟩⟩
    case round =>
     clear H'
     try clear c1
     try clear p2
     try clear c5
     try clear c5b0
     try clear c5b1
     try clear c5b2
     try clear c10
     try clear hcz7_0
     try clear hcz9_0
     try clear hfz7_0
     try clear hfz9_0
     try clear p2
     obtain ⟨x20_2, rfl, HA, HK2, BK131, HB⟩ := hrel
     cases gk with
     | zero => exact absurd HA.out (by simp [fact_Check.l0])
     | succ k2 =>
      have H := HA.out
      clear HA
      simp only [fact_Check.l0] at H
      by_cases c11 : x20_2 < (l1.length : Int)
      ·rw [if_pos c11] at H
       have c11b0 : decide (x20_2 < (l1.length : Int)) = true := decide_eq_true c11
       clear c11
       by_cases c12 : 0 ≤ x20_2
       ·rw [if_pos c12] at H
        have c12b0 : decide (0 ≤ x20_2) = true := decide_eq_true c12
        clear c12
        by_cases c13 : x20_2 < (l1.length : Int)
        ·rw [if_pos c13] at H
         have c13b0 : decide (x20_2 < (l1.length : Int)) = true := decide_eq_true c13
         clear c13
         replace H := Option.bind_eq_some_iff.mp H
         obtain ⟨t135, A140, H⟩ := H
         replace H : (if t135 = true then (if x20_2 < (l0_0.length : Int) then (if (rd_T44 l0_0 x20_2).f2 = true then (if (!(((rd_T52 l1 x20_2).f0) == 0) || (!(((rd_T52 l1 x20_2).f1) == 0) || (!(((rd_T52 l1 x20_2).f2) == 0) || (((rd_T52 l1 x20_2).f3))))) = true then (some 2) else (fact_Check.l0 k2 l1 (l1.length : Int) (wrap64 (x20_2 + 1)) l0_0)) else (fact_Check.l0 k2 l1 (l1.length : Int) (wrap64 (x20_2 + 1)) l0_0)) else (none)) else (some 2)) = some r := H
         have A14 := Aside0.mk A140
         clear A140
         by_cases c15 : t135 = true
         ·subst c15
          have H1 : (if x20_2 < (l0_0.length : Int) then (if (rd_T44 l0_0 x20_2).f2 = true then (if (!(((rd_T52 l1 x20_2).f0) == 0) || (!(((rd_T52 l1 x20_2).f1) == 0) || (!(((rd_T52 l1 x20_2).f2) == 0) || (((rd_T52 l1 x20_2).f3))))) = true then (some 2) else (fact_Check.l0 k2 l1 (l1.length : Int) (wrap64 (x20_2 + 1)) l0_0)) else (fact_Check.l0 k2 l1 (l1.length : Int) (wrap64 (x20_2 + 1)) l0_0)) else (none)) = some r := by rw [if_pos rfl] at H; exact H
          clear H
          have H := H1
          clear H1
          by_cases c16 : x20_2 < (l0_0.length : Int)
          ·rw [if_pos c16] at H
           have c16b0 : decide (x20_2 < (l0_0.length : Int)) = true := decide_eq_true c16
           clear c16
           obtain ⟨bq17, hbq17⟩ : ∃ b_ : Bool, b_ = ((rd_T44 l0_0 x20_2).f2) := ⟨_, rfl⟩
           replace H : (if bq17 = true then (if (!(((rd_T52 l1 x20_2).f0) == 0) || (!(((rd_T52 l1 x20_2).f1) == 0) || (!(((rd_T52 l1 x20_2).f2) == 0) || (((rd_T52 l1 x20_2).f3))))) = true then (some 2) else (fact_Check.l0 k2 l1 (l1.length : Int) (wrap64 (x20_2 + 1)) l0_0)) else (fact_Check.l0 k2 l1 (l1.length : Int) (wrap64 (x20_2 + 1)) l0_0)) = some r := by rw [← hbq17] at H; exact H
           have Nbq17 := Aside0.mk hbq17
           clear hbq17
           by_cases c18 : bq17 = true
           ·subst c18
            have H1 : (if (!(((rd_T52 l1 x20_2).f0) == 0) || (!(((rd_T52 l1 x20_2).f1) == 0) || (!(((rd_T52 l1 x20_2).f2) == 0) || (((rd_T52 l1 x20_2).f3))))) = true then (some 2) else (fact_Check.l0 k2 l1 (l1.length : Int) (wrap64 (x20_2 + 1)) l0_0)) = some r := by rw [if_pos rfl] at H; exact H
            clear H
            have H := H1
            clear H1
            by_cases c19 : (!(((rd_T52 l1 x20_2).f0) == 0) || (!(((rd_T52 l1 x20_2).f1) == 0) || (!(((rd_T52 l1 x20_2).f2) == 0) || (((rd_T52 l1 x20_2).f3))))) = true
            ·rw [if_pos c19] at H
             have c19b0 : (!(((rd_T52 l1 x20_2).f0) == 0) || (!(((rd_T52 l1 x20_2).f1) == 0) || (!(((rd_T52 l1 x20_2).f2) == 0) || (((rd_T52 l1 x20_2).f3))))) = true := c19
             clear c19
             obtain rfl := Option.some.inj H
             have p133 : 0 ≤ (x20_2 : Int) := of_decide_eq_true (by first | (with_reducible assumption) | assumption)
             have q133 : x20_2 < (l1.length : Int) := of_decide_eq_true (by first | (with_reducible assumption) | assumption)
             obtain ⟨ad133, e133, hx133_0, hx133_1, hx133_2, hx133_3⟩ := at_T52 HR1.out x20_2 p133 q133
             (try rw [← Nbq17.out] at hx133_3)
             cases e133
             replace hx133_0 := (HB.out.cell (World.block_lt_of_cell? w _ hx133_0)).trans hx133_0
             replace hx133_1 := (HB.out.cell (World.block_lt_of_cell? w _ hx133_1)).trans hx133_1
             replace hx133_2 := (HB.out.cell (World.block_lt_of_cell? w _ hx133_2)).trans hx133_2
             replace hx133_3 := (HB.out.cell (World.block_lt_of_cell? w _ hx133_3)).trans hx133_3
             replace p133 := eq_true p133
             replace q133 := eq_true q133
             go_wp2_with (first | ((with_reducible refine gate_dst (N := 6) rfl ?_); refine box_event ?hg (N := 6) ?hd (cs := #[.int .i64 0, .int .i64 0, .int .i64 0, .bool false]) (t := 52) ?hr ?_; (case hd => rfl); (case hg => rfl); (case hr => first | (go_simp; done) | (go_simp; rfl)); intro gb134 hg w20 hbox hb; have n0_ := Aside0.mk (blk_below (g := gb131) (o := .cells #[.slice A0_0 l0_0.length c0_0] 24 (0, 0)) (by (with_reducible repeat (first | refine blk_drewN ?_ _ | refine blk_drew ?_ | refine blk_alloc ?_ _)); exact BK131.out) hb); have n1_ := Aside0.mk (below_step (by repeat (first | (with_reducible first | exact HB.out | apply below_alloc | apply pw_below_drewN | apply below_drew1 | refine below_set ?_ GE131.out) | exact HB.out)) hb); have n2_ := Aside0.mk (hbox); have n3_ := Aside0.mk ((by rw [hg]; exact (below_size (by repeat (first | (with_reducible first | exact HB.out | apply below_alloc | apply pw_below_drewN | apply below_drew1 | refine below_set ?_ GE131.out) | exact HB.out))) : w.heap.size ≤ gb134)); have n4_ := Aside0.mk ((by rw [hg]; exact (below_size (by repeat (first | (with_reducible first | exact HB.out | apply below_alloc | apply pw_below_drewN | apply below_drew1 | refine below_set ?_ GE131.out) | exact HB.out))) : w.heap.size ≤ gb134)); have n5_ := Aside0.mk ((by rw [hg]; exact Nat.ne_of_lt (blk_lt (g := gb131) (o := .cells #[.slice A0_0 l0_0.length c0_0] 24 (0, 0)) (by (with_reducible repeat (first | refine blk_drewN ?_ _ | refine blk_drew ?_ | refine blk_alloc ?_ _)); exact BK131.out)) : gb131 ≠ gb134)); have n6_ := Aside0.mk ((by rw [hg]; exact Nat.ne_of_gt (blk_lt (g := gb131) (o := .cells #[.slice A0_0 l0_0.length c0_0] 24 (0, 0)) (by (with_reducible repeat (first | refine blk_drewN ?_ _ | refine blk_drew ?_ | refine blk_alloc ?_ _)); exact BK131.out)) : gb134 ≠ gb131)); clear BK131; clear HB; have BK131 := n0_; have HB := n1_; have BK134 := n2_; have GW134 := n3_; have GE134 := n4_; have NB131_134 := n5_; have NB134_131 := n6_; clear n0_ n1_ n2_ n3_ n4_ n5_ n6_; clear hb hbox hg; have hnb21 := NB134_131.out; have hnc21 := NB131_134.out; have hcz22_0 : w20.cell? ⟨gb134, 0, none⟩ = some (.int .i64 0) := (blk_cell BK134.out 0).trans rfl; have hcz22_1 : w20.cell? ⟨gb134, 1, none⟩ = some (.int .i64 0) := (blk_cell BK134.out 1).trans rfl; have hcz22_2 : w20.cell? ⟨gb134, 2, none⟩ = some (.int .i64 0) := (blk_cell BK134.out 2).trans rfl; have hcz22_3 : w20.cell? ⟨gb134, 3, none⟩ = some (.bool false) := (blk_cell BK134.out 3).trans rfl; have hfz22_0 := blk_frozen BK134.out 0; have hfz22_1 := blk_frozen BK134.out 1; have hfz22_2 := blk_frozen BK134.out 2; have hfz22_3 := blk_frozen BK134.out 3) | ((with_reducible refine gate_callee (f := 20) rfl ?_); refine goesL_ (some 26) rfl rfl Try.func20 (by kernel_rfl) rfl #[.agg #[.int .i64 ((rd_T52 l1 x20_2).f0), .int .i64 ((rd_T52 l1 x20_2).f1), .int .i64 ((rd_T52 l1 x20_2).f2), .bool ((rd_T52 l1 x20_2).f3)]] rfl (by (try simp only [List.map_toArray, List.map_cons, List.map_nil]); first | done | rfl | (simp only [List.length_drop, List.length_take]; rfl)) ?_; (with_reducible refine (fact_fine.calls k2 ((rd_T52 l1 x20_2).f0) ((rd_T52 l1 x20_2).f1) ((rd_T52 l1 x20_2).f2) ((rd_T52 l1 x20_2).f3) true _ A14.out).mono ?_); rintro e w23 ⟨rfl, hb⟩; refine ⟨_, rfl, ?_⟩; have n0_ := Aside0.mk (blk_below (g := gb131) (o := .cells #[.slice A0_0 l0_0.length c0_0] 24 (0, 0)) (by (with_reducible repeat (first | refine blk_drewN ?_ _ | refine blk_drew ?_ | refine blk_alloc ?_ _)); refine blk_far ?_ NB131_134.out _; (with_reducible repeat (first | refine blk_drewN ?_ _ | refine blk_drew ?_ | refine blk_alloc ?_ _)); refine blk_far ?_ NB131_134.out _; (with_reducible repeat (first | refine blk_drewN ?_ _ | refine blk_drew ?_ | refine blk_alloc ?_ _)); refine blk_far ?_ NB131_134.out _; (with_reducible repeat (first | refine blk_drewN ?_ _ | refine blk_drew ?_ | refine blk_alloc ?_ _)); refine blk_far ?_ NB131_134.out _; (with_reducible repeat (first | refine blk_drewN ?_ _ | refine blk_drew ?_ | refine blk_alloc ?_ _)); exact BK131.out) hb); have n1_ := Aside0.mk (blk_below (g := gb134) (o := .cells #[.int .i64 ((rd_T52 l1 x20_2).f0), .int .i64 ((rd_T52 l1 x20_2).f1), .int .i64 ((rd_T52 l1 x20_2).f2), .bool ((rd_T52 l1 x20_2).f3)] 52 (0, 0)) (by (with_reducible repeat (first | refine blk_drewN ?_ _ | refine blk_drew ?_ | refine blk_alloc ?_ _)); refine blk_put (cs := #[.int .i64 ((rd_T52 l1 x20_2).f0), .int .i64 ((rd_T52 l1 x20_2).f1), .int .i64 ((rd_T52 l1 x20_2).f2), .bool false]) ?_ 3 _ rfl; (with_reducible repeat (first | refine blk_drewN ?_ _ | refine blk_drew ?_ | refine blk_alloc ?_ _)); refine blk_put (cs := #[.int .i64 ((rd_T52 l1 x20_2).f0), .int .i64 ((rd_T52 l1 x20_2).f1), .int .i64 0, .bool false]) ?_ 2 _ rfl; (with_reducible repeat (first | refine blk_drewN ?_ _ | refine blk_drew ?_ | refine blk_alloc ?_ _)); refine blk_put (cs := #[.int .i64 ((rd_T52 l1 x20_2).f0), .int .i64 0, .int .i64 0, .bool false]) ?_ 1 _ rfl; (with_reducible repeat (first | refine blk_drewN ?_ _ | refine blk_drew ?_ | refine blk_alloc ?_ _)); refine blk_put (cs := #[.int .i64 0, .int .i64 0, .int .i64 0, .bool false]) ?_ 0 _ rfl; (with_reducible repeat (first | refine blk_drewN ?_ _ | refine blk_drew ?_ | refine blk_alloc ?_ _)); exact BK134.out) hb); have n2_ := Aside0.mk (below_step (by repeat (first | (with_reducible first | exact HB.out | apply below_alloc | apply pw_below_drewN | apply below_drew1 | refine below_set ?_ GE131.out | refine below_set ?_ GE134.out) | exact HB.out)) hb); clear BK131; clear BK134; clear HB; have BK131 := n0_; have BK134 := n1_; have HB := n2_; clear n0_ n1_ n2_; (try clear hb); (try clear hb2); (try clear hk); (try clear hi); have hcz24_0 : w23.cell? ⟨gb131, 0, none⟩ = some (.slice A0_0 l0_0.length c0_0) := (blk_cell BK131.out 0).trans rfl; have hfz24_0 := blk_frozen BK131.out 0; have p136 : 0 ≤ (x20_2 : Int) := of_decide_eq_true (by first | (with_reducible assumption) | assumption); have q136 : x20_2 < (l0_0.length : Int) := of_decide_eq_true (by first | (with_reducible assumption) | assumption); obtain ⟨ad136, A136_7, c136_7, e136, hx136_0, hx136_1, hx136_2, hx136_3, hx136_4, hx136_5, hx136_6, hx136_7, hl136_7, hi136_7⟩ := at_T44 HR0_0.out x20_2 p136 q136; (try rw [← Nbq17.out] at hx136_2); (try rw [← Nbq17.out] at hx136_3); cases e136; replace hx136_0 := (HB.out.cell (World.block_lt_of_cell? w _ hx136_0)).trans hx136_0; replace hx136_1 := (HB.out.cell (World.block_lt_of_cell? w _ hx136_1)).trans hx136_1; replace hx136_2 := (HB.out.cell (World.block_lt_of_cell? w _ hx136_2)).trans hx136_2; replace hx136_3 := (HB.out.cell (World.block_lt_of_cell? w _ hx136_3)).trans hx136_3; replace hx136_4 := (HB.out.cell (World.block_lt_of_cell? w _ hx136_4)).trans hx136_4; replace hx136_5 := (HB.out.cell (World.block_lt_of_cell? w _ hx136_5)).trans hx136_5; replace hx136_6 := (HB.out.cell (World.block_lt_of_cell? w _ hx136_6)).trans hx136_6; replace hx136_7 := (HB.out.cell (World.block_lt_of_cell? w _ hx136_7)).trans hx136_7; have HR136_7 := Aside0.mk hi136_7; have HC136_7 := Aside0.mk hl136_7; clear hi136_7 hl136_7; replace p136 := eq_true p136; replace q136 := eq_true q136; have hcz25_0 : w23.cell? ⟨gb134, 0, none⟩ = some (.int .i64 ((rd_T52 l1 x20_2).f0)) := (blk_cell BK134.out 0).trans rfl; have hcz25_1 : w23.cell? ⟨gb134, 1, none⟩ = some (.int .i64 ((rd_T52 l1 x20_2).f1)) := (blk_cell BK134.out 1).trans rfl; have hcz25_2 : w23.cell? ⟨gb134, 2, none⟩ = some (.int .i64 ((rd_T52 l1 x20_2).f2)) := (blk_cell BK134.out 2).trans rfl; have hcz25_3 : w23.cell? ⟨gb134, 3, none⟩ = some (.bool ((rd_T52 l1 x20_2).f3)) := (blk_cell BK134.out 3).trans rfl; have hfz25_0 := blk_frozen BK134.out 0; have hfz25_1 := blk_frozen BK134.out 1; have hfz25_2 := blk_frozen BK134.out 2; have hfz25_3 := blk_frozen BK134.out 3))
             go_ret
             exact ⟨by first | rfl | (simp [errW_none, errW_some] <;> rfl) | (simp [*, errW_none, errW_some] <;> rfl), by repeat (first | (with_reducible first | exact HB.out | apply below_alloc | apply pw_below_drewN | apply below_drew1 | refine below_set ?_ GE131.out | refine below_set ?_ GE134.out) | exact HB.out)⟩
            ·rw [if_neg c19] at H
             have c19b0 : (!(((rd_T52 l1 x20_2).f0) == 0) || (!(((rd_T52 l1 x20_2).f1) == 0) || (!(((rd_T52 l1 x20_2).f2) == 0) || (((rd_T52 l1 x20_2).f3))))) = false := by simpa using c19
             clear c19
             have H' := Aside0.mk H
             clear H
             have p133 : 0 ≤ (x20_2 : Int) := of_decide_eq_true (by first | (with_reducible assumption) | assumption)
             have q133 : x20_2 < (l1.length : Int) := of_decide_eq_true (by first | (with_reducible assumption) | assumption)
             obtain ⟨ad133, e133, hx133_0, hx133_1, hx133_2, hx133_3⟩ := at_T52 HR1.out x20_2 p133 q133
             (try rw [← Nbq17.out] at hx133_3)
             cases e133
             replace hx133_0 := (HB.out.cell (World.block_lt_of_cell? w _ hx133_0)).trans hx133_0
             replace hx133_1 := (HB.out.cell (World.block_lt_of_cell? w _ hx133_1)).trans hx133_1
             replace hx133_2 := (HB.out.cell (World.block_lt_of_cell? w _ hx133_2)).trans hx133_2
             replace hx133_3 := (HB.out.cell (World.block_lt_of_cell? w _ hx133_3)).trans hx133_3
             replace p133 := eq_true p133
             replace q133 := eq_true q133
             go_wp2_with (first | ((with_reducible refine gate_dst (N := 6) rfl ?_); refine box_event ?hg (N := 6) ?hd (cs := #[.int .i64 0, .int .i64 0, .int .i64 0, .bool false]) (t := 52) ?hr ?_; (case hd => rfl); (case hg => rfl); (case hr => first | (go_simp; done) | (go_simp; rfl)); intro gb134 hg w26 hbox hb; have n0_ := Aside0.mk (blk_below (g := gb131) (o := .cells #[.slice A0_0 l0_0.length c0_0] 24 (0, 0)) (by (with_reducible repeat (first | refine blk_drewN ?_ _ | refine blk_drew ?_ | refine blk_alloc ?_ _)); exact BK131.out) hb); have n1_ := Aside0.mk (below_step (by repeat (first | (with_reducible first | exact HB.out | apply below_alloc | apply pw_below_drewN | apply below_drew1 | refine below_set ?_ GE131.out) | exact HB.out)) hb); have n2_ := Aside0.mk (hbox); have n3_ := Aside0.mk ((by rw [hg]; exact (below_size (by repeat (first | (with_reducible first | exact HB.out | apply below_alloc | apply pw_below_drewN | apply below_drew1 | refine below_set ?_ GE131.out) | exact HB.out))) : w.heap.size ≤ gb134)); have n4_ := Aside0.mk ((by rw [hg]; exact (below_size (by repeat (first | (with_reducible first | exact HB.out | apply below_alloc | apply pw_below_drewN | apply below_drew1 | refine below_set ?_ GE131.out) | exact HB.out))) : w.heap.size ≤ gb134)); have n5_ := Aside0.mk ((by rw [hg]; exact Nat.ne_of_lt (blk_lt (g := gb131) (o := .cells #[.slice A0_0 l0_0.length c0_0] 24 (0, 0)) (by (with_reducible repeat (first | refine blk_drewN ?_ _ | refine blk_drew ?_ | refine blk_alloc ?_ _)); exact BK131.out)) : gb131 ≠ gb134)); have n6_ := Aside0.mk ((by rw [hg]; exact Nat.ne_of_gt (blk_lt (g := gb131) (o := .cells #[.slice A0_0 l0_0.length c0_0] 24 (0, 0)) (by (with_reducible repeat (first | refine blk_drewN ?_ _ | refine blk_drew ?_ | refine blk_alloc ?_ _)); exact BK131.out)) : gb134 ≠ gb131)); clear BK131; clear HB; have BK131 := n0_; have HB := n1_; have BK134 := n2_; have GW134 := n3_; have GE134 := n4_; have NB131_134 := n5_; have NB134_131 := n6_; clear n0_ n1_ n2_ n3_ n4_ n5_ n6_; clear hb hbox hg; have hnb27 := NB134_131.out; have hnc27 := NB131_134.out; have hcz28_0 : w26.cell? ⟨gb134, 0, none⟩ = some (.int .i64 0) := (blk_cell BK134.out 0).trans rfl; have hcz28_1 : w26.cell? ⟨gb134, 1, none⟩ = some (.int .i64 0) := (blk_cell BK134.out 1).trans rfl; have hcz28_2 : w26.cell? ⟨gb134, 2, none⟩ = some (.int .i64 0) := (blk_cell BK134.out 2).trans rfl; have hcz28_3 : w26.cell? ⟨gb134, 3, none⟩ = some (.bool false) := (blk_cell BK134.out 3).trans rfl; have hfz28_0 := blk_frozen BK134.out 0; have hfz28_1 := blk_frozen BK134.out 1; have hfz28_2 := blk_frozen BK134.out 2; have hfz28_3 := blk_frozen BK134.out 3) | ((with_reducible refine gate_callee (f := 20) rfl ?_); refine goesL_ (some 26) rfl rfl Try.func20 (by kernel_rfl) rfl #[.agg #[.int .i64 ((rd_T52 l1 x20_2).f0), .int .i64 ((rd_T52 l1 x20_2).f1), .int .i64 ((rd_T52 l1 x20_2).f2), .bool ((rd_T52 l1 x20_2).f3)]] rfl (by (try simp only [List.map_toArray, List.map_cons, List.map_nil]); first | done | rfl | (simp only [List.length_drop, List.length_take]; rfl)) ?_; (with_reducible refine (fact_fine.calls k2 ((rd_T52 l1 x20_2).f0) ((rd_T52 l1 x20_2).f1) ((rd_T52 l1 x20_2).f2) ((rd_T52 l1 x20_2).f3) true _ A14.out).mono ?_); rintro e w29 ⟨rfl, hb⟩; refine ⟨_, rfl, ?_⟩; have n0_ := Aside0.mk (blk_below (g := gb131) (o := .cells #[.slice A0_0 l0_0.length c0_0] 24 (0, 0)) (by (with_reducible repeat (first | refine blk_drewN ?_ _ | refine blk_drew ?_ | refine blk_alloc ?_ _)); refine blk_far ?_ NB131_134.out _; (with_reducible repeat (first | refine blk_drewN ?_ _ | refine blk_drew ?_ | refine blk_alloc ?_ _)); refine blk_far ?_ NB131_134.out _; (with_reducible repeat (first | refine blk_drewN ?_ _ | refine blk_drew ?_ | refine blk_alloc ?_ _)); refine blk_far ?_ NB131_134.out _; (with_reducible repeat (first | refine blk_drewN ?_ _ | refine blk_drew ?_ | refine blk_alloc ?_ _)); refine blk_far ?_ NB131_134.out _; (with_reducible repeat (first | refine blk_drewN ?_ _ | refine blk_drew ?_ | refine blk_alloc ?_ _)); exact BK131.out) hb); have n1_ := Aside0.mk (blk_below (g := gb134) (o := .cells #[.int .i64 ((rd_T52 l1 x20_2).f0), .int .i64 ((rd_T52 l1 x20_2).f1), .int .i64 ((rd_T52 l1 x20_2).f2), .bool ((rd_T52 l1 x20_2).f3)] 52 (0, 0)) (by (with_reducible repeat (first | refine blk_drewN ?_ _ | refine blk_drew ?_ | refine blk_alloc ?_ _)); refine blk_put (cs := #[.int .i64 ((rd_T52 l1 x20_2).f0), .int .i64 ((rd_T52 l1 x20_2).f1), .int .i64 ((rd_T52 l1 x20_2).f2), .bool false]) ?_ 3 _ rfl; (with_reducible repeat (first | refine blk_drewN ?_ _ | refine blk_drew ?_ | refine blk_alloc ?_ _)); refine blk_put (cs := #[.int .i64 ((rd_T52 l1 x20_2).f0), .int .i64 ((rd_T52 l1 x20_2).f1), .int .i64 0, .bool false]) ?_ 2 _ rfl; (with_reducible repeat (first | refine blk_drewN ?_ _ | refine blk_drew ?_ | refine blk_alloc ?_ _)); refine blk_put (cs := #[.int .i64 ((rd_T52 l1 x20_2).f0), .int .i64 0, .int .i64 0, .bool false]) ?_ 1 _ rfl; (with_reducible repeat (first | refine blk_drewN ?_ _ | refine blk_drew ?_ | refine blk_alloc ?_ _)); refine blk_put (cs := #[.int .i64 0, .int .i64 0, .int .i64 0, .bool false]) ?_ 0 _ rfl; (with_reducible repeat (first | refine blk_drewN ?_ _ | refine blk_drew ?_ | refine blk_alloc ?_ _)); exact BK134.out) hb); have n2_ := Aside0.mk (below_step (by repeat (first | (with_reducible first | exact HB.out | apply below_alloc | apply pw_below_drewN | apply below_drew1 | refine below_set ?_ GE131.out | refine below_set ?_ GE134.out) | exact HB.out)) hb); clear BK131; clear BK134; clear HB; have BK131 := n0_; have BK134 := n1_; have HB := n2_; clear n0_ n1_ n2_; (try clear hb); (try clear hb2); (try clear hk); (try clear hi); have hcz30_0 : w29.cell? ⟨gb131, 0, none⟩ = some (.slice A0_0 l0_0.length c0_0) := (blk_cell BK131.out 0).trans rfl; have hfz30_0 := blk_frozen BK131.out 0; have p136 : 0 ≤ (x20_2 : Int) := of_decide_eq_true (by first | (with_reducible assumption) | assumption); have q136 : x20_2 < (l0_0.length : Int) := of_decide_eq_true (by first | (with_reducible assumption) | assumption); obtain ⟨ad136, A136_7, c136_7, e136, hx136_0, hx136_1, hx136_2, hx136_3, hx136_4, hx136_5, hx136_6, hx136_7, hl136_7, hi136_7⟩ := at_T44 HR0_0.out x20_2 p136 q136; (try rw [← Nbq17.out] at hx136_2); (try rw [← Nbq17.out] at hx136_3); cases e136; replace hx136_0 := (HB.out.cell (World.block_lt_of_cell? w _ hx136_0)).trans hx136_0; replace hx136_1 := (HB.out.cell (World.block_lt_of_cell? w _ hx136_1)).trans hx136_1; replace hx136_2 := (HB.out.cell (World.block_lt_of_cell? w _ hx136_2)).trans hx136_2; replace hx136_3 := (HB.out.cell (World.block_lt_of_cell? w _ hx136_3)).trans hx136_3; replace hx136_4 := (HB.out.cell (World.block_lt_of_cell? w _ hx136_4)).trans hx136_4; replace hx136_5 := (HB.out.cell (World.block_lt_of_cell? w _ hx136_5)).trans hx136_5; replace hx136_6 := (HB.out.cell (World.block_lt_of_cell? w _ hx136_6)).trans hx136_6; replace hx136_7 := (HB.out.cell (World.block_lt_of_cell? w _ hx136_7)).trans hx136_7; have HR136_7 := Aside0.mk hi136_7; have HC136_7 := Aside0.mk hl136_7; clear hi136_7 hl136_7; replace p136 := eq_true p136; replace q136 := eq_true q136; have hcz31_0 : w29.cell? ⟨gb134, 0, none⟩ = some (.int .i64 ((rd_T52 l1 x20_2).f0)) := (blk_cell BK134.out 0).trans rfl; have hcz31_1 : w29.cell? ⟨gb134, 1, none⟩ = some (.int .i64 ((rd_T52 l1 x20_2).f1)) := (blk_cell BK134.out 1).trans rfl; have hcz31_2 : w29.cell? ⟨gb134, 2, none⟩ = some (.int .i64 ((rd_T52 l1 x20_2).f2)) := (blk_cell BK134.out 2).trans rfl; have hcz31_3 : w29.cell? ⟨gb134, 3, none⟩ = some (.bool ((rd_T52 l1 x20_2).f3)) := (blk_cell BK134.out 3).trans rfl; have hfz31_0 := blk_frozen BK134.out 0; have hfz31_1 := blk_frozen BK134.out 1; have hfz31_2 := blk_frozen BK134.out 2; have hfz31_3 := blk_frozen BK134.out 3))
             go_roundg k2
             case measure => have := HJ2.out; have := HK2.out; omega
             case rel => exact ⟨(wrap64 (x20_2 + 1)), (by first | rfl | (simp; done) | (simp [*]; done)), H', ⟨by have := HJ2.out; have := HK2.out; omega⟩, ⟨by (with_reducible repeat (first | refine blk_drewN ?_ _ | refine blk_drew ?_ | refine blk_alloc ?_ _)); exact BK131.out⟩, ⟨by repeat (first | (with_reducible first | exact HB.out | apply below_alloc | apply pw_below_drewN | apply below_drew1 | refine below_set ?_ GE131.out | refine below_set ?_ GE134.out) | exact HB.out)⟩⟩
           ·replace c18 := Bool.eq_false_iff.mpr c18
            subst c18
            have H1 : (fact_Check.l0 k2 l1 (l1.length : Int) (wrap64 (x20_2 + 1)) l0_0) = some r := by rw [if_neg (show ¬ (false = true) by decide)] at H; exact H
            clear H
            have H := H1
            clear H1
            have H' := Aside0.mk H
            clear H
            have p133 : 0 ≤ (x20_2 : Int) := of_decide_eq_true (by first | (with_reducible assumption) | assumption)
            have q133 : x20_2 < (l1.length : Int) := of_decide_eq_true (by first | (with_reducible assumption) | assumption)
            obtain ⟨ad133, e133, hx133_0, hx133_1, hx133_2, hx133_3⟩ := at_T52 HR1.out x20_2 p133 q133
            (try rw [← Nbq17.out] at hx133_3)
            cases e133
            replace hx133_0 := (HB.out.cell (World.block_lt_of_cell? w _ hx133_0)).trans hx133_0
            replace hx133_1 := (HB.out.cell (World.block_lt_of_cell? w _ hx133_1)).trans hx133_1
            replace hx133_2 := (HB.out.cell (World.block_lt_of_cell? w _ hx133_2)).trans hx133_2
            replace hx133_3 := (HB.out.cell (World.block_lt_of_cell? w _ hx133_3)).trans hx133_3
            replace p133 := eq_true p133
            replace q133 := eq_true q133
            go_wp2_with (first | ((with_reducible refine gate_dst (N := 6) rfl ?_); refine box_event ?hg (N := 6) ?hd (cs := #[.int .i64 0, .int .i64 0, .int .i64 0, .bool false]) (t := 52) ?hr ?_; (case hd => rfl); (case hg => rfl); (case hr => first | (go_simp; done) | (go_simp; rfl)); intro gb134 hg w32 hbox hb; have n0_ := Aside0.mk (blk_below (g := gb131) (o := .cells #[.slice A0_0 l0_0.length c0_0] 24 (0, 0)) (by (with_reducible repeat (first | refine blk_drewN ?_ _ | refine blk_drew ?_ | refine blk_alloc ?_ _)); exact BK131.out) hb); have n1_ := Aside0.mk (below_step (by repeat (first | (with_reducible first | exact HB.out | apply below_alloc | apply pw_below_drewN | apply below_drew1 | refine below_set ?_ GE131.out) | exact HB.out)) hb); have n2_ := Aside0.mk (hbox); have n3_ := Aside0.mk ((by rw [hg]; exact (below_size (by repeat (first | (with_reducible first | exact HB.out | apply below_alloc | apply pw_below_drewN | apply below_drew1 | refine below_set ?_ GE131.out) | exact HB.out))) : w.heap.size ≤ gb134)); have n4_ := Aside0.mk ((by rw [hg]; exact (below_size (by repeat (first | (with_reducible first | exact HB.out | apply below_alloc | apply pw_below_drewN | apply below_drew1 | refine below_set ?_ GE131.out) | exact HB.out))) : w.heap.size ≤ gb134)); have n5_ := Aside0.mk ((by rw [hg]; exact Nat.ne_of_lt (blk_lt (g := gb131) (o := .cells #[.slice A0_0 l0_0.length c0_0] 24 (0, 0)) (by (with_reducible repeat (first | refine blk_drewN ?_ _ | refine blk_drew ?_ | refine blk_alloc ?_ _)); exact BK131.out)) : gb131 ≠ gb134)); have n6_ := Aside0.mk ((by rw [hg]; exact Nat.ne_of_gt (blk_lt (g := gb131) (o := .cells #[.slice A0_0 l0_0.length c0_0] 24 (0, 0)) (by (with_reducible repeat (first | refine blk_drewN ?_ _ | refine blk_drew ?_ | refine blk_alloc ?_ _)); exact BK131.out)) : gb134 ≠ gb131)); clear BK131; clear HB; have BK131 := n0_; have HB := n1_; have BK134 := n2_; have GW134 := n3_; have GE134 := n4_; have NB131_134 := n5_; have NB134_131 := n6_; clear n0_ n1_ n2_ n3_ n4_ n5_ n6_; clear hb hbox hg; have hnb33 := NB134_131.out; have hnc33 := NB131_134.out; have hcz34_0 : w32.cell? ⟨gb134, 0, none⟩ = some (.int .i64 0) := (blk_cell BK134.out 0).trans rfl; have hcz34_1 : w32.cell? ⟨gb134, 1, none⟩ = some (.int .i64 0) := (blk_cell BK134.out 1).trans rfl; have hcz34_2 : w32.cell? ⟨gb134, 2, none⟩ = some (.int .i64 0) := (blk_cell BK134.out 2).trans rfl; have hcz34_3 : w32.cell? ⟨gb134, 3, none⟩ = some (.bool false) := (blk_cell BK134.out 3).trans rfl; have hfz34_0 := blk_frozen BK134.out 0; have hfz34_1 := blk_frozen BK134.out 1; have hfz34_2 := blk_frozen BK134.out 2; have hfz34_3 := blk_frozen BK134.out 3) | ((with_reducible refine gate_callee (f := 20) rfl ?_); refine goesL_ (some 26) rfl rfl Try.func20 (by kernel_rfl) rfl #[.agg #[.int .i64 ((rd_T52 l1 x20_2).f0), .int .i64 ((rd_T52 l1 x20_2).f1), .int .i64 ((rd_T52 l1 x20_2).f2), .bool ((rd_T52 l1 x20_2).f3)]] rfl (by (try simp only [List.map_toArray, List.map_cons, List.map_nil]); first | done | rfl | (simp only [List.length_drop, List.length_take]; rfl)) ?_; (with_reducible refine (fact_fine.calls k2 ((rd_T52 l1 x20_2).f0) ((rd_T52 l1 x20_2).f1) ((rd_T52 l1 x20_2).f2) ((rd_T52 l1 x20_2).f3) true _ A14.out).mono ?_); rintro e w35 ⟨rfl, hb⟩; refine ⟨_, rfl, ?_⟩; have n0_ := Aside0.mk (blk_below (g := gb131) (o := .cells #[.slice A0_0 l0_0.length c0_0] 24 (0, 0)) (by (with_reducible repeat (first | refine blk_drewN ?_ _ | refine blk_drew ?_ | refine blk_alloc ?_ _)); refine blk_far ?_ NB131_134.out _; (with_reducible repeat (first | refine blk_drewN ?_ _ | refine blk_drew ?_ | refine blk_alloc ?_ _)); refine blk_far ?_ NB131_134.out _; (with_reducible repeat (first | refine blk_drewN ?_ _ | refine blk_drew ?_ | refine blk_alloc ?_ _)); refine blk_far ?_ NB131_134.out _; (with_reducible repeat (first | refine blk_drewN ?_ _ | refine blk_drew ?_ | refine blk_alloc ?_ _)); refine blk_far ?_ NB131_134.out _; (with_reducible repeat (first | refine blk_drewN ?_ _ | refine blk_drew ?_ | refine blk_alloc ?_ _)); exact BK131.out) hb); have n1_ := Aside0.mk (blk_below (g := gb134) (o := .cells #[.int .i64 ((rd_T52 l1 x20_2).f0), .int .i64 ((rd_T52 l1 x20_2).f1), .int .i64 ((rd_T52 l1 x20_2).f2), .bool ((rd_T52 l1 x20_2).f3)] 52 (0, 0)) (by (with_reducible repeat (first | refine blk_drewN ?_ _ | refine blk_drew ?_ | refine blk_alloc ?_ _)); refine blk_put (cs := #[.int .i64 ((rd_T52 l1 x20_2).f0), .int .i64 ((rd_T52 l1 x20_2).f1), .int .i64 ((rd_T52 l1 x20_2).f2), .bool false]) ?_ 3 _ rfl; (with_reducible repeat (first | refine blk_drewN ?_ _ | refine blk_drew ?_ | refine blk_alloc ?_ _)); refine blk_put (cs := #[.int .i64 ((rd_T52 l1 x20_2).f0), .int .i64 ((rd_T52 l1 x20_2).f1), .int .i64 0, .bool false]) ?_ 2 _ rfl; (with_reducible repeat (first | refine blk_drewN ?_ _ | refine blk_drew ?_ | refine blk_alloc ?_ _)); refine blk_put (cs := #[.int .i64 ((rd_T52 l1 x20_2).f0), .int .i64 0, .int .i64 0, .bool false]) ?_ 1 _ rfl; (with_reducible repeat (first | refine blk_drewN ?_ _ | refine blk_drew ?_ | refine blk_alloc ?_ _)); refine blk_put (cs := #[.int .i64 0, .int .i64 0, .int .i64 0, .bool false]) ?_ 0 _ rfl; (with_reducible repeat (first | refine blk_drewN ?_ _ | refine blk_drew ?_ | refine blk_alloc ?_ _)); exact BK134.out) hb); have n2_ := Aside0.mk (below_step (by repeat (first | (with_reducible first | exact HB.out | apply below_alloc | apply pw_below_drewN | apply below_drew1 | refine below_set ?_ GE131.out | refine below_set ?_ GE134.out) | exact HB.out)) hb); clear BK131; clear BK134; clear HB; have BK131 := n0_; have BK134 := n1_; have HB := n2_; clear n0_ n1_ n2_; (try clear hb); (try clear hb2); (try clear hk); (try clear hi); have hcz36_0 : w35.cell? ⟨gb131, 0, none⟩ = some (.slice A0_0 l0_0.length c0_0) := (blk_cell BK131.out 0).trans rfl; have hfz36_0 := blk_frozen BK131.out 0; have p136 : 0 ≤ (x20_2 : Int) := of_decide_eq_true (by first | (with_reducible assumption) | assumption); have q136 : x20_2 < (l0_0.length : Int) := of_decide_eq_true (by first | (with_reducible assumption) | assumption); obtain ⟨ad136, A136_7, c136_7, e136, hx136_0, hx136_1, hx136_2, hx136_3, hx136_4, hx136_5, hx136_6, hx136_7, hl136_7, hi136_7⟩ := at_T44 HR0_0.out x20_2 p136 q136; (try rw [← Nbq17.out] at hx136_2); (try rw [← Nbq17.out] at hx136_3); cases e136; replace hx136_0 := (HB.out.cell (World.block_lt_of_cell? w _ hx136_0)).trans hx136_0; replace hx136_1 := (HB.out.cell (World.block_lt_of_cell? w _ hx136_1)).trans hx136_1; replace hx136_2 := (HB.out.cell (World.block_lt_of_cell? w _ hx136_2)).trans hx136_2; replace hx136_3 := (HB.out.cell (World.block_lt_of_cell? w _ hx136_3)).trans hx136_3; replace hx136_4 := (HB.out.cell (World.block_lt_of_cell? w _ hx136_4)).trans hx136_4; replace hx136_5 := (HB.out.cell (World.block_lt_of_cell? w _ hx136_5)).trans hx136_5; replace hx136_6 := (HB.out.cell (World.block_lt_of_cell? w _ hx136_6)).trans hx136_6; replace hx136_7 := (HB.out.cell (World.block_lt_of_cell? w _ hx136_7)).trans hx136_7; have HR136_7 := Aside0.mk hi136_7; have HC136_7 := Aside0.mk hl136_7; clear hi136_7 hl136_7; replace p136 := eq_true p136; replace q136 := eq_true q136))
            go_roundg k2
            case measure => have := HJ2.out; have := HK2.out; omega
            case rel => exact ⟨(wrap64 (x20_2 + 1)), (by first | rfl | (simp; done) | (simp [*]; done)), H', ⟨by have := HJ2.out; have := HK2.out; omega⟩, ⟨by (with_reducible repeat (first | refine blk_drewN ?_ _ | refine blk_drew ?_ | refine blk_alloc ?_ _)); exact BK131.out⟩, ⟨by repeat (first | (with_reducible first | exact HB.out | apply below_alloc | apply pw_below_drewN | apply below_drew1 | refine below_set ?_ GE131.out | refine below_set ?_ GE134.out) | exact HB.out)⟩⟩
          ·rw [if_neg c16] at H
           exact absurd H (by simp)
         ·replace c15 := Bool.eq_false_iff.mpr c15
          subst c15
          have H1 : (some 2) = some r := by rw [if_neg (show ¬ (false = true) by decide)] at H; exact H
          clear H
          have H := H1
          clear H1
          obtain rfl := Option.some.inj H
          have p133 : 0 ≤ (x20_2 : Int) := of_decide_eq_true (by first | (with_reducible assumption) | assumption)
          have q133 : x20_2 < (l1.length : Int) := of_decide_eq_true (by first | (with_reducible assumption) | assumption)
          obtain ⟨ad133, e133, hx133_0, hx133_1, hx133_2, hx133_3⟩ := at_T52 HR1.out x20_2 p133 q133
          cases e133
          replace hx133_0 := (HB.out.cell (World.block_lt_of_cell? w _ hx133_0)).trans hx133_0
          replace hx133_1 := (HB.out.cell (World.block_lt_of_cell? w _ hx133_1)).trans hx133_1
          replace hx133_2 := (HB.out.cell (World.block_lt_of_cell? w _ hx133_2)).trans hx133_2
          replace hx133_3 := (HB.out.cell (World.block_lt_of_cell? w _ hx133_3)).trans hx133_3
          replace p133 := eq_true p133
          replace q133 := eq_true q133
          go_wp2_with (first | ((with_reducible refine gate_dst (N := 6) rfl ?_); refine box_event ?hg (N := 6) ?hd (cs := #[.int .i64 0, .int .i64 0, .int .i64 0, .bool false]) (t := 52) ?hr ?_; (case hd => rfl); (case hg => rfl); (case hr => first | (go_simp; done) | (go_simp; rfl)); intro gb134 hg w37 hbox hb; have n0_ := Aside0.mk (blk_below (g := gb131) (o := .cells #[.slice A0_0 l0_0.length c0_0] 24 (0, 0)) (by (with_reducible repeat (first | refine blk_drewN ?_ _ | refine blk_drew ?_ | refine blk_alloc ?_ _)); exact BK131.out) hb); have n1_ := Aside0.mk (below_step (by repeat (first | (with_reducible first | exact HB.out | apply below_alloc | apply pw_below_drewN | apply below_drew1 | refine below_set ?_ GE131.out) | exact HB.out)) hb); have n2_ := Aside0.mk (hbox); have n3_ := Aside0.mk ((by rw [hg]; exact (below_size (by repeat (first | (with_reducible first | exact HB.out | apply below_alloc | apply pw_below_drewN | apply below_drew1 | refine below_set ?_ GE131.out) | exact HB.out))) : w.heap.size ≤ gb134)); have n4_ := Aside0.mk ((by rw [hg]; exact (below_size (by repeat (first | (with_reducible first | exact HB.out | apply below_alloc | apply pw_below_drewN | apply below_drew1 | refine below_set ?_ GE131.out) | exact HB.out))) : w.heap.size ≤ gb134)); have n5_ := Aside0.mk ((by rw [hg]; exact Nat.ne_of_lt (blk_lt (g := gb131) (o := .cells #[.slice A0_0 l0_0.length c0_0] 24 (0, 0)) (by (with_reducible repeat (first | refine blk_drewN ?_ _ | refine blk_drew ?_ | refine blk_alloc ?_ _)); exact BK131.out)) : gb131 ≠ gb134)); have n6_ := Aside0.mk ((by rw [hg]; exact Nat.ne_of_gt (blk_lt (g := gb131) (o := .cells #[.slice A0_0 l0_0.length c0_0] 24 (0, 0)) (by (with_reducible repeat (first | refine blk_drewN ?_ _ | refine blk_drew ?_ | refine blk_alloc ?_ _)); exact BK131.out)) : gb134 ≠ gb131)); clear BK131; clear HB; have BK131 := n0_; have HB := n1_; have BK134 := n2_; have GW134 := n3_; have GE134 := n4_; have NB131_134 := n5_; have NB134_131 := n6_; clear n0_ n1_ n2_ n3_ n4_ n5_ n6_; clear hb hbox hg; have hnb38 := NB134_131.out; have hnc38 := NB131_134.out; have hcz39_0 : w37.cell? ⟨gb134, 0, none⟩ = some (.int .i64 0) := (blk_cell BK134.out 0).trans rfl; have hcz39_1 : w37.cell? ⟨gb134, 1, none⟩ = some (.int .i64 0) := (blk_cell BK134.out 1).trans rfl; have hcz39_2 : w37.cell? ⟨gb134, 2, none⟩ = some (.int .i64 0) := (blk_cell BK134.out 2).trans rfl; have hcz39_3 : w37.cell? ⟨gb134, 3, none⟩ = some (.bool false) := (blk_cell BK134.out 3).trans rfl; have hfz39_0 := blk_frozen BK134.out 0; have hfz39_1 := blk_frozen BK134.out 1; have hfz39_2 := blk_frozen BK134.out 2; have hfz39_3 := blk_frozen BK134.out 3) | ((with_reducible refine gate_callee (f := 20) rfl ?_); refine goesL_ (some 26) rfl rfl Try.func20 (by kernel_rfl) rfl #[.agg #[.int .i64 ((rd_T52 l1 x20_2).f0), .int .i64 ((rd_T52 l1 x20_2).f1), .int .i64 ((rd_T52 l1 x20_2).f2), .bool ((rd_T52 l1 x20_2).f3)]] rfl (by (try simp only [List.map_toArray, List.map_cons, List.map_nil]); first | done | rfl | (simp only [List.length_drop, List.length_take]; rfl)) ?_; (with_reducible refine (fact_fine.calls k2 ((rd_T52 l1 x20_2).f0) ((rd_T52 l1 x20_2).f1) ((rd_T52 l1 x20_2).f2) ((rd_T52 l1 x20_2).f3) false _ A14.out).mono ?_); rintro e w40 ⟨rfl, hb⟩; refine ⟨_, rfl, ?_⟩; have n0_ := Aside0.mk (blk_below (g := gb131) (o := .cells #[.slice A0_0 l0_0.length c0_0] 24 (0, 0)) (by (with_reducible repeat (first | refine blk_drewN ?_ _ | refine blk_drew ?_ | refine blk_alloc ?_ _)); refine blk_far ?_ NB131_134.out _; (with_reducible repeat (first | refine blk_drewN ?_ _ | refine blk_drew ?_ | refine blk_alloc ?_ _)); refine blk_far ?_ NB131_134.out _; (with_reducible repeat (first | refine blk_drewN ?_ _ | refine blk_drew ?_ | refine blk_alloc ?_ _)); refine blk_far ?_ NB131_134.out _; (with_reducible repeat (first | refine blk_drewN ?_ _ | refine blk_drew ?_ | refine blk_alloc ?_ _)); refine blk_far ?_ NB131_134.out _; (with_reducible repeat (first | refine blk_drewN ?_ _ | refine blk_drew ?_ | refine blk_alloc ?_ _)); exact BK131.out) hb); have n1_ := Aside0.mk (blk_below (g := gb134) (o := .cells #[.int .i64 ((rd_T52 l1 x20_2).f0), .int .i64 ((rd_T52 l1 x20_2).f1), .int .i64 ((rd_T52 l1 x20_2).f2), .bool ((rd_T52 l1 x20_2).f3)] 52 (0, 0)) (by (with_reducible repeat (first | refine blk_drewN ?_ _ | refine blk_drew ?_ | refine blk_alloc ?_ _)); refine blk_put (cs := #[.int .i64 ((rd_T52 l1 x20_2).f0), .int .i64 ((rd_T52 l1 x20_2).f1), .int .i64 ((rd_T52 l1 x20_2).f2), .bool false]) ?_ 3 _ rfl; (with_reducible repeat (first | refine blk_drewN ?_ _ | refine blk_drew ?_ | refine blk_alloc ?_ _)); refine blk_put (cs := #[.int .i64 ((rd_T52 l1 x20_2).f0), .int .i64 ((rd_T52 l1 x20_2).f1), .int .i64 0, .bool false]) ?_ 2 _ rfl; (with_reducible repeat (first | refine blk_drewN ?_ _ | refine blk_drew ?_ | refine blk_alloc ?_ _)); refine blk_put (cs := #[.int .i64 ((rd_T52 l1 x20_2).f0), .int .i64 0, .int .i64 0, .bool false]) ?_ 1 _ rfl; (with_reducible repeat (first | refine blk_drewN ?_ _ | refine blk_drew ?_ | refine blk_alloc ?_ _)); refine blk_put (cs := #[.int .i64 0, .int .i64 0, .int .i64 0, .bool false]) ?_ 0 _ rfl; (with_reducible repeat (first | refine blk_drewN ?_ _ | refine blk_drew ?_ | refine blk_alloc ?_ _)); exact BK134.out) hb); have n2_ := Aside0.mk (below_step (by repeat (first | (with_reducible first | exact HB.out | apply below_alloc | apply pw_below_drewN | apply below_drew1 | refine below_set ?_ GE131.out | refine below_set ?_ GE134.out) | exact HB.out)) hb); clear BK131; clear BK134; clear HB; have BK131 := n0_; have BK134 := n1_; have HB := n2_; clear n0_ n1_ n2_; (try clear hb); (try clear hb2); (try clear hk); (try clear hi)))
          go_ret
          exact ⟨by first | rfl | (simp [errW_none, errW_some] <;> rfl) | (simp [*, errW_none, errW_some] <;> rfl), by repeat (first | (with_reducible first | exact HB.out | apply below_alloc | apply pw_below_drewN | apply below_drew1 | refine below_set ?_ GE131.out | refine below_set ?_ GE134.out) | exact HB.out)⟩
        ·rw [if_neg c13] at H
         exact absurd H (by simp)
       ·rw [if_neg c12] at H
        exact absurd H (by simp)
      ·rw [if_neg c11] at H
       have c11b0 : decide (x20_2 < (l1.length : Int)) = false := decide_eq_false c11
       clear c11
       obtain rfl := Option.some.inj H
       go_wp2
       go_ret
       exact ⟨by first | rfl | (simp [errW_none, errW_some] <;> rfl) | (simp [*, errW_none, errW_some] <;> rfl), by repeat (first | (with_reducible first | exact HB.out | apply below_alloc | apply pw_below_drewN | apply below_drew1 | refine below_set ?_ GE131.out) | exact HB.out)⟩
end Go.Proofs.Ytgilgicanggleab.F
end

section
namespace Go.Proofs.Ytgilgicanggleab.F
open Go.RowKit Go.Proofs.YtgilgicanggleabW.PrintWords Go.Proofs.YtgilgicanggleabW.PrintLast Go.Proofs.YtgilgicanggleabW.PrintMore
def schedOk (md : Region.Mode) (ops : Array Oper) (ds : List Nat) (lEnd : Array Bool) : Array Bool → List (Nat × Bool × Option Tmp) → Bool
 | l, [] => l == lEnd
 | l, (i, true, _) :: r => takeB md ops ds l (l.setIfInBounds i true) i && schedOk md ops ds lEnd (l.setIfInBounds i true) r
 | l, (i, false, _) :: r => anyB md ops l (l.setIfInBounds i true) i && schedOk md ops ds lEnd (l.setIfInBounds i true) r
section
variable {P : Program} {md : Region.Mode} {ops : Array Oper} {Q : Exit → Act → World → Prop} {S : World → Prop} {ds : List Nat}
def WS (P : Program) (md : Region.Mode) (ops : Array Oper) (Q : Exit → Act → World → Prop) (S : World → Prop) (ds : List Nat) (fuel : Nat) (lEnd : Array Bool) (sched : List (Nat × Bool × Option Tmp)) (a : Act) (w : World) : Prop :=
 ∀ l, schedOk md ops ds lEnd l sched = true → wpAnyLast P md ops Q S ds (fuel + sched.length) l a w
theorem ws_ {n : Nat} {l : Array Bool} {a : Act} {w : World} (fuel : Nat) (lEnd : Array Bool) (sched : List (Nat × Bool × Option Tmp)) (hc : schedOk md ops ds lEnd l sched = true) (hn : n = fuel + sched.length) (h : WS P md ops Q S ds fuel lEnd sched a w) : wpAnyLast P md ops Q S ds n l a w := by
 subst hn
 exact h l hc
theorem ws_nil {fuel : Nat} {lEnd : Array Bool} {a : Act} {w : World} (h : wpAnyLast P md ops Q S ds fuel lEnd a w) : WS P md ops Q S ds fuel lEnd [] a w := fun l hl => by
 simp only [schedOk, beq_iff_eq] at hl
 subst hl
 exact h
theorem ws_pure {i : Nat} {r : List (Nat × Bool × Option Tmp)} {N : Option Tmp} {oi : Oper} {v : Value} {fuel : Nat} {lEnd : Array Bool} {a : Act} {w : World} (hi : ops[i]? = some oi) (hN : oi.dst = N)
  (hQ : ∀ c a w, Q (.panic c) (a.put oi.dst v) w → Q (.panic c) a w) (hy : Yields P ops oi v a) {a' : Act} (ha : a.put N v = a')
  (h : WS P md ops Q S ds fuel lEnd r a' w) : WS P md ops Q S ds fuel lEnd ((i, false, N) :: r) a w := fun l hl => by
 simp only [schedOk, Bool.and_eq_true] at hl
 exact pure_ (fuel := fuel + r.length) _ hi hN hl.1 hQ hy ha (h _ hl.2)
theorem ws_take {i : Nat} {r : List (Nat × Bool × Option Tmp)} {N : Option Tmp} {oi : Oper} {v : Value} {fuel : Nat} {lEnd : Array Bool} {a : Act} {w : World} (hi : ops[i]? = some oi) (hN : oi.dst = N)
  (hQ : ∀ c a w, Q (.panic c) (a.put oi.dst v) w → Q (.panic c) a w) (hy : YieldsIf P ops S oi v a) (hS : S w) {a' : Act} (ha : a.put N v = a')
  (h : WS P md ops Q S ds fuel lEnd r a' w) : WS P md ops Q S ds fuel lEnd ((i, true, N) :: r) a w := fun l hl => by
 simp only [schedOk, Bool.and_eq_true] at hl
 exact take_ (fuel := fuel + r.length) _ hi hN hl.1 hQ hy hS ha (h _ hl.2)
end
end Go.Proofs.Ytgilgicanggleab.F
end

section
namespace Go.Proofs.Ytgilgicanggleab.F
open Go.RowKit Go.Proofs.YtgilgicanggleabW.PrintWords Go.Proofs.YtgilgicanggleabW.PrintLast Go.Proofs.YtgilgicanggleabW.PrintMore
attribute [local go_sem] max2_int min2_int max_two min_two max_three min_three max_four min_four
set_option linter.unusedVariables false
set_option linter.unusedSimpArgs false
def doesF (k : Int) : Nat := if k = 1 then 28 else if k = 2 then 29 else if k = 3 then 30 else if k = 4 then 31 else if k = 5 then 32 else 33
set_option maxHeartbeats 8000000 in
set_option maxRecDepth 100000 in
theorem does_walk (f : S52) (t k : Int) (w : World) : Calls Try.prog 22 #[kV f t, .int .i64 k] w fun e w' => e = .returned (.func (.func (doesF k)) #[kV f t] #[]) ∧ Below w.heap.size w w' := by
 unfold kV
 have HB := Aside0.mk ((Below.refl w.heap.size w).alloc (Nat.le_refl _) (.cells #[.int .i64 f.f0, .int .i64 f.f1, .int .i64 f.f2, .bool f.f3, .int .i64 t] 74 (0, 0)))
 have hk : k = 1 ∨ k = 2 ∨ k = 3 ∨ k = 4 ∨ k = 5 ∨ (¬ k = 1 ∧ ¬ k = 2 ∧ ¬ k = 3 ∧ ¬ k = 4 ∧ ¬ k = 5) := by omega
 obtain ⟨g, hg⟩ : ∃ g, doesF k = g := ⟨_, rfl⟩
 rw [hg]
 have HG := Aside0.mk hg
 clear hg
 rcases hk with hk | hk | hk | hk | hk | ⟨k1, k2, k3, k4, k5⟩
 case' inr.inr.inr.inr.inr =>
  have HK := Aside0.mk (And.intro k1 (And.intro k2 (And.intro k3 (And.intro k4 k5))))
  go_enter Try.func22, Try.ntmps22
  go_wp2
  all_goals
   go_ret
   have h := HK.out
   refine ⟨?_, HB.out⟩
   rw [← HG.out, doesF, if_neg h.1, if_neg h.2.1, if_neg h.2.2.1, if_neg h.2.2.2.1, if_neg h.2.2.2.2]
   rfl
  done
 all_goals
  subst hk
  go_enter Try.func22, Try.ntmps22
  go_wp2
  go_ret
  refine ⟨?_, HB.out⟩
  rw [← HG.out]
  rfl
def knownF (f : S52) (t k : Int) : S52 × Bool :=
 if k = 1 then (⟨1, 0, 0, false⟩, f.f0 == 0)
 else if k = 2 then (⟨2, 0, 0, false⟩, f.f0 == 1)
 else if k = 3 then (⟨3, 0, 0, false⟩, f.f0 == 1)
 else if k = 4 then (⟨f.f0, wrap64 (f.f1 + 1), f.f2, f.f3⟩, f.f0 == 2 && !f.f3 && f.f1 == t && f.f2 == t)
 else if k = 5 then (⟨f.f0, f.f1, f.f2, true⟩, f.f1 == wrap64 (f.f2 + 1) && !f.f3 && f.f2 == t)
 else (⟨f.f0, f.f1, wrap64 (f.f2 + 1), f.f3⟩, f.f1 == wrap64 (f.f2 + 1) && !f.f3 && f.f2 == t && decide (t < 3))
theorem open_eq (f : S52) (t : Int) : fact_known_open.f f.f0 f.f1 f.f2 f.f3 t = some (f.f1 == wrap64 (f.f2 + 1) && !f.f3 && f.f2 == t) := by
 unfold fact_known_open.f
 by_cases h1 : f.f1 = wrap64 (f.f2 + 1) <;> cases h2 : f.f3 <;> simp [h1]
theorem known_call (f : S52) (t k : Int) (w : World) : Calls Try.prog (doesF k) #[kV f t] w fun e w' => e = .returned (.tuple #[factV (knownF f t k).1, .bool (knownF f t k).2]) ∧ Below w.heap.size w w' := by
 unfold doesF knownF
 split
 ·exact known_start_walk f t w
 split
 ·exact known_ok_walk f t w
 split
 ·exact known_fail_walk f t w
 split
 ·exact known_undo_walk f t w
 split
 ·exact known_undone_walk f t w
 ·refine fact_known_slip.calls _ _ _ _ _ _ _ _ _ _ w ?_
  unfold fact_known_slip.f
  rw [open_eq]
  generalize (f.f1 == wrap64 (f.f2 + 1) && !f.f3 && f.f2 == t) = b
  cases b <;> rfl
theorem known_enters (k : Int) (args : Array Value) (w : World) : (callFunc (doesF k) args).run Try.prog w = .ok (.enter (doesF k) args) w := by
 unfold doesF
 split
 ·exact enters_ Try.func28 (by kernel_rfl) rfl args w
 split
 ·exact enters_ Try.func29 (by kernel_rfl) rfl args w
 split
 ·exact enters_ Try.func30 (by kernel_rfl) rfl args w
 split
 ·exact enters_ Try.func31 (by kernel_rfl) rfl args w
 split
 ·exact enters_ Try.func32 (by kernel_rfl) rfl args w
 ·exact enters_ Try.func33 (by kernel_rfl) rfl args w
theorem goesDyn_ {P : Program} {ops : Array Oper} {Q : Exit → Act → World → Prop} {oi : Oper} {N : Option Tmp} {a : Act} {w : World} {K : Act → World → Prop} {f : FuncId} (x : Operand) (ts : Array TypeId) (bound : Array Value) (he : ∀ args w, (callFunc f args).run P w = .ok (.enter f args) w)
  (hw : Region.wanted oi (yielded ops a.tmps) = true) (hN : oi.dst = N) (hop : oi.op = .call { callee := .value x, args := #[], argTypes := ts }) (hx : a.eval x = .func (.func f) bound #[])
  (h : Calls P f bound w fun e w' => ∃ v, e = .returned v ∧ K (a.put N v) w') : if Region.wanted oi (yielded ops a.tmps) = true then Oper.wp P oi a w K Q else K (a.put N undef) w := by
 refine call_ f bound hw hN ?_ h
 have h2 := he bound w
 unfold execOp
 simp [hop, resolve, Deferred.ofValue, invoke, hx, h2]
def applyB (p : List S44) (l : List S52) (k it t : Int) (s : List Int) : Int × List S52 :=
 if eventB k it t s then (if (l.length : Int) ≤ it then (14, l) else if (rd_T44 p it).f2 then (14, l) else if (knownF (rd_T52 l it) t k).2 then (0, l.set it.toNat (knownF (rd_T52 l it) t k).1) else (14, l)) else (2, l)
theorem eventB_item {k it t : Int} {s : List Int} (h : eventB k it t s = true) : 0 < it ∧ it < 64 := by
 unfold eventB itemOk at h
 split at h
 ·simp at h; omega
 ·split at h
  ·simp at h; omega
  ·simp at h
def ApplyP (p : List S44) (Al : Option Addr) (cl : Nat) (l : List S52) (k it t : Int) (s : List Int) (base : Nat) (ok : Nat → Prop) (w : World) (e : Ending) (w' : World) : Prop :=
 e = .returned (.int .i64 (applyB p l k it t s).1) ∧ Kd.R k52 52 w' base ok (.slice Al l.length cl) (applyB p l k it t s).2 ∧ Below base w w'
def FactP (w w' : World) (s : Nat) : Prop := Below w.heap.size w w' ∧ w.heap.size ≤ s ∧ w'.heap[s]? = some (.cells #[.int .i64 0, .int .i64 0, .int .i64 0, .bool false] 52 (0, 0))
theorem factP_a {w2 w3 w4 : World} (h3 : Below w2.drew.heap.size w2.drew w3) (h4 : Below w3.heap.size w3 w4) : FactP w2 (w4.alloc (.cells #[.int .i64 0, .int .i64 0, .int .i64 0, .bool false] 52 (0, 0))) w4.heap.size := by
 have h5 : Below w2.heap.size w2 w3 := (below_drew (Below.refl _ _)).trans h3
 have h6 := h5.trans (h4.mono h5.size)
 exact ⟨below_alloc h6 _, h6.size, blk_new _ _⟩
theorem factP_b {w2 w3 w4 : World} (h3 : Below w2.drew.heap.size w2.drew w3) (h4 : Below (w3.alloc (.cells #[.int .i64 0, .int .i64 0, .int .i64 0, .bool false] 52 (0, 0))).heap.size (w3.alloc (.cells #[.int .i64 0, .int .i64 0, .int .i64 0, .bool false] 52 (0, 0))) w4) : FactP w2 w4 w3.heap.size := by
 have h5 : Below w2.heap.size w2 w3 := (below_drew (Below.refl _ _)).trans h3
 have h6 := below_alloc h5 (.cells #[.int .i64 0, .int .i64 0, .int .i64 0, .bool false] 52 (0, 0))
 exact ⟨h6.trans (h4.mono h6.size), h5.size, blk_below (blk_new _ _) h4⟩
theorem factP_c {w2 w3 w4 : World} (h3 : Below (w2.drew.alloc (.cells #[.int .i64 0, .int .i64 0, .int .i64 0, .bool false] 52 (0, 0))).heap.size (w2.drew.alloc (.cells #[.int .i64 0, .int .i64 0, .int .i64 0, .bool false] 52 (0, 0))) w3) (h4 : Below w3.heap.size w3 w4) : FactP w2 w4 w2.heap.size := by
 have h5 : Below w2.heap.size w2 (w2.drew.alloc (.cells #[.int .i64 0, .int .i64 0, .int .i64 0, .bool false] 52 (0, 0))) := below_alloc (below_drew (Below.refl _ _)) _
 have h6 := h5.trans (h3.mono h5.size)
 exact ⟨h6.trans (h4.mono h6.size), Nat.le_refl _, blk_below (blk_below (blk_new w2.drew _) h3) h4⟩
set_option maxHeartbeats 8000000 in
set_option maxRecDepth 100000 in
theorem apply_walk (p : List S44) (Ap : Option Addr) (cp : Nat) (l : List S52) (Al : Option Addr) (cl : Nat) (k it t : Int) (s : List Int) (As : Option Addr) (cs : Nat) (base : Nat) (ok : Nat → Prop) (w : World)
  (hp : Kd.C k44 w Ap p.length p) (hl : Kd.R k52 52 w base ok (.slice Al l.length cl) l) (hpl : l.length = p.length) (hs : Kd.C (Kd.int .i64) w As s.length s) (hcs : s.length ≤ cs) (hbase : base ≤ w.heap.size) :
  Calls Try.prog 16 #[.agg #[.slice Ap p.length cp], .slice Al l.length cl, .agg #[.int .i64 k, .int .i64 it, .int .i64 t, .slice As s.length cs]] w (ApplyP p Al cl l k it t s base ok w) := by
 have HP := Aside0.mk hp
 have HL := Aside0.mk hl
 have HPL := Aside0.mk hpl
 have HS := Aside0.mk hs
 have HCS := Aside0.mk hcs
 have HBS := Aside0.mk hbase
 have HGA := Aside0.mk (blk_alloc (blk_new w (.cells #[.slice Ap p.length cp] 24 (0, 0))) (.cells #[.int .i64 k, .int .i64 it, .int .i64 t, .slice As s.length cs] 29 (0, 0)))
 have hgb := blk_new (w.alloc (.cells #[.slice Ap p.length cp] 24 (0, 0))) (.cells #[.int .i64 k, .int .i64 it, .int .i64 t, .slice As s.length cs] 29 (0, 0))
 rw [show (w.alloc (.cells #[.slice Ap p.length cp] 24 (0, 0))).heap.size = w.heap.size + 1 from by simp] at hgb
 have HGB := Aside0.mk hgb
 clear hgb
 have HB0 : Aside0 (Below w.heap.size w ((w.alloc (.cells #[.slice Ap p.length cp] 24 (0, 0))).alloc (.cells #[.int .i64 k, .int .i64 it, .int .i64 t, .slice As s.length cs] 29 (0, 0)))) := ⟨below_alloc (below_alloc (Below.refl _ _) _) _⟩
 have HCW := Aside0.mk (event_check_walk k it t As cs s _ (Kd.C_below HS.out HB0.out) HCS.out)
 clear hp hl hpl hs hcs hbase
 obtain ⟨v, hv⟩ : ∃ v, eventB k it t s = v := ⟨_, rfl⟩
 have HV := Aside0.mk hv
 rw [hv] at HCW
 clear hv
 cases v with
 | false =>
  go_enter Try.func16, Try.ntmps16
  go_wp2_with (go_at_call 21; refine HCW.out.mono ?_; rintro e w2 ⟨rfl, hb⟩; have HB2 := Aside0.mk (HB0.out.trans (hb.mono HB0.out.size)); clear hb)
  go_ret
  have hx : applyB p l k it t s = (2, l) := by unfold applyB; rw [HV.out]; rfl
  unfold ApplyP
  rw [hx]
  exact ⟨rfl, Kd.R_below HL.out HB2.out, HB2.out.mono HBS.out⟩
 | true =>
  have HIT := Aside0.mk (eventB_item HV.out)
  have HSZ : Aside0 (w.heap.size + 1 < ((w.alloc (.cells #[.slice Ap p.length cp] 24 (0, 0))).alloc (.cells #[.int .i64 k, .int .i64 it, .int .i64 t, .slice As s.length cs] 29 (0, 0))).heap.size) := ⟨by simp⟩
  by_cases c1 : (l.length : Int) ≤ it
  ·go_enter Try.func16, Try.ntmps16
   go_wp2_with (go_at_call 21; refine stop2_ ?_)
   unfold Stop2_
   refine HCW.out.mono ?_
   rintro e w2 ⟨he, hb⟩
   replace he : e = .returned (.int .i64 0) := he
   subst he
   have HB2 := Aside0.mk (HB0.out.trans (hb.mono HB0.out.size))
   have HG2 := Aside0.mk (blk_below HGB.out hb)
   clear hb
   have x1 : w2.cell? ⟨w.heap.size + 1, 1, none⟩ = some (.int .i64 it) := (blk_cell HG2.out 1).trans rfl
   go_wp2
   go_ret
   have hx : applyB p l k it t s = (14, l) := by unfold applyB; rw [HV.out, if_pos rfl, if_pos c1]
   unfold ApplyP
   rw [hx]
   exact ⟨rfl, Kd.R_below HL.out HB2.out, HB2.out.mono HBS.out⟩
  ·have hit := HIT.out
   have hpl := HPL.out
   have h0 : 0 ≤ it := by omega
   have h1 : it < (p.length : Int) := by omega
   have h2 : it < (l.length : Int) := by omega
   obtain ⟨x, hx⟩ : ∃ x, rd_T44 p it = x := ⟨_, rfl⟩
   have HX := Aside0.mk hx
   clear hx hit hpl
   cases x3 : x.f2
   ·obtain ⟨g, cap, e1, hg1, hg2, _, hg3⟩ := Kd.R_form HL.out (by omega)
    obtain ⟨rfl, rfl⟩ : Al = some ⟨g, 0, none⟩ ∧ cl = cap := by injection e1 with a1 a2 a3; exact ⟨a1, a3⟩
    have HGL := Aside0.mk (And.intro hg1 hg2)
    obtain ⟨f, hf⟩ : ∃ f, rd_T52 l it = f := ⟨_, rfl⟩
    have HF := Aside0.mk hf
    obtain ⟨⟨qf, b⟩, hq⟩ : ∃ q, knownF f t k = q := ⟨_, rfl⟩
    have HQ := Aside0.mk hq
    have HKC : Aside0 (∀ w, Calls Try.prog (doesF k) #[kV f t] w fun e w' => e = .returned (.tuple #[factV qf, .bool b]) ∧ Below w.heap.size w w') := ⟨fun w => by have h := known_call f t k w; rw [hq] at h; exact h⟩
    clear hg1 hg2 hg3 hf hq e1
    go_enter Try.func16, Try.ntmps16
    go_wp2_with (go_at_call 21; refine stop2_ ?_)
    unfold Stop2_
    refine HCW.out.mono ?_
    rintro e w2 ⟨he, hb⟩
    replace he : e = .returned (.int .i64 0) := he
    subst he
    have HB2 := Aside0.mk (HB0.out.trans (hb.mono HB0.out.size))
    have HG2 := Aside0.mk (blk_below HGB.out hb)
    have HGA2 := Aside0.mk (blk_below HGA.out hb)
    clear hb
    have x1 : w2.cell? ⟨w.heap.size + 1, 1, none⟩ = some (.int .i64 it) := (blk_cell HG2.out 1).trans rfl
    have x0 : w2.cell? ⟨w.heap.size, 0, none⟩ = some (.slice Ap p.length cp) := (blk_cell HGA2.out 0).trans rfl
    obtain ⟨ad, A7, c7, e0, z0, z1, z2, _⟩ := at_T44 (Kd.C_below HP.out HB2.out) it h0 h1
    subst e0
    rw [HX.out, x3] at z2
    clear z0 z1
    go_wp2
    have HL2 := Aside0.mk (Kd.R_below HL.out HB2.out)
    obtain ⟨c, hcl, hM, hcc, hfz⟩ := Kd.R_elem HL2.out z52 it h0 h2
    have hc := k52_openM hM
    rw [show l.getD it.toNat z52 = f from HF.out] at hc
    subst hc
    have k0 : w2.drew.cell? ⟨w.heap.size + 1, 0, none⟩ = some (.int .i64 k) := (blk_cell HG2.out 0).trans rfl
    have k1 : w2.drew.cell? ⟨w.heap.size + 1, 1, none⟩ = some (.int .i64 it) := (blk_cell HG2.out 1).trans rfl
    have k2 : w2.drew.cell? ⟨w.heap.size + 1, 2, none⟩ = some (.int .i64 t) := (blk_cell HG2.out 2).trans rfl
    have k3 : w2.drew.cell? ⟨g, it.toNat * 4, none⟩ = some (.int .i64 f.f0) := hcc 0 _ rfl
    have k4 : w2.drew.cell? ⟨g, it.toNat * 4 + 1, none⟩ = some (.int .i64 f.f1) := hcc 1 _ rfl
    have k5 : w2.drew.cell? ⟨g, it.toNat * 4 + 2, none⟩ = some (.int .i64 f.f2) := hcc 2 _ rfl
    have k6 : w2.drew.cell? ⟨g, it.toNat * 4 + 3, none⟩ = some (.bool f.f3) := hcc 3 _ rfl
    clear hcl hM hcc hfz x0 x1 z2
    --MARK5
    refine start_ (n := 18) (S := fun w' => w'.cell? ⟨w.heap.size + 1, 0, none⟩ = some (.int .i64 k) ∧ w'.cell? ⟨w.heap.size + 1, 1, none⟩ = some (.int .i64 it) ∧ w'.cell? ⟨w.heap.size + 1, 2, none⟩ = some (.int .i64 t) ∧ w'.cell? ⟨g, it.toNat * 4, none⟩ = some (.int .i64 f.f0) ∧ w'.cell? ⟨g, it.toNat * 4 + 1, none⟩ = some (.int .i64 f.f1) ∧ w'.cell? ⟨g, it.toNat * 4 + 2, none⟩ = some (.int .i64 f.f2) ∧ w'.cell? ⟨g, it.toNat * 4 + 3, none⟩ = some (.bool f.f3)) (ds := [16]) #[false, false, false, false, false, false, false, false, false, false, false, false, false, false, false, false, false, false] (by kernel_rfl) rfl rfl ⟨k0, k1, k2, k3, k4, k5, k6⟩ (fun hHeld => ?_)
    refine ws_ 8 #[true, true, true, true, true, true, true, true, true, true, false, false, false, false, false, false, false, false] [(0, false, some 29), (1, false, some 30), (5, false, some 34), (8, false, some 37), (2, true, some 31), (3, false, some 32), (4, true, some 33), (6, true, some 35), (7, false, some 36), (9, true, some 38)] (by kernel_rfl) rfl ?_
    repeat (first | (refine ws_pure (v := ?_) (a' := ?_) rfl rfl (fun _ _ _ h => h) (Or.inl ⟨by rfl, ?_⟩) ?_ ?_; rotate_left; (focus intro w'; go_simp; with_reducible rfl); rotate_left; (focus simp only [Act.put, List.setIfInBounds_toArray, List.set_cons_zero, List.set_cons_succ, i64_w, i32_w]; rfl)) | (refine ws_take (v := ?_) (a' := ?_) rfl rfl (fun _ _ _ h => h) (Or.inl ⟨by rfl, ?_⟩) hHeld ?_ ?_; rotate_left; (focus rintro w' ⟨s0, s1, s2, s3, s4, s5, s6⟩; go_simp; with_reducible rfl); rotate_left; (focus simp only [Act.put, List.setIfInBounds_toArray, List.set_cons_zero, List.set_cons_succ, i64_w, i32_w]; rfl)))
    refine ws_nil ?_
    refine join_ (σ := Nat) 2 #[true, true, true, true, true, true, true, true, true, true, true, true, true, true, true, true, false, false] (fun s => [(39, .func (.func (doesF k)) #[kV f t] #[]), (40, .tuple #[factV qf, .bool b]), (7, .pointer (some ⟨s, 0, none⟩)), (28, .tuple #[factV qf, .bool b]), (41, factV qf), (42, .bool b)]) (fun s w' => FactP w2 w' s) ?_ ?_
    rotate_left
    ·intro hCont
     refine two_ (i := 10) (j := 15) (Ni := some 39) (Nj := some 7) #[true, true, true, true, true, true, true, true, true, true, true, false, false, false, false, false, false, false] #[true, true, true, true, true, true, true, true, true, true, false, false, false, false, false, true, false, false] rfl rfl rfl rfl (by kernel_rfl) (by decide) (by decide) (fun K hK => ?_) (fun K hK => ?_)
     ·skip
      refine goes_ Try.func22 (by kernel_rfl) rfl #[kV f t, .int .i64 k] (by rfl) rfl rfl (by first | rfl | (simp only [List.map_toArray, List.map_cons, List.map_nil]; rfl)) ?_
      refine (does_walk f t k _).mono ?_
      rintro e w3 ⟨rfl, hb⟩
      refine ⟨_, rfl, ?_⟩
      have HB3 := Aside0.mk hb
      clear hb
      refine hK.out _ _ ⟨(cell_bel HB3.out hHeld.1), (cell_bel HB3.out hHeld.2.1), (cell_bel HB3.out hHeld.2.2.1), (cell_bel HB3.out hHeld.2.2.2.1), (cell_bel HB3.out hHeld.2.2.2.2.1), (cell_bel HB3.out hHeld.2.2.2.2.2.1), (cell_bel HB3.out hHeld.2.2.2.2.2.2)⟩ (fun hHeld => ?_)
      clear hK K
      refine norm_ (a' := ?_) ?_ ?_
      rotate_left
      ·show Act.put _ (some 39) _ = _
       simp only [Act.put, List.setIfInBounds_toArray, List.set_cons_zero, List.set_cons_succ, i64_w, i32_w]
       rfl
      refine two_ (i := 11) (j := 15) (Ni := some 40) (Nj := some 7) #[true, true, true, true, true, true, true, true, true, true, true, true, false, false, false, false, false, false] #[true, true, true, true, true, true, true, true, true, true, true, false, false, false, false, true, false, false] rfl rfl rfl rfl (by kernel_rfl) (by decide) (by decide) (fun K hK => ?_) (fun K hK => ?_)
      ·skip
       refine goesDyn_ (f := doesF k) (.tmp 39) #[] #[kV f t] (fun args w => known_enters k args w) (by rfl) rfl rfl rfl ?_
       refine (HKC.out _).mono ?_
       rintro e w4 ⟨rfl, hb⟩
       refine ⟨_, rfl, ?_⟩
       have HB4 := Aside0.mk hb
       clear hb
       refine hK.out _ _ ⟨(cell_bel HB4.out hHeld.1), (cell_bel HB4.out hHeld.2.1), (cell_bel HB4.out hHeld.2.2.1), (cell_bel HB4.out hHeld.2.2.2.1), (cell_bel HB4.out hHeld.2.2.2.2.1), (cell_bel HB4.out hHeld.2.2.2.2.2.1), (cell_bel HB4.out hHeld.2.2.2.2.2.2)⟩ (fun hHeld => ?_)
       clear hK K
       refine norm_ (a' := ?_) ?_ ?_
       rotate_left
       ·show Act.put _ (some 40) _ = _
        simp only [Act.put, List.setIfInBounds_toArray, List.set_cons_zero, List.set_cons_succ, i64_w, i32_w]
        rfl
       refine ws_ 3 #[true, true, true, true, true, true, true, true, true, true, true, true, true, true, true, false, false, false] [(12, false, some 28), (13, false, some 41), (14, false, some 42)] (by kernel_rfl) rfl ?_
       repeat (first | (refine ws_pure (v := ?_) (a' := ?_) rfl rfl (fun _ _ _ h => h) (Or.inl ⟨by rfl, ?_⟩) ?_ ?_; rotate_left; (focus intro w'; go_simp; with_reducible rfl); rotate_left; (focus simp only [Act.put, List.setIfInBounds_toArray, List.set_cons_zero, List.set_cons_succ, i64_w, i32_w]; rfl)))
       refine ws_nil ?_
       refine one_ (i := 15) (N := some 7) #[true, true, true, true, true, true, true, true, true, true, true, true, true, true, true, true, false, false] rfl rfl (by kernel_rfl) (by decide) (fun K hK => ?_)
       refine value_ (w1 := ?_) (v := ?_) (by rfl) rfl ?_ ?_
       rotate_left 2
       ·go_simp
        constructor
        ·rfl
        ·rfl
       refine hK.out _ _ ⟨(cell_al hHeld.1), (cell_al hHeld.2.1), (cell_al hHeld.2.2.1), (cell_al hHeld.2.2.2.1), (cell_al hHeld.2.2.2.2.1), (cell_al hHeld.2.2.2.2.2.1), (cell_al hHeld.2.2.2.2.2.2)⟩ (fun hHeld => ?_)
       clear hK K
       refine norm_ (a' := ?_) ?_ ?_
       rotate_left
       ·show Act.put _ (some 7) _ = _
        simp only [Act.put, List.setIfInBounds_toArray, List.set_cons_zero, List.set_cons_succ, i64_w, i32_w]
        rfl
       exact norm_ (by simp only [putAll, Act.put, List.setIfInBounds_toArray, List.set_cons_zero, List.set_cons_succ]) (hCont (w4.heap.size) _ (factP_a HB3.out HB4.out))
      ·skip
       refine value_ (w1 := ?_) (v := ?_) (by rfl) rfl ?_ ?_
       rotate_left 2
       ·go_simp
        constructor
        ·rfl
        ·rfl
       refine hK.out _ _ ⟨(cell_al hHeld.1), (cell_al hHeld.2.1), (cell_al hHeld.2.2.1), (cell_al hHeld.2.2.2.1), (cell_al hHeld.2.2.2.2.1), (cell_al hHeld.2.2.2.2.2.1), (cell_al hHeld.2.2.2.2.2.2)⟩ (fun hHeld => ?_)
       clear hK K
       refine norm_ (a' := ?_) ?_ ?_
       rotate_left
       ·show Act.put _ (some 7) _ = _
        simp only [Act.put, List.setIfInBounds_toArray, List.set_cons_zero, List.set_cons_succ, i64_w, i32_w]
        rfl
       refine one_ (i := 11) (N := some 40) #[true, true, true, true, true, true, true, true, true, true, true, true, false, false, false, true, false, false] rfl rfl (by kernel_rfl) (by decide) (fun K hK => ?_)
       refine goesDyn_ (f := doesF k) (.tmp 39) #[] #[kV f t] (fun args w => known_enters k args w) (by rfl) rfl rfl rfl ?_
       refine (HKC.out _).mono ?_
       rintro e w4 ⟨rfl, hb⟩
       refine ⟨_, rfl, ?_⟩
       have HB4 := Aside0.mk hb
       clear hb
       refine hK.out _ _ ⟨(cell_bel HB4.out hHeld.1), (cell_bel HB4.out hHeld.2.1), (cell_bel HB4.out hHeld.2.2.1), (cell_bel HB4.out hHeld.2.2.2.1), (cell_bel HB4.out hHeld.2.2.2.2.1), (cell_bel HB4.out hHeld.2.2.2.2.2.1), (cell_bel HB4.out hHeld.2.2.2.2.2.2)⟩ (fun hHeld => ?_)
       clear hK K
       refine norm_ (a' := ?_) ?_ ?_
       rotate_left
       ·show Act.put _ (some 40) _ = _
        simp only [Act.put, List.setIfInBounds_toArray, List.set_cons_zero, List.set_cons_succ, i64_w, i32_w]
        rfl
       refine ws_ 2 #[true, true, true, true, true, true, true, true, true, true, true, true, true, true, true, true, false, false] [(12, false, some 28), (13, false, some 41), (14, false, some 42)] (by kernel_rfl) rfl ?_
       repeat (first | (refine ws_pure (v := ?_) (a' := ?_) rfl rfl (fun _ _ _ h => h) (Or.inl ⟨by rfl, ?_⟩) ?_ ?_; rotate_left; (focus intro w'; go_simp; with_reducible rfl); rotate_left; (focus simp only [Act.put, List.setIfInBounds_toArray, List.set_cons_zero, List.set_cons_succ, i64_w, i32_w]; rfl)))
       refine ws_nil ?_
       exact norm_ (by simp only [putAll, Act.put, List.setIfInBounds_toArray, List.set_cons_zero, List.set_cons_succ]) (hCont (w3.heap.size) _ (factP_b HB3.out HB4.out))
     ·skip
      refine value_ (w1 := ?_) (v := ?_) (by rfl) rfl ?_ ?_
      rotate_left 2
      ·go_simp
       constructor
       ·rfl
       ·rfl
      refine hK.out _ _ ⟨(cell_al hHeld.1), (cell_al hHeld.2.1), (cell_al hHeld.2.2.1), (cell_al hHeld.2.2.2.1), (cell_al hHeld.2.2.2.2.1), (cell_al hHeld.2.2.2.2.2.1), (cell_al hHeld.2.2.2.2.2.2)⟩ (fun hHeld => ?_)
      clear hK K
      refine norm_ (a' := ?_) ?_ ?_
      rotate_left
      ·show Act.put _ (some 7) _ = _
       simp only [Act.put, List.setIfInBounds_toArray, List.set_cons_zero, List.set_cons_succ, i64_w, i32_w]
       rfl
      refine one_ (i := 10) (N := some 39) #[true, true, true, true, true, true, true, true, true, true, true, false, false, false, false, true, false, false] rfl rfl (by kernel_rfl) (by decide) (fun K hK => ?_)
      refine goes_ Try.func22 (by kernel_rfl) rfl #[kV f t, .int .i64 k] (by rfl) rfl rfl (by first | rfl | (simp only [List.map_toArray, List.map_cons, List.map_nil]; rfl)) ?_
      refine (does_walk f t k _).mono ?_
      rintro e w3 ⟨rfl, hb⟩
      refine ⟨_, rfl, ?_⟩
      have HB3 := Aside0.mk hb
      clear hb
      refine hK.out _ _ ⟨(cell_bel HB3.out hHeld.1), (cell_bel HB3.out hHeld.2.1), (cell_bel HB3.out hHeld.2.2.1), (cell_bel HB3.out hHeld.2.2.2.1), (cell_bel HB3.out hHeld.2.2.2.2.1), (cell_bel HB3.out hHeld.2.2.2.2.2.1), (cell_bel HB3.out hHeld.2.2.2.2.2.2)⟩ (fun hHeld => ?_)
      clear hK K
      refine norm_ (a' := ?_) ?_ ?_
      rotate_left
      ·show Act.put _ (some 39) _ = _
       simp only [Act.put, List.setIfInBounds_toArray, List.set_cons_zero, List.set_cons_succ, i64_w, i32_w]
       rfl
      refine one_ (i := 11) (N := some 40) #[true, true, true, true, true, true, true, true, true, true, true, true, false, false, false, true, false, false] rfl rfl (by kernel_rfl) (by decide) (fun K hK => ?_)
      refine goesDyn_ (f := doesF k) (.tmp 39) #[] #[kV f t] (fun args w => known_enters k args w) (by rfl) rfl rfl rfl ?_
      refine (HKC.out _).mono ?_
      rintro e w4 ⟨rfl, hb⟩
      refine ⟨_, rfl, ?_⟩
      have HB4 := Aside0.mk hb
      clear hb
      refine hK.out _ _ ⟨(cell_bel HB4.out hHeld.1), (cell_bel HB4.out hHeld.2.1), (cell_bel HB4.out hHeld.2.2.1), (cell_bel HB4.out hHeld.2.2.2.1), (cell_bel HB4.out hHeld.2.2.2.2.1), (cell_bel HB4.out hHeld.2.2.2.2.2.1), (cell_bel HB4.out hHeld.2.2.2.2.2.2)⟩ (fun hHeld => ?_)
      clear hK K
      refine norm_ (a' := ?_) ?_ ?_
      rotate_left
      ·show Act.put _ (some 40) _ = _
       simp only [Act.put, List.setIfInBounds_toArray, List.set_cons_zero, List.set_cons_succ, i64_w, i32_w]
       rfl
      refine ws_ 2 #[true, true, true, true, true, true, true, true, true, true, true, true, true, true, true, true, false, false] [(12, false, some 28), (13, false, some 41), (14, false, some 42)] (by kernel_rfl) rfl ?_
      repeat (first | (refine ws_pure (v := ?_) (a' := ?_) rfl rfl (fun _ _ _ h => h) (Or.inl ⟨by rfl, ?_⟩) ?_ ?_; rotate_left; (focus intro w'; go_simp; with_reducible rfl); rotate_left; (focus simp only [Act.put, List.setIfInBounds_toArray, List.set_cons_zero, List.set_cons_succ, i64_w, i32_w]; rfl)))
      refine ws_nil ?_
      exact norm_ (by simp only [putAll, Act.put, List.setIfInBounds_toArray, List.set_cons_zero, List.set_cons_succ]) (hCont (w2.heap.size) _ (factP_c HB3.out HB4.out))
    rintro g7 W6 HF6
    have HKP : Aside0 (FactP w2 W6 g7) := ⟨HF6⟩
    have q0 := (blk_cell HKP.out.2.2 0).trans rfl
    have q1 := (blk_cell HKP.out.2.2 1).trans rfl
    have q2 := (blk_cell HKP.out.2.2 2).trans rfl
    have q3 := (blk_cell HKP.out.2.2 3).trans rfl
    have y0 := blk_frozen HKP.out.2.2 0
    have y1 := blk_frozen HKP.out.2.2 1
    have y2 := blk_frozen HKP.out.2.2 2
    have y3 := blk_frozen HKP.out.2.2 3
    clear HF6
    refine norm_ (a' := ?_) ?_ ?_
    rotate_left
    ·simp only [putAll, Act.put, List.setIfInBounds_toArray, List.set_cons_zero, List.set_cons_succ]
     rfl
    refine last_ (i := 16) (N := none) #[true, true, true, true, true, true, true, true, true, true, true, true, true, true, true, true, true, false] rfl rfl (by kernel_rfl) (by decide) (fun K hK => ?_)
    refine skip_ (w1 := ?_) (by rfl) rfl ?_ ?_
    rotate_left
    ·go_simp
     rfl
    refine hK.out _ _ ?_
    clear hK K
    refine pure_ (i := 17) (N := some 8) (v := ?_) (a' := ?_) #[true, true, true, true, true, true, true, true, true, true, true, true, true, true, true, true, true, true] rfl rfl (by kernel_rfl) (fun _ _ _ h => h) (Or.inl ⟨by rfl, ?_⟩) ?_ ?_
    rotate_left
    ·intro w'
     go_simp
     with_reducible rfl
    rotate_left
    ·simp only [Act.put, List.setIfInBounds_toArray, List.set_cons_zero, List.set_cons_succ, i64_w, i32_w]
     rfl
    refine done_ (by kernel_rfl) ?_
    --END5
    have HG7 := Aside0.mk (blk_put (blk_put (blk_put (blk_put HKP.out.2.2 0 (.int .i64 qf.f0) rfl) 1 (.int .i64 qf.f1) rfl) 2 (.int .i64 qf.f2) rfl) 3 (.bool qf.f3) rfl)
    have HL6 := Aside0.mk (Kd.R_below (Kd.R_mono (ok' := fun b => ok b ∧ b < w2.heap.size) (Kd.R_bound HL2.out) (fun b hb => ⟨hb.1, hb.2.2.1⟩)) HKP.out.1)
    have HFar : Aside0 (∀ b, ok b ∧ b < w2.heap.size → b ≠ g7) := ⟨fun b hb => by have := HKP.out.2.1; omega⟩
    have HL7 := Aside0.mk (Kd.R_far (p := ⟨g7, 3, none⟩) (Kd.R_far (p := ⟨g7, 2, none⟩) (Kd.R_far (p := ⟨g7, 1, none⟩) (Kd.R_far (p := ⟨g7, 0, none⟩) HL6.out HFar.out (.int .i64 qf.f0)) HFar.out (.int .i64 qf.f1)) HFar.out (.int .i64 qf.f2)) HFar.out (.bool qf.f3))
    have HB6 := Aside0.mk ((HB2.out.mono HBS.out).trans (HKP.out.1.mono (Nat.le_trans HBS.out HB2.out.size)))
    have hb7 : base ≤ g7 := Nat.le_trans (Nat.le_trans HBS.out HB2.out.size) HKP.out.2.1
    have HB7 := Aside0.mk ((((HB6.out.setCell (p := ⟨g7, 0, none⟩) hb7 (.int .i64 qf.f0)).setCell (p := ⟨g7, 1, none⟩) hb7 (.int .i64 qf.f1)).setCell (p := ⟨g7, 2, none⟩) hb7 (.int .i64 qf.f2)).setCell (p := ⟨g7, 3, none⟩) hb7 (.bool qf.f3))
    have hn7 : w.heap.size + 1 ≠ g7 := by have h1 := blk_lt HG2.out; have h2 := HKP.out.2.1; omega
    have HE7 := Aside0.mk (blk_far (p := ⟨g7, 3, none⟩) (blk_far (p := ⟨g7, 2, none⟩) (blk_far (p := ⟨g7, 1, none⟩) (blk_far (p := ⟨g7, 0, none⟩) (blk_below HG2.out HKP.out.1) hn7 (.int .i64 qf.f0)) hn7 (.int .i64 qf.f1)) hn7 (.int .i64 qf.f2)) hn7 (.bool qf.f3))
    clear hb7 hn7 q0 q1 q2 q3 y0 y1 y2 y3 hHeld HKP HB6 HL6 HFar
    generalize (((W6.setCell ⟨g7, 0, none⟩ (.int .i64 qf.f0)).setCell ⟨g7, 1, none⟩ (.int .i64 qf.f1)).setCell ⟨g7, 2, none⟩ (.int .i64 qf.f2)).setCell ⟨g7, 3, none⟩ (.bool qf.f3) = W7 at HG7 HL7 HB7 HE7 ⊢
    have x1 : W7.cell? ⟨w.heap.size + 1, 1, none⟩ = some (.int .i64 it) := (blk_cell HE7.out 1).trans rfl
    have q0 : W7.cell? ⟨g7, 0, none⟩ = some (.int .i64 qf.f0) := (blk_cell HG7.out 0).trans rfl
    have q1 : W7.cell? ⟨g7, 1, none⟩ = some (.int .i64 qf.f1) := (blk_cell HG7.out 1).trans rfl
    have q2 : W7.cell? ⟨g7, 2, none⟩ = some (.int .i64 qf.f2) := (blk_cell HG7.out 2).trans rfl
    have q3 : W7.cell? ⟨g7, 3, none⟩ = some (.bool qf.f3) := (blk_cell HG7.out 3).trans rfl
    cases b with
    | false =>
     go_wp2
     go_ret
     have hx : applyB p l k it t s = (14, l) := by unfold applyB; rw [HV.out, if_pos rfl, if_neg (by omega), HX.out, x3, HF.out, HQ.out]; rfl
     unfold ApplyP
     rw [hx]
     exact ⟨rfl, Kd.R_mono HL7.out (fun b hb => hb.1), HB7.out⟩
    | true =>
     obtain ⟨c, hcl, hM, hcc, hfz⟩ := Kd.R_elem HL7.out z52 it h0 h2
     have hc := k52_openM hM
     subst hc
     have HCC := Aside0.mk hcc
     clear hcl hM hcc hfz
     go_wp2_with ((with_reducible refine gate_store (t := 52) (p := 49) rfl ?_); refine stop2_ ?_)
     unfold Stop2_
     refine Kd.R_store k52 (w0 := w) base rfl rfl 52 (.tmp 49) (.tmp 48) rfl 52 (g := g) (n := l.length) (cap := cl) (o' := it.toNat * 4) it 0 l qf (factV qf) [.int .i64 qf.f0, .int .i64 qf.f1, .int .i64 qf.f2, .bool qf.f3] _ (fun b => ok b ∧ b < w2.heap.size) (fun _ => False) rfl rfl rfl rfl (by kernel_rfl) (by simp [Value.oneCell']) HL7.out h0 h2 rfl HCC.out (Nat.le_refl _) (k52_mkM _ _ _ qf) (fun _ h => h.elim) HB7.out ?_
     intro w9 hR hB hg
     have HR9 := Aside0.mk hR
     have HB9 := Aside0.mk hB
     clear hR hB hg
     go_wp2
     go_ret
     have hx : applyB p l k it t s = (0, l.set it.toNat qf) := by unfold applyB; rw [HV.out, if_pos rfl, if_neg (by omega), HX.out, x3, HF.out, HQ.out]; rfl
     unfold ApplyP
     rw [hx]
     exact ⟨rfl, Kd.R_mono HR9.out (fun b hb => hb.1), HB9.out⟩
   ·go_enter Try.func16, Try.ntmps16
    go_wp2_with (go_at_call 21; refine stop2_ ?_)
    unfold Stop2_
    refine HCW.out.mono ?_
    rintro e w2 ⟨he, hb⟩
    replace he : e = .returned (.int .i64 0) := he
    subst he
    have HB2 := Aside0.mk (HB0.out.trans (hb.mono HB0.out.size))
    have HG2 := Aside0.mk (blk_below HGB.out hb)
    have HGA2 := Aside0.mk (blk_below HGA.out hb)
    clear hb
    have x1 : w2.cell? ⟨w.heap.size + 1, 1, none⟩ = some (.int .i64 it) := (blk_cell HG2.out 1).trans rfl
    have x0 : w2.cell? ⟨w.heap.size, 0, none⟩ = some (.slice Ap p.length cp) := (blk_cell HGA2.out 0).trans rfl
    obtain ⟨ad, A7, c7, e0, z0, z1, z2, _⟩ := at_T44 (Kd.C_below HP.out HB2.out) it h0 h1
    subst e0
    rw [HX.out, x3] at z2
    clear z0 z1
    go_wp2
    go_ret
    have hx : applyB p l k it t s = (14, l) := by unfold applyB; rw [HV.out, if_pos rfl, if_neg (by omega), HX.out, x3]; rfl
    unfold ApplyP
    rw [hx]
    exact ⟨rfl, Kd.R_below HL.out HB2.out, HB2.out.mono HBS.out⟩
end Go.Proofs.Ytgilgicanggleab.F
end

section
namespace Go.Proofs.Ytgilgicanggleab.F
open Go.RowKit Go.Proofs.YtgilgicanggleabW.PrintWords Go.Proofs.YtgilgicanggleabW.PrintLast Go.Proofs.YtgilgicanggleabW.PrintMore
attribute [local go_sem] max2_int min2_int max_two min_two max_three min_three max_four min_four
set_option linter.unusedVariables false
set_option linter.unusedSimpArgs false
theorem info56_ : (Try.prog.info? 52).map (fun i => (i.zero, i.size, i.bytes)) = some (some (.agg #[(.int .i64 0), (.int .i64 0), (.int .i64 0), (.bool false)]), 4, 32) := by kernel_rfl
set_option maxHeartbeats 8000000 in
set_option maxRecDepth 100000 in
theorem clone_walk (A : Option Addr) (c : Nat) (l : List S52) (w : World) (hr : Kd.C k52 w A l.length l) (hl : l.length ≤ 1000000) :
  Calls Try.prog 15 #[.slice A l.length c] w fun e w' => ∃ v, e = .returned v ∧ Kd.R k52 52 w' w.heap.size (fun _ => True) v l ∧ Below w.heap.size w w' := by
 have HR := Aside0.mk hr
 have HL := Aside0.mk hl
 have HB := Aside0.mk (Below.refl w.heap.size w)
 have he := fun (B : Option Addr) (n c : Nat) (w : World) => Lib.run_eql_slice_nil (P := Try.prog) w 25 52 B n c 0 0 Try.underlying25
 clear hr hl
 cases A with
 | none =>
  have h0 : l = [] := by
   cases l with
   | nil => rfl
   | cons x l => obtain ⟨ad, h, _⟩ := HR.out.2.2 (by simp); cases h
  subst h0
  go_enter Try.func15, Try.ntmps15
  go_wp2
  go_ret
  exact ⟨_, rfl, Kd.R_nil _ _ _ _ _, HB.out⟩
 | some ad =>
  have h2 := World.ownsRow_lit (base := w.heap.size) (e := 52) (size := k52.sz) w #[] 0 (Nat.le_refl _) (by simp) (by simp)
  have HO0 : Aside0 (Kd.R k52 52 (w.alloc (.cells #[] 52 (0, 0))) w.heap.size (fun _ => True) (.slice (some ⟨w.heap.size, 0, none⟩) 0 0) []) := ⟨⟨fun _ _ => trivial, [], by simpa using h2, Reps.none _ _⟩⟩
  clear h2
  go_enter Try.func15, Try.ntmps15
  go_wp2_with ((with_reducible refine gate_builtin (b := .append) (xs := #[.tmp 5, .tmp 6]) rfl ?_); at_builtin; refine Kd.R_append_rows k52 (w0 := w) w.heap.size rfl (.tmp 5) (.tmp 6) 25 52 (.agg #[(.int .i64 0), (.int .i64 0), (.int .i64 0), (.bool false)]) 32 rfl Try.underlying25 info56_ rfl (by decide) (by omega) (.slice (some ⟨w.heap.size, 0, none⟩) 0 0) [] l _ _ _ (fun _ => True) (fun _ => False) rfl rfl HO0.out (Kd.C_below HR.out (below_alloc (Below.refl _ _) _)) (fun _ _ h => h) (fun _ h => h.elim) (fun _ _ => trivial) (HB.out.alloc (Nat.le_refl _) _) (by simp) (by have := HL.out; simp; omega) ?_; intro v1 w1 hR hB hg hx; have HR1 := Aside0.mk hR; have HB1 := Aside0.mk hB; clear hR hB hg hx)
  go_ret
  exact ⟨_, rfl, HR1.out, HB1.out⟩
end Go.Proofs.Ytgilgicanggleab.F
end

section
namespace Go.Proofs.Ytgilgicanggleab.F
open Go.RowKit Go.Proofs.YtgilgicanggleabW.PrintWords Go.Proofs.YtgilgicanggleabW.PrintLast Go.Proofs.YtgilgicanggleabW.PrintMore
attribute [local go_sem] max2_int min2_int max_two min_two max_three min_three max_four min_four
set_option linter.unusedVariables false
set_option linter.unusedSimpArgs false
def fineB (f : S52) : Bool := decide (0 ≤ f.f0) && decide (f.f0 ≤ 3) && decide (0 ≤ f.f2) && decide (f.f2 ≤ 3) && (decide (f.f1 = f.f2) || decide (f.f1 = f.f2 + 1)) && (!decide (f.f1 > 0) || decide (f.f0 = 2)) && (!f.f3 || decide (f.f1 > f.f2))
def zeroB (f : S52) : Bool := !((!((f.f0) == 0) || (!((f.f1) == 0) || (!((f.f2) == 0) || ((f.f3))))))
def factOk (p : List S44) (l : List S52) (j : Nat) : Bool := fineB (rd_T52 l j) && (!(rd_T44 p j).f2 || zeroB (rd_T52 l j))
def factsB (p : List S44) (l : List S52) : Bool := decide (l.length = p.length) && (rightB p && (List.range' 0 l.length).all (factOk p l))
def smallP (p : List S44) : Bool := p.all fun x => decide (x.f7.length ≤ 1000000)
theorem w64_in_ (n : Int) (h : -9223372036854775808 ≤ n ∧ n ≤ 9223372036854775807) : wrap64 n = n := by unfold wrap64; omega
theorem fine_eq (k : Nat) (f : S52) : fact_fine.f (k + 1) f.f0 f.f1 f.f2 f.f3 = some (fineB f) := by
 obtain ⟨a, b, c, d⟩ := f
 unfold fact_fine.f fineB
 dsimp only
 by_cases a1 : a < 0
 ·rw [if_pos a1]; simp [fact_fine.j0]; omega
 rw [if_neg a1]
 by_cases a2 : a > 3
 ·rw [if_pos a2]; simp [fact_fine.j0]; omega
 rw [if_neg a2]
 by_cases a3 : c < 0
 ·rw [if_pos a3]; simp [fact_fine.j0]; omega
 rw [if_neg a3]
 by_cases a4 : c > 3
 ·simp [fact_fine.j0, a4]; omega
 rw [decide_eq_false a4]
 have hw : wrap64 (c + 1) = c + 1 := w64_in_ _ (by omega)
 simp only [fact_fine.j0, hw]
 rw [decide_eq_true (by omega : 0 ≤ a), decide_eq_true (by omega : a ≤ 3), decide_eq_true (by omega : 0 ≤ c), decide_eq_true (by omega : c ≤ 3)]
 by_cases b1 : b = c
 ·subst b1
  by_cases b3 : b > 0 <;> by_cases b4 : a = 2 <;> cases d <;> simp [b3, b4]
 by_cases b2 : b = c + 1
 ·subst b2
  by_cases b3 : c + 1 > 0 <;> by_cases b4 : a = 2 <;> cases d <;> simp [b1, b3, b4] <;> omega
 simp [b1, b2]
theorem factloop_eq (p : List S44) (l : List S52) (hpl : l.length = p.length) (hl : l.length ≤ 1000000) : ∀ (m i k : Nat), i + m = l.length → fact_Check.l0 (m + 2 + k) l (l.length : Int) (i : Int) p = some (if (List.range' i m).all (factOk p l) then 0 else 2) := by
 intro m
 induction m with
 | zero =>
  intro i k h
  rw [show 0 + 2 + k = (k + 1) + 1 from by omega]
  unfold fact_Check.l0
  rw [if_neg (by omega)]
  rfl
 | succ m ih =>
  intro i k h
  rw [show m + 1 + 2 + k = (m + 2 + k) + 1 from by omega]
  unfold fact_Check.l0
  rw [if_pos (by omega), if_pos (by omega), if_pos (by omega), show m + 2 + k = (m + 1 + k) + 1 from by omega, fine_eq, show (m + 1 + k) + 1 = m + 2 + k from by omega]
  have hw : wrap64 ((i : Int) + 1) = ((i + 1 : Nat) : Int) := by rw [w64_in_ _ (by omega)]; omega
  rw [hw, ih (i + 1) k (by omega), List.range'_succ, List.all_cons]
  simp only [Option.bind_some, factOk, zeroB]
  rw [if_pos (by omega : (i : Int) < (p.length : Int))]
  by_cases h1 : fineB (rd_T52 l i) = true <;> by_cases h2 : (rd_T44 p i).f2 = true <;> (try simp only [Bool.not_eq_true] at h1) <;> (try simp only [Bool.not_eq_true] at h2) <;> simp only [h1, h2] <;> generalize ((rd_T52 l i).f0 == 0) = y1 <;> generalize ((rd_T52 l i).f1 == 0) = y2 <;> generalize ((rd_T52 l i).f2 == 0) = y3 <;> generalize (rd_T52 l i).f3 = y4 <;> cases y1 <;> cases y2 <;> cases y3 <;> cases y4 <;> first | rfl | (simp; done)
theorem fact_check_at (p : List S44) (l : List S52) (hp : smallP p = true) (hl : l.length ≤ 1000000) : fact_Check.f (l.length + 2 + 1) p l = some (if factsB p l then 0 else 2) := by
 unfold fact_Check.f factsB plan_Right.f
 by_cases h : l.length = p.length
 ·rw [if_pos (by omega), if_pos (by exact hp), Option.bind_some, decide_eq_true h]
  cases rightB p
  ·simp [fact_Check.j0]
  ·simp only [fact_Check.j0, Bool.not_true, Bool.false_eq_true, if_false, Bool.true_and]
   have := factloop_eq p l h hl l.length 0 0 (by omega)
   exact this
 ·rw [if_neg (by omega), decide_eq_false h]
  simp [fact_Check.j0]
theorem fact_check_eq (p : List S44) (l : List S52) (hp : smallP p = true) (hl : l.length ≤ 1000000) : ∃ k, fact_Check.f k p l = some (if factsB p l then 0 else 2) := ⟨_, fact_check_at p l hp hl⟩
def applyL (p : List S44) (l : List S52) (k it t : Int) (s : List Int) : List S52 × Int :=
 if factsB p l then (if (applyB p l k it t s).1 = 0 then ((applyB p l k it t s).2, 0) else ([], (applyB p l k it t s).1)) else ([], 2)
set_option maxHeartbeats 8000000 in
set_option maxRecDepth 100000 in
theorem Apply_walk (p : List S44) (Ap : Option Addr) (cp : Nat) (l : List S52) (Al : Option Addr) (cl : Nat) (k it t : Int) (s : List Int) (As : Option Addr) (cs : Nat) (w : World)
  (hp : Kd.C k44 w Ap p.length p) (hcp : p.length ≤ cp) (hl : Kd.C k52 w Al l.length l) (hcl : l.length ≤ cl) (hs : Kd.C (Kd.int .i64) w As s.length s) (hcs : s.length ≤ cs) (hsm : smallP p = true) (hl6 : l.length ≤ 1000000) :
  Calls Try.prog 7 #[.agg #[.slice Ap p.length cp], .slice Al l.length cl, .agg #[.int .i64 k, .int .i64 it, .int .i64 t, .slice As s.length cs]] w fun e w' => ∃ v, e = .returned (.tuple #[v, .int .i64 (applyL p l k it t s).2]) ∧ Kd.R k52 52 w' w.heap.size (fun _ => True) v (applyL p l k it t s).1 ∧ Below w.heap.size w w' := by
 have HP := Aside0.mk hp
 have HL := Aside0.mk hl
 have HS := Aside0.mk hs
 have HCP := Aside0.mk hcp
 have HCL := Aside0.mk hcl
 have HCS := Aside0.mk hcs
 have HL6 := Aside0.mk hl6
 have HGA := Aside0.mk (blk_alloc (blk_new w (.cells #[.slice Ap p.length cp] 24 (0, 0))) (.cells #[.int .i64 k, .int .i64 it, .int .i64 t, .slice As s.length cs] 29 (0, 0)))
 have hgb := blk_new (w.alloc (.cells #[.slice Ap p.length cp] 24 (0, 0))) (.cells #[.int .i64 k, .int .i64 it, .int .i64 t, .slice As s.length cs] 29 (0, 0))
 rw [show (w.alloc (.cells #[.slice Ap p.length cp] 24 (0, 0))).heap.size = w.heap.size + 1 from by simp] at hgb
 have HGB := Aside0.mk hgb
 clear hgb
 have HB0 : Aside0 (Below w.heap.size w ((w.alloc (.cells #[.slice Ap p.length cp] 24 (0, 0))).alloc (.cells #[.int .i64 k, .int .i64 it, .int .i64 t, .slice As s.length cs] 29 (0, 0)))) := ⟨below_alloc (below_alloc (Below.refl _ _) _) _⟩
 obtain ⟨kf, hkf⟩ := fact_check_eq p l hsm hl6
 have HKF := Aside0.mk hkf
 clear hp hcp hl hcl hs hcs hsm hl6 hkf
 obtain ⟨r, hr⟩ : ∃ r, applyL p l k it t s = r := ⟨_, rfl⟩
 have HR := Aside0.mk hr
 rw [hr]
 clear hr
 obtain ⟨v, hv⟩ : ∃ v, factsB p l = v := ⟨_, rfl⟩
 have HV := Aside0.mk hv
 rw [hv] at HKF
 clear hv
 cases v with
 | false =>
  go_enter Try.func7, Try.ntmps7
  go_wp2_with (go_at_call 14; refine stop2_ ?_)
  unfold Stop2_
  refine (fact_Check.calls kf Ap cp p Al cl l 2 _ (Kd.C_below HP.out HB0.out) HCP.out (Kd.C_below HL.out HB0.out) HCL.out HKF.out).mono ?_
  rintro e w2 ⟨rfl, hb⟩
  have HB2 := Aside0.mk (HB0.out.trans (hb.mono HB0.out.size))
  clear hb
  go_wp2
  go_ret2
  have hx : r = ([], 2) := by rw [← HR.out]; unfold applyL; rw [HV.out]; rfl
  rw [hx]
  exact ⟨_, rfl, Kd.R_nil _ _ _ _ _, HB2.out⟩
 | true =>
  have HPL : Aside0 (l.length = p.length) := ⟨by have h := HV.out; unfold factsB at h; simp at h; exact h.1⟩
  obtain ⟨⟨er, l4⟩, ha⟩ : ∃ a, applyB p l k it t s = a := ⟨_, rfl⟩
  have HA := Aside0.mk ha
  clear ha
  go_enter Try.func7, Try.ntmps7
  go_wp2_with (go_at_call 14; refine stop2_ ?_)
  unfold Stop2_
  refine (fact_Check.calls kf Ap cp p Al cl l 0 _ (Kd.C_below HP.out HB0.out) HCP.out (Kd.C_below HL.out HB0.out) HCL.out HKF.out).mono ?_
  rintro e w2 ⟨rfl, hb⟩
  have HB2 := Aside0.mk (HB0.out.trans (hb.mono HB0.out.size))
  have HGA2 := Aside0.mk (blk_below HGA.out hb)
  have HGB2 := Aside0.mk (blk_below HGB.out hb)
  clear hb
  go_wp2_with (go_at_call 15; refine stop2_ ?_)
  unfold Stop2_
  refine (clone_walk Al cl l _ (Kd.C_below HL.out HB2.out) HL6.out).mono ?_
  rintro e w3 ⟨v3, rfl, hR3, hb⟩
  obtain ⟨A3, c3, rfl⟩ := Kd.R_slice hR3
  have HB3 := Aside0.mk (HB2.out.trans (hb.mono HB2.out.size))
  have HR3 := Aside0.mk (Kd.R_lower hR3 HB2.out.size)
  have HGA3 := Aside0.mk (blk_below HGA2.out hb)
  have HGB3 := Aside0.mk (blk_below HGB2.out hb)
  clear hb hR3
  have haw := apply_walk p Ap cp l A3 c3 k it t s As cs w.heap.size (fun _ => True) w3 (Kd.C_below HP.out HB3.out) HR3.out HPL.out (Kd.C_below HS.out HB3.out) HCS.out HB3.out.size
  unfold ApplyP at haw
  rw [HA.out] at haw
  have HAW := Aside0.mk haw
  clear haw
  have x0 : w3.cell? ⟨w.heap.size, 0, none⟩ = some (.slice Ap p.length cp) := (blk_cell HGA3.out 0).trans rfl
  have y0 : w3.cell? ⟨w.heap.size + 1, 0, none⟩ = some (.int .i64 k) := (blk_cell HGB3.out 0).trans rfl
  have y1 : w3.cell? ⟨w.heap.size + 1, 1, none⟩ = some (.int .i64 it) := (blk_cell HGB3.out 1).trans rfl
  have y2 : w3.cell? ⟨w.heap.size + 1, 2, none⟩ = some (.int .i64 t) := (blk_cell HGB3.out 2).trans rfl
  have y3 : w3.cell? ⟨w.heap.size + 1, 3, none⟩ = some (.slice As s.length cs) := (blk_cell HGB3.out 3).trans rfl
  go_wp2_with (go_at_call 16; refine stop2_ ?_)
  unfold Stop2_
  refine HAW.out.mono ?_
  rintro e w4 ⟨rfl, hR4, hb⟩
  have HR4 := Aside0.mk hR4
  have HB4 := Aside0.mk (HB3.out.trans hb)
  clear hR4 hb x0 y0 y1 y2 y3
  by_cases hE : er = 0
  ·have HX : Aside0 (r = (l4, 0)) := ⟨by rw [← HR.out]; unfold applyL; rw [HV.out, if_pos rfl, HA.out, if_pos hE]⟩
   subst hE
   go_wp2
   go_ret2
   rw [HX.out]
   exact ⟨_, rfl, HR4.out, HB4.out⟩
  ·have HX : Aside0 (r = ([], er)) := ⟨by rw [← HR.out]; unfold applyL; rw [HV.out, if_pos rfl, HA.out, if_neg hE]⟩
   go_wp2
   go_ret2
   rw [HX.out]
   exact ⟨_, rfl, Kd.R_nil _ _ _ _ _, HB4.out⟩
def fact_Apply.f (l0_0 : List S44) (l1 : List S52) (a2_0 a2_1 a2_2 : Int) (l2_3 : List Int) : Option (List S52 × Int) := if smallP l0_0 && decide (l1.length ≤ 1000000) then some (applyL l0_0 l1 a2_0 a2_1 a2_2 l2_3) else none
theorem fact_Apply.calls (A0_0 : Option Addr) (c0_0 : Nat) (l0_0 : List S44) (A1 : Option Addr) (c1 : Nat) (l1 : List S52) (a2_0 a2_1 a2_2 : Int) (A2_3 : Option Addr) (c2_3 : Nat) (l2_3 : List Int) (r1 : List S52) (r2 : Int) (w : World) (hr0_0 : Kd.C k44 w A0_0 l0_0.length l0_0) (hc0_0 : l0_0.length ≤ c0_0) (hr1 : Kd.C k52 w A1 l1.length l1) (hc1 : l1.length ≤ c1) (hr2_3 : Kd.C (Kd.int .i64) w A2_3 l2_3.length l2_3) (hc2_3 : l2_3.length ≤ c2_3) (h : fact_Apply.f l0_0 l1 a2_0 a2_1 a2_2 l2_3 = some (r1, r2)) :
  Calls Try.prog 7 #[.agg #[.slice A0_0 l0_0.length c0_0], .slice A1 l1.length c1, .agg #[.int .i64 a2_0, .int .i64 a2_1, .int .i64 a2_2, .slice A2_3 l2_3.length c2_3]] w fun e w' => ∃ v0_ : Value, e = .returned (.tuple #[v0_, .int .i64 r2]) ∧ Kd.R k52 52 w' w.heap.size (fun _ => True) v0_ r1 ∧ Below w.heap.size w w' := by
 unfold fact_Apply.f at h
 split at h
 ·rename_i hc
  rw [Bool.and_eq_true, decide_eq_true_eq] at hc
  have h2 := Apply_walk l0_0 A0_0 c0_0 l1 A1 c1 a2_0 a2_1 a2_2 l2_3 A2_3 c2_3 w hr0_0 hc0_0 hr1 hc1 hr2_3 hc2_3 hc.1 hc.2
  rw [Option.some.inj h] at h2
  exact h2
 ·cases h
end Go.Proofs.Ytgilgicanggleab.F
end

section
namespace Go.Proofs.Ytgilgicanggleab.F
open Go.RowKit Go.Proofs.YtgilgicanggleabW.PrintWords Go.Proofs.YtgilgicanggleabW.PrintLast Go.Proofs.YtgilgicanggleabW.PrintMore
attribute [local go_sem] max2_int min2_int max_two min_two max_three min_three max_four min_four
set_option linter.unusedVariables false
set_option linter.unusedSimpArgs false
attribute [local go_sem high] eqA52
def argosyref13_Same.l0 : Nat → List (S52) → List (S52) → Int → Option (Bool)
 | 0, _, _, _ => none
 | k + 1, x0, x1, x5 => if x5 < (x0.length : Int) then (if 0 ≤ x5 then (if x5 < (x1.length : Int) then (if (!(((rd_T52 x0 x5).f0) == ((rd_T52 x1 x5).f0)) || (!(((rd_T52 x0 x5).f1) == ((rd_T52 x1 x5).f1)) || (!(((rd_T52 x0 x5).f2) == ((rd_T52 x1 x5).f2)) || (!(((rd_T52 x0 x5).f3) == ((rd_T52 x1 x5).f3)))))) = true then (some false) else (argosyref13_Same.l0 k x0 x1 (wrap64 (x5 + 1)))) else (none)) else (none)) else (some true)
def argosyref13_Same.f (k : Nat) (l0 : List (S52)) (l1 : List (S52)) : Option (Bool) := if (l0.length : Int) = (l1.length : Int) then (argosyref13_Same.l0 k l0 l1 0) else (some false)
theorem argosyref13_Same.mono_l : ∀ k, (∀ y0 y1 y2, LeO (argosyref13_Same.l0 k y0 y1 y2) (argosyref13_Same.l0 (k + 1) y0 y1 y2))
 | 0 => fun _ _ _ r h => by simp [argosyref13_Same.l0] at h
 | k + 1 => by
  have ih0 := argosyref13_Same.mono_l k
  ·intro y0 y1 y2
   unfold argosyref13_Same.l0
   repeat' first
   | (with_reducible exact ih0 _ _ _)
   | (with_reducible exact LeO.refl _)
   | (with_reducible exact LeO.none _)
   | (with_reducible refine LeO.ite ?_ ?_)
   | (with_reducible refine LeO.bind ?_ (fun _ => ?_))
   | exact ih0 _ _ _
   | exact LeO.none _
   | refine LeO.ite ?_ ?_
   | refine LeO.bind ?_ (fun _ => ?_)
theorem argosyref13_Same.mono : ∀ a0 a1 k, LeO (argosyref13_Same.f k a0 a1) (argosyref13_Same.f (k + 1) a0 a1) := by
 intro a0 a1 k
 have ih0 := argosyref13_Same.mono_l k
 unfold argosyref13_Same.f
 repeat' first
   | (with_reducible exact ih0 _ _ _)
   | (with_reducible exact LeO.refl _)
   | (with_reducible exact LeO.none _)
   | (with_reducible refine LeO.ite ?_ ?_)
   | (with_reducible refine LeO.bind ?_ (fun _ => ?_))
   | exact ih0 _ _ _
   | exact LeO.none _
   | refine LeO.ite ?_ ?_
   | refine LeO.bind ?_ (fun _ => ?_)
set_option maxHeartbeats 8000000 in
set_option maxRecDepth 100000 in
theorem argosyref13_Same.calls (k : Nat) (A0 : Option Addr) (c0 : Nat) (l0 : List (S52)) (A1 : Option Addr) (c1 : Nat) (l1 : List (S52)) (r : Bool) (w : World) (hr0 : Kd.C k52 w A0 l0.length l0) (hc0 : l0.length ≤ c0) (hr1 : Kd.C k52 w A1 l1.length l1) (hc1 : l1.length ≤ c1) (h : argosyref13_Same.f k l0 l1 = some r) :
  Calls Try.prog 8 #[.slice A0 l0.length c0, .slice A1 l1.length c1] w fun e w' => e = .returned (.bool r) ∧ Drawn0 w w' := by
 have hu52 := Try.underlying52
 have HR0 := Aside0.mk hr0
 have HC0 := Aside0.mk hc0
 clear hr0 hc0
 have HR1 := Aside0.mk hr1
 have HC1 := Aside0.mk hc1
 clear hr1 hc1
 have H : (if (l0.length : Int) = (l1.length : Int) then (argosyref13_Same.l0 k l0 l1 0) else (some false)) = some r := h
 clear h
 by_cases c3 : (l0.length : Int) = (l1.length : Int)
 ·rw [if_pos c3] at H
  have c3b0 : ((l0.length : Int) == (l1.length : Int)) = true := beq_iff_eq.mpr c3
  have c3b1 : ((l0.length : Int) != (l1.length : Int)) = false := bne_eq_false_iff_eq.mpr c3
  have c3b2 : (l0.length == l1.length) = true := by first | simpa using c3 | (simp at c3 ⊢; omega)
  clear c3
  have H' := Aside0.mk H
  clear H
  go_enter Try.func8, Try.ntmps8
  go_wp2
  repeat (go_quiet (fail); try go_wp2)
  go_loopg [5] k (fun kq v5 w' => ∃ (x5_1 : Int), v5 = .int .i64 x5_1 ∧ Aside0 (argosyref13_Same.l0 kq l0 l1 x5_1 = some r) ∧ Aside0 (kq ≤ k) ∧ Drawn0 w w')
  case atStart => exact ⟨(0), (by first | rfl | (simp; done) | (simp [*]; done)), H', ⟨Nat.le_refl _⟩, by repeat (first | exact Drawn0.refl _ | apply Drawn0.step)⟩
  case round =>
   clear H'
   try clear c1
   try clear p2
   try clear c3
   try clear c3b0
   try clear c3b1
   try clear c3b2
   obtain ⟨x5_1, rfl, HA, HK1, ⟨m1, rfl⟩⟩ := hrel
   cases gk with
   | zero => exact absurd HA.out (by simp [argosyref13_Same.l0])
   | succ k1 =>
    have H := HA.out
    clear HA
    simp only [argosyref13_Same.l0] at H
    by_cases c4 : x5_1 < (l0.length : Int)
    ·rw [if_pos c4] at H
     have c4b0 : decide (x5_1 < (l0.length : Int)) = true := decide_eq_true c4
     clear c4
     by_cases c5 : 0 ≤ x5_1
     ·rw [if_pos c5] at H
      have c5b0 : decide (0 ≤ x5_1) = true := decide_eq_true c5
      clear c5
      by_cases c6 : x5_1 < (l1.length : Int)
      ·rw [if_pos c6] at H
       have c6b0 : decide (x5_1 < (l1.length : Int)) = true := decide_eq_true c6
       clear c6
       by_cases c7 : (!(((rd_T52 l0 x5_1).f0) == ((rd_T52 l1 x5_1).f0)) || (!(((rd_T52 l0 x5_1).f1) == ((rd_T52 l1 x5_1).f1)) || (!(((rd_T52 l0 x5_1).f2) == ((rd_T52 l1 x5_1).f2)) || (!(((rd_T52 l0 x5_1).f3) == ((rd_T52 l1 x5_1).f3)))))) = true
       ·rw [if_pos c7] at H
        have c7b0 : (!(((rd_T52 l0 x5_1).f0) == ((rd_T52 l1 x5_1).f0)) || (!(((rd_T52 l0 x5_1).f1) == ((rd_T52 l1 x5_1).f1)) || (!(((rd_T52 l0 x5_1).f2) == ((rd_T52 l1 x5_1).f2)) || (!(((rd_T52 l0 x5_1).f3) == ((rd_T52 l1 x5_1).f3)))))) = true := c7
        clear c7
        obtain rfl := Option.some.inj H
        have p142 : 0 ≤ (x5_1 : Int) := of_decide_eq_true (by first | (with_reducible assumption) | assumption)
        have q142 : x5_1 < (l0.length : Int) := of_decide_eq_true (by first | (with_reducible assumption) | assumption)
        obtain ⟨ad142, e142, hx142_0, hx142_1, hx142_2, hx142_3⟩ := at_T52 HR0.out x5_1 p142 q142
        cases e142
        replace p142 := eq_true p142
        replace q142 := eq_true q142
        have p143 : 0 ≤ (x5_1 : Int) := of_decide_eq_true (by first | (with_reducible assumption) | assumption)
        have q143 : x5_1 < (l1.length : Int) := of_decide_eq_true (by first | (with_reducible assumption) | assumption)
        obtain ⟨ad143, e143, hx143_0, hx143_1, hx143_2, hx143_3⟩ := at_T52 HR1.out x5_1 p143 q143
        cases e143
        replace p143 := eq_true p143
        replace q143 := eq_true q143
        go_wp2
        repeat (go_quiet (fail); try go_wp2)
        go_ret
        exact ⟨by first | rfl | (simp; done) | (simp [*]; done), by repeat (first | exact Drawn0.refl _ | apply Drawn0.step)⟩
       ·rw [if_neg c7] at H
        have c7b0 : (!(((rd_T52 l0 x5_1).f0) == ((rd_T52 l1 x5_1).f0)) || (!(((rd_T52 l0 x5_1).f1) == ((rd_T52 l1 x5_1).f1)) || (!(((rd_T52 l0 x5_1).f2) == ((rd_T52 l1 x5_1).f2)) || (!(((rd_T52 l0 x5_1).f3) == ((rd_T52 l1 x5_1).f3)))))) = false := by simpa using c7
        clear c7
        have H' := Aside0.mk H
        clear H
        have p142 : 0 ≤ (x5_1 : Int) := of_decide_eq_true (by first | (with_reducible assumption) | assumption)
        have q142 : x5_1 < (l0.length : Int) := of_decide_eq_true (by first | (with_reducible assumption) | assumption)
        obtain ⟨ad142, e142, hx142_0, hx142_1, hx142_2, hx142_3⟩ := at_T52 HR0.out x5_1 p142 q142
        cases e142
        replace p142 := eq_true p142
        replace q142 := eq_true q142
        have p143 : 0 ≤ (x5_1 : Int) := of_decide_eq_true (by first | (with_reducible assumption) | assumption)
        have q143 : x5_1 < (l1.length : Int) := of_decide_eq_true (by first | (with_reducible assumption) | assumption)
        obtain ⟨ad143, e143, hx143_0, hx143_1, hx143_2, hx143_3⟩ := at_T52 HR1.out x5_1 p143 q143
        cases e143
        replace p143 := eq_true p143
        replace q143 := eq_true q143
        go_wp2
        repeat (go_quiet (fail); try go_wp2)
        go_roundg k1
        case measure => have := HK1.out; omega
        case rel => exact ⟨(wrap64 (x5_1 + 1)), (by first | rfl | (simp; done) | (simp [*]; done)), H', ⟨by have := HK1.out; omega⟩, by repeat (first | exact Drawn0.refl _ | apply Drawn0.step)⟩
      ·rw [if_neg c6] at H
       exact absurd H (by simp)
     ·rw [if_neg c5] at H
      exact absurd H (by simp)
    ·rw [if_neg c4] at H
     have c4b0 : decide (x5_1 < (l0.length : Int)) = false := decide_eq_false c4
     clear c4
     obtain rfl := Option.some.inj H
     go_wp2
     repeat (go_quiet (fail); try go_wp2)
     go_ret
     exact ⟨by first | rfl | (simp; done) | (simp [*]; done), by repeat (first | exact Drawn0.refl _ | apply Drawn0.step)⟩
 ·rw [if_neg c3] at H
  have c3b0 : ((l0.length : Int) == (l1.length : Int)) = false := beq_eq_false_iff_ne.mpr c3
  have c3b1 : ((l0.length : Int) != (l1.length : Int)) = true := bne_iff_ne.mpr c3
  have c3b2 : (l0.length == l1.length) = false := by first | simpa using c3 | (simp at c3 ⊢; omega)
  obtain rfl := Option.some.inj H
  go_enter Try.func8, Try.ntmps8
  go_wp2
  repeat (go_quiet (fail); try go_wp2)
  go_ret
  exact ⟨by first | rfl | (simp; done) | (simp [*]; done), by repeat (first | exact Drawn0.refl _ | apply Drawn0.step)⟩
def fact_Open.l0 : Nat → List (S40) → List (S52) → Int → Int → Option ((List (S40)))
 | 0, _, _, _, _ => none
 | k + 1, x5, x12, x13, x14 => if x14 < x13 then (if 0 ≤ x14 then (if x14 < (x12.length : Int) then (if ((rd_T52 x12 x14).f0) = 1 then (if x5.length < 5864062014805 then (fact_Open.l0 k (x5 ++ [(⟨x14, false, 0⟩ : S40)]) x12 x13 (wrap64 (x14 + 1))) else (none)) else (if ((rd_T52 x12 x14).f1) > ((rd_T52 x12 x14).f2) then (if ((rd_T52 x12 x14).f3 = true) then (fact_Open.l0 k x5 x12 x13 (wrap64 (x14 + 1))) else (if x5.length < 5864062014805 then (fact_Open.l0 k (x5 ++ [(⟨x14, true, (rd_T52 x12 x14).f2⟩ : S40)]) x12 x13 (wrap64 (x14 + 1))) else (none))) else (fact_Open.l0 k x5 x12 x13 (wrap64 (x14 + 1))))) else (none)) else (none)) else (some x5)
def fact_Open.f (k : Nat) (l0_0 : List (S44)) (l1 : List (S52)) : Option ((List (S40))) := (fact_Check.f k l0_0 l1).bind fun t145 => (if t145 = 0 then (fact_Open.l0 k ([] : List (S40)) l1 (l1.length : Int) 0) else (some ([] : List (S40))))
theorem fact_Open.mono_l : ∀ k, (∀ y0 y1 y2 y3, LeO (fact_Open.l0 k y0 y1 y2 y3) (fact_Open.l0 (k + 1) y0 y1 y2 y3))
 | 0 => fun _ _ _ _ r h => by simp [fact_Open.l0] at h
 | k + 1 => by
  have ih0 := fact_Open.mono_l k
  ·intro y0 y1 y2 y3
   unfold fact_Open.l0
   repeat' first
   | (with_reducible exact ih0 _ _ _ _)
   | (with_reducible exact fact_Check.mono _ _ _)
   | (with_reducible exact LeO.refl _)
   | (with_reducible exact LeO.none _)
   | (with_reducible refine LeO.ite ?_ ?_)
   | (with_reducible refine LeO.bind ?_ (fun _ => ?_))
   | exact ih0 _ _ _ _
   | exact fact_Check.mono _ _ _
   | exact LeO.none _
   | refine LeO.ite ?_ ?_
   | refine LeO.bind ?_ (fun _ => ?_)
theorem fact_Open.mono : ∀ a0 a1 k, LeO (fact_Open.f k a0 a1) (fact_Open.f (k + 1) a0 a1) := by
 intro a0 a1 k
 have ih0 := fact_Open.mono_l k
 unfold fact_Open.f
 repeat' first
   | (with_reducible exact ih0 _ _ _ _)
   | (with_reducible exact fact_Check.mono _ _ _)
   | (with_reducible exact LeO.refl _)
   | (with_reducible exact LeO.none _)
   | (with_reducible refine LeO.ite ?_ ?_)
   | (with_reducible refine LeO.bind ?_ (fun _ => ?_))
   | exact ih0 _ _ _ _
   | exact fact_Check.mono _ _ _
   | exact LeO.none _
   | refine LeO.ite ?_ ?_
   | refine LeO.bind ?_ (fun _ => ?_)
set_option maxHeartbeats 8000000 in
set_option maxRecDepth 100000 in
theorem fact_Open.calls (k : Nat) (A0_0 : Option Addr) (c0_0 : Nat) (l0_0 : List (S44)) (A1 : Option Addr) (c1 : Nat) (l1 : List (S52)) (r : List (S40)) (w : World) (hr0_0 : Kd.C k44 w A0_0 l0_0.length l0_0) (hc0_0 : l0_0.length ≤ c0_0) (hr1 : Kd.C k52 w A1 l1.length l1) (hc1 : l1.length ≤ c1) (h : fact_Open.f k l0_0 l1 = some r) :
  Calls Try.prog 9 #[.agg #[.slice A0_0 l0_0.length c0_0], .slice A1 l1.length c1] w fun e w' => ∃ v0_ : Value, e = .returned (v0_) ∧ Kd.R k40 40 w' w.heap.size (fun _ => True) v0_ r ∧ Below w.heap.size w w' := by
 have hu24 := Try.underlying24
 have hu52 := Try.underlying52
 have hu40 := Try.underlying40
 have HR0_0 := Aside0.mk hr0_0
 have HC0_0 := Aside0.mk hc0_0
 clear hr0_0 hc0_0
 have HR1 := Aside0.mk hr1
 have HC1 := Aside0.mk hc1
 clear hr1 hc1
 have HB := Aside0.mk (Below.refl w.heap.size w)
 have H : ((fact_Check.f k l0_0 l1).bind fun t145 => (if t145 = 0 then (fact_Open.l0 k ([] : List (S40)) l1 (l1.length : Int) 0) else (some ([] : List (S40))))) = some r := h
 clear h
 replace H := Option.bind_eq_some_iff.mp H
 obtain ⟨t145, A30, H⟩ := H
 replace H : (if t145 = 0 then (fact_Open.l0 k ([] : List (S40)) l1 (l1.length : Int) 0) else (some ([] : List (S40)))) = some r := H
 have A3 := Aside0.mk A30
 clear A30
 by_cases c4 : t145 = 0
 ·rw [if_pos c4] at H
  have c4b0 : (t145 == 0) = true := beq_iff_eq.mpr c4
  have c4b1 : (t145 != 0) = false := bne_eq_false_iff_eq.mpr c4
  clear c4
  have H' := Aside0.mk H
  clear H
  go_enter Try.func9, Try.ntmps9
  go_wp2_with (first | ((with_reducible refine gate_dst (N := 2) rfl ?_); refine box_event ?hg (N := 2) ?hd (cs := #[.slice A0_0 l0_0.length c0_0]) (t := 24) ?hr ?_; (case hd => rfl); (case hg => rfl); (case hr => first | (go_simp; done) | (go_simp; rfl)); intro gb144 hg w5 hbox hb; have n0_ := Aside0.mk (below_step (by repeat (first | (with_reducible first | exact HB.out | apply below_alloc | apply pw_below_drewN | apply below_drew1) | exact HB.out)) hb); have n1_ := Aside0.mk (hbox); have n2_ := Aside0.mk ((by rw [hg]; exact (below_size (by repeat (first | (with_reducible first | exact HB.out | apply below_alloc | apply pw_below_drewN | apply below_drew1) | exact HB.out))) : w.heap.size ≤ gb144)); have n3_ := Aside0.mk ((by rw [hg]; exact (below_size (by repeat (first | (with_reducible first | exact HB.out | apply below_alloc | apply pw_below_drewN | apply below_drew1) | exact HB.out))) : w.heap.size ≤ gb144)); clear HB; have HB := n0_; have BK144 := n1_; have GW144 := n2_; have GE144 := n3_; clear n0_ n1_ n2_ n3_; clear hb hbox hg; have hcz6_0 : w5.cell? ⟨gb144, 0, none⟩ = some (.slice A0_0 l0_0.length c0_0) := (blk_cell BK144.out 0).trans rfl; have hfz6_0 := blk_frozen BK144.out 0) | ((with_reducible refine gate_callee (f := 14) rfl ?_); refine goesL_ (some 10) rfl rfl Try.func14 (by kernel_rfl) rfl #[.agg #[.slice A0_0 l0_0.length c0_0], .slice A1 l1.length c1] rfl (by (try simp only [List.map_toArray, List.map_cons, List.map_nil]); first | done | rfl | (simp only [List.length_drop, List.length_take]; rfl)) ?_; (with_reducible refine (fact_Check.calls k _ _ l0_0 _ _ l1 t145 _ ?side1 ?side2 ?side3 ?side4 A3.out).mono ?_); (case side1 => repeat (first | exact (Kd.C_below HR0_0.out HB.out) | (with_reducible refine Kd.C_alloc ?_ _) | (with_reducible refine Kd.C_drewN ?_ _) | (with_reducible refine Kd.C_drew ?_))); (case side2 => exact HC0_0.out); (case side3 => repeat (first | exact (Kd.C_below HR1.out HB.out) | (with_reducible refine Kd.C_alloc ?_ _) | (with_reducible refine Kd.C_drewN ?_ _) | (with_reducible refine Kd.C_drew ?_))); (case side4 => exact HC1.out); rintro e w7 ⟨rfl, hb⟩; refine ⟨_, rfl, ?_⟩; have n0_ := Aside0.mk (blk_below (g := gb144) (o := .cells #[.slice A0_0 l0_0.length c0_0] 24 (0, 0)) (by (with_reducible repeat (first | refine blk_drewN ?_ _ | refine blk_drew ?_ | refine blk_alloc ?_ _)); exact BK144.out) hb); have n1_ := Aside0.mk (below_step (by repeat (first | (with_reducible first | exact HB.out | apply below_alloc | apply pw_below_drewN | apply below_drew1 | refine below_set ?_ GE144.out) | exact HB.out)) hb); clear BK144; clear HB; have BK144 := n0_; have HB := n1_; clear n0_ n1_; (try clear hb); (try clear hb2); (try clear hk); (try clear hi)))
  go_loopg [5, 14] k (fun kq v5 v14 w' => ∃ (x5_1 : List (S40)) (x14_1 : Int), v14 = .int .i64 x14_1 ∧ Aside0 (fact_Open.l0 kq x5_1 l1 (l1.length : Int) x14_1 = some r) ∧ Aside0 (kq ≤ k) ∧ Aside0 (Kd.R k40 40 w' w.heap.size (fun _ => True) v5 x5_1) ∧ Aside0 (w'.heap[gb144]? = some (.cells #[(.slice A0_0 l0_0.length c0_0)] 24 (0, 0))) ∧ Aside0 (Below w.heap.size w w'))
  case atStart => exact ⟨(([] : List (S40))), (0), (by first | rfl | (simp; done) | (simp [*]; done)), H', ⟨Nat.le_refl _⟩, ⟨by first | exact Kd.R_nil _ _ _ _ _ | exact Kd.N_nil _ _ _ _ _ | exact Kd.V_nil _ _ _ _ _ | exact Kd.Q_nil _ _ _ _ _ | exact Kd.S_nil _ _ _ _ _⟩, ⟨by (with_reducible repeat (first | refine blk_drewN ?_ _ | refine blk_drew ?_ | refine blk_alloc ?_ _)); exact BK144.out⟩, ⟨by repeat (first | (with_reducible first | exact HB.out | apply below_alloc | apply pw_below_drewN | apply below_drew1 | refine below_set ?_ GE144.out) | exact HB.out)⟩⟩
  case round =>
   clear H'
   try clear c1
   try clear p2
   try clear c4
   try clear c4b0
   try clear c4b1
   try clear hcz6_0
   try clear hfz6_0
   obtain ⟨x5_1, x14_1, rfl, HA, HK1, HO_5, BK144, HB⟩ := hrel
   cases gk with
   | zero => exact absurd HA.out (by simp [fact_Open.l0])
   | succ k1 =>
    have H := HA.out
    clear HA
    simp only [fact_Open.l0] at H
    by_cases c8 : x14_1 < (l1.length : Int)
    ·rw [if_pos c8] at H
     have c8b0 : decide (x14_1 < (l1.length : Int)) = true := decide_eq_true c8
     clear c8
     by_cases c9 : 0 ≤ x14_1
     ·rw [if_pos c9] at H
      have c9b0 : decide (0 ≤ x14_1) = true := decide_eq_true c9
      clear c9
      by_cases c10 : x14_1 < (l1.length : Int)
      ·rw [if_pos c10] at H
       have c10b0 : decide (x14_1 < (l1.length : Int)) = true := decide_eq_true c10
       clear c10
       by_cases c11 : ((rd_T52 l1 x14_1).f0) = 1
       ·rw [if_pos c11] at H
        have c11b0 : (((rd_T52 l1 x14_1).f0) == 1) = true := beq_iff_eq.mpr c11
        have c11b1 : (((rd_T52 l1 x14_1).f0) != 1) = false := bne_eq_false_iff_eq.mpr c11
        clear c11
        by_cases c12 : x5_1.length < 5864062014805
        ·rw [if_pos c12] at H
         have LMc12 := Aside0.mk c12
         clear c12
         obtain ⟨y148, hy148⟩ : ∃ y_ : List (S40), y_ = (x5_1 ++ [(⟨x14_1, false, 0⟩ : S40)]) := ⟨_, rfl⟩
         replace H : (fact_Open.l0 k1 y148 l1 (l1.length : Int) (wrap64 (x14_1 + 1))) = some r := by first | (rw [hy148]; with_reducible exact H) | (have H2_ := (Option.bind_some _ _).symm.trans H; rw [hy148]; with_reducible exact H2_) | (have H2_ := (Option.bind_some _ _).symm.trans H; with_reducible exact H2_) | with_reducible exact H | (rw [hy148]; exact H) | exact H
         have Ny148 := Aside0.mk hy148
         clear hy148
         have H' := Aside0.mk H
         clear H
         have p146 : 0 ≤ (x14_1 : Int) := of_decide_eq_true (by first | (with_reducible assumption) | assumption)
         have q146 : x14_1 < (l1.length : Int) := of_decide_eq_true (by first | (with_reducible assumption) | assumption)
         obtain ⟨ad146, e146, hx146_0, hx146_1, hx146_2, hx146_3⟩ := at_T52 HR1.out x14_1 p146 q146
         cases e146
         replace hx146_0 := (HB.out.cell (World.block_lt_of_cell? w _ hx146_0)).trans hx146_0
         replace hx146_1 := (HB.out.cell (World.block_lt_of_cell? w _ hx146_1)).trans hx146_1
         replace hx146_2 := (HB.out.cell (World.block_lt_of_cell? w _ hx146_2)).trans hx146_2
         replace hx146_3 := (HB.out.cell (World.block_lt_of_cell? w _ hx146_3)).trans hx146_3
         replace p146 := eq_true p146
         replace q146 := eq_true q146
         go_wp2_with (first | ((with_reducible refine gate_dst (N := 7) rfl ?_); refine box_event ?hg (N := 7) ?hd (cs := #[.int .i64 0, .int .i64 0, .int .i64 0, .bool false]) (t := 52) ?hr ?_; (case hd => rfl); (case hg => rfl); (case hr => first | (go_simp; done) | (go_simp; rfl)); intro gb147 hg w13 hbox hb; have n0_ := Aside0.mk (Kd.R_below (by (with_reducible repeat (first | apply Kd.R_alloc | apply Kd.R_drewN | apply Kd.R_drew)); exact HO_5.out) hb); have n1_ := Aside0.mk (blk_below (g := gb144) (o := .cells #[.slice A0_0 l0_0.length c0_0] 24 (0, 0)) (by (with_reducible repeat (first | refine blk_drewN ?_ _ | refine blk_drew ?_ | refine blk_alloc ?_ _)); exact BK144.out) hb); have n2_ := Aside0.mk (below_step (by repeat (first | (with_reducible first | exact HB.out | apply below_alloc | apply pw_below_drewN | apply below_drew1 | refine below_set ?_ GE144.out) | exact HB.out)) hb); have n3_ := Aside0.mk (hbox); have n4_ := Aside0.mk ((by rw [hg]; exact (below_size (by repeat (first | (with_reducible first | exact HB.out | apply below_alloc | apply pw_below_drewN | apply below_drew1 | refine below_set ?_ GE144.out) | exact HB.out))) : w.heap.size ≤ gb147)); have n5_ := Aside0.mk ((by rw [hg]; exact (below_size (by repeat (first | (with_reducible first | exact HB.out | apply below_alloc | apply pw_below_drewN | apply below_drew1 | refine below_set ?_ GE144.out) | exact HB.out))) : w.heap.size ≤ gb147)); have n6_ := Aside0.mk ((by rw [hg]; exact Nat.ne_of_lt (blk_lt (g := gb144) (o := .cells #[.slice A0_0 l0_0.length c0_0] 24 (0, 0)) (by (with_reducible repeat (first | refine blk_drewN ?_ _ | refine blk_drew ?_ | refine blk_alloc ?_ _)); exact BK144.out)) : gb144 ≠ gb147)); have n7_ := Aside0.mk ((by rw [hg]; exact Nat.ne_of_gt (blk_lt (g := gb144) (o := .cells #[.slice A0_0 l0_0.length c0_0] 24 (0, 0)) (by (with_reducible repeat (first | refine blk_drewN ?_ _ | refine blk_drew ?_ | refine blk_alloc ?_ _)); exact BK144.out)) : gb147 ≠ gb144)); clear HO_5; clear BK144; clear HB; have HO_5 := n0_; have BK144 := n1_; have HB := n2_; have BK147 := n3_; have GW147 := n4_; have GE147 := n5_; have NB144_147 := n6_; have NB147_144 := n7_; clear n0_ n1_ n2_ n3_ n4_ n5_ n6_ n7_; clear hb hbox hg; have hnb14 := NB147_144.out; have hnc14 := NB144_147.out; have hcz15_0 : w13.cell? ⟨gb147, 0, none⟩ = some (.int .i64 0) := (blk_cell BK147.out 0).trans rfl; have hcz15_1 : w13.cell? ⟨gb147, 1, none⟩ = some (.int .i64 0) := (blk_cell BK147.out 1).trans rfl; have hcz15_2 : w13.cell? ⟨gb147, 2, none⟩ = some (.int .i64 0) := (blk_cell BK147.out 2).trans rfl; have hcz15_3 : w13.cell? ⟨gb147, 3, none⟩ = some (.bool false) := (blk_cell BK147.out 3).trans rfl; have hfz15_0 := blk_frozen BK147.out 0; have hfz15_1 := blk_frozen BK147.out 1; have hfz15_2 := blk_frozen BK147.out 2; have hfz15_3 := blk_frozen BK147.out 3) | ((with_reducible refine gate_builtin (b := .append) (xs := #[.tmp 23, .tmp 26]) rfl ?_); at_builtin; refine Kd.R_append k40 (w0 := w) w.heap.size rfl (.tmp 23) (.tmp 26) 37 40 (.agg #[(.int .i64 0), (.bool false), (.int .i64 0)]) 24 rfl Try.underlying37 info40 rfl (by decide) (by omega) u5 x5_1 (⟨x14_1, false, 0⟩ : S40) [.int .i64 x14_1, .bool false, .int .i64 0] (fun _ => True) (fun _ => False) rfl (by first | (go_simp; done) | (go_simp; rfl)) ?aP (fun _ hk => hk.elim) ?aF ?aO ?aB ?aS ?aL ?_; (case aP => exact k40_mkM _ _ _ (⟨x14_1, false, 0⟩ : S40)); (case aB => exact (by repeat (first | (with_reducible first | exact HB.out | apply below_alloc | apply pw_below_drewN | apply below_drew1 | refine below_set ?_ GE144.out | refine below_set ?_ GE147.out) | exact HB.out))); (case aF => exact (fun _ _ => trivial)); (case aO => exact (by (with_reducible repeat (first | apply Kd.R_alloc | apply Kd.R_drewN | apply Kd.R_drew)); exact Kd.R_mono (Kd.R_far (p := ⟨gb147, 3, none⟩) (Kd.R_far (p := ⟨gb147, 2, none⟩) (Kd.R_far (p := ⟨gb147, 1, none⟩) (Kd.R_far (p := ⟨gb147, 0, none⟩) (Kd.R_types HO_5.out BK147.out (by decide)) (fun _ hk => hk.2) (.int .i64 ((rd_T52 l1 x14_1).f0))) (fun _ hk => hk.2) (.int .i64 ((rd_T52 l1 x14_1).f1))) (fun _ hk => hk.2) (.int .i64 ((rd_T52 l1 x14_1).f2))) (fun _ hk => hk.2) (.bool ((rd_T52 l1 x14_1).f3))) (fun _ hk => trivial))); (case aS => exact (below_size (by repeat (first | (with_reducible first | exact HB.out | apply below_alloc | apply pw_below_drewN | apply below_drew1 | refine below_set ?_ GE144.out | refine below_set ?_ GE147.out) | exact HB.out)))); (case aL => have := LMc12.out; omega); intro v149 w16 ho hb hg hat; rw [← Ny148.out] at ho; have n0_ := Aside0.mk (blk_grown (g := gb144) (o := .cells #[.slice A0_0 l0_0.length c0_0] 24 (0, 0)) (by (with_reducible repeat (first | refine blk_drewN ?_ _ | refine blk_drew ?_ | refine blk_alloc ?_ _)); refine blk_far ?_ NB144_147.out _; (with_reducible repeat (first | refine blk_drewN ?_ _ | refine blk_drew ?_ | refine blk_alloc ?_ _)); refine blk_far ?_ NB144_147.out _; (with_reducible repeat (first | refine blk_drewN ?_ _ | refine blk_drew ?_ | refine blk_alloc ?_ _)); refine blk_far ?_ NB144_147.out _; (with_reducible repeat (first | refine blk_drewN ?_ _ | refine blk_drew ?_ | refine blk_alloc ?_ _)); refine blk_far ?_ NB144_147.out _; (with_reducible repeat (first | refine blk_drewN ?_ _ | refine blk_drew ?_ | refine blk_alloc ?_ _)); exact BK144.out) hg (Kd.R_ne HO_5.out BK144.out (by decide))); have n1_ := Aside0.mk (blk_grown (g := gb147) (o := .cells #[.int .i64 ((rd_T52 l1 x14_1).f0), .int .i64 ((rd_T52 l1 x14_1).f1), .int .i64 ((rd_T52 l1 x14_1).f2), .bool ((rd_T52 l1 x14_1).f3)] 52 (0, 0)) (by (with_reducible repeat (first | refine blk_drewN ?_ _ | refine blk_drew ?_ | refine blk_alloc ?_ _)); refine blk_put (cs := #[.int .i64 ((rd_T52 l1 x14_1).f0), .int .i64 ((rd_T52 l1 x14_1).f1), .int .i64 ((rd_T52 l1 x14_1).f2), .bool false]) ?_ 3 _ rfl; (with_reducible repeat (first | refine blk_drewN ?_ _ | refine blk_drew ?_ | refine blk_alloc ?_ _)); refine blk_put (cs := #[.int .i64 ((rd_T52 l1 x14_1).f0), .int .i64 ((rd_T52 l1 x14_1).f1), .int .i64 0, .bool false]) ?_ 2 _ rfl; (with_reducible repeat (first | refine blk_drewN ?_ _ | refine blk_drew ?_ | refine blk_alloc ?_ _)); refine blk_put (cs := #[.int .i64 ((rd_T52 l1 x14_1).f0), .int .i64 0, .int .i64 0, .bool false]) ?_ 1 _ rfl; (with_reducible repeat (first | refine blk_drewN ?_ _ | refine blk_drew ?_ | refine blk_alloc ?_ _)); refine blk_put (cs := #[.int .i64 0, .int .i64 0, .int .i64 0, .bool false]) ?_ 0 _ rfl; (with_reducible repeat (first | refine blk_drewN ?_ _ | refine blk_drew ?_ | refine blk_alloc ?_ _)); exact BK147.out) hg (Kd.R_ne HO_5.out BK147.out (by decide))); have n2_ := Aside0.mk (hb); have n3_ := Aside0.mk (ho); clear BK144; clear BK147; clear HB; clear HO_5; have BK144 := n0_; have BK147 := n1_; have HB := n2_; have HO150 := n3_; clear n0_ n1_ n2_ n3_; clear ho hb hg hat))
         go_roundg k1
         case measure => have := HK1.out; omega
         case rel => exact ⟨(y148), (wrap64 (x14_1 + 1)), (by first | rfl | (simp; done) | (simp [*]; done)), H', ⟨by have := HK1.out; omega⟩, ⟨by (with_reducible repeat (first | apply Kd.R_alloc | apply Kd.R_drewN | apply Kd.R_drew)); exact HO150.out⟩, ⟨by (with_reducible repeat (first | refine blk_drewN ?_ _ | refine blk_drew ?_ | refine blk_alloc ?_ _)); exact BK144.out⟩, ⟨by repeat (first | (with_reducible first | exact HB.out | apply below_alloc | apply pw_below_drewN | apply below_drew1 | refine below_set ?_ GE144.out | refine below_set ?_ GE147.out) | exact HB.out)⟩⟩
        ·rw [if_neg c12] at H
         exact absurd H (by simp)
       ·rw [if_neg c11] at H
        have c11b0 : (((rd_T52 l1 x14_1).f0) == 1) = false := beq_eq_false_iff_ne.mpr c11
        have c11b1 : (((rd_T52 l1 x14_1).f0) != 1) = true := bne_iff_ne.mpr c11
        by_cases c17 : ((rd_T52 l1 x14_1).f1) > ((rd_T52 l1 x14_1).f2)
        ·rw [if_pos c17] at H
         have c17b0 : decide (((rd_T52 l1 x14_1).f2) < ((rd_T52 l1 x14_1).f1)) = true := decide_eq_true c17
         clear c17
         obtain ⟨bq18, hbq18⟩ : ∃ b_ : Bool, b_ = ((rd_T52 l1 x14_1).f3) := ⟨_, rfl⟩
         replace H : (if (bq18 = true) then (fact_Open.l0 k1 x5_1 l1 (l1.length : Int) (wrap64 (x14_1 + 1))) else (if x5_1.length < 5864062014805 then (fact_Open.l0 k1 (x5_1 ++ [(⟨x14_1, true, (rd_T52 l1 x14_1).f2⟩ : S40)]) l1 (l1.length : Int) (wrap64 (x14_1 + 1))) else (none))) = some r := by rw [← hbq18] at H; exact H
         have Nbq18 := Aside0.mk hbq18
         clear hbq18
         by_cases c19 : (bq18 = true)
         ·subst c19
          have H1 : (fact_Open.l0 k1 x5_1 l1 (l1.length : Int) (wrap64 (x14_1 + 1))) = some r := by rw [if_pos rfl] at H; exact H
          clear H
          have H := H1
          clear H1
          have H' := Aside0.mk H
          clear H
          have p146 : 0 ≤ (x14_1 : Int) := of_decide_eq_true (by first | (with_reducible assumption) | assumption)
          have q146 : x14_1 < (l1.length : Int) := of_decide_eq_true (by first | (with_reducible assumption) | assumption)
          obtain ⟨ad146, e146, hx146_0, hx146_1, hx146_2, hx146_3⟩ := at_T52 HR1.out x14_1 p146 q146
          (try rw [← Nbq18.out] at hx146_3)
          cases e146
          replace hx146_0 := (HB.out.cell (World.block_lt_of_cell? w _ hx146_0)).trans hx146_0
          replace hx146_1 := (HB.out.cell (World.block_lt_of_cell? w _ hx146_1)).trans hx146_1
          replace hx146_2 := (HB.out.cell (World.block_lt_of_cell? w _ hx146_2)).trans hx146_2
          replace hx146_3 := (HB.out.cell (World.block_lt_of_cell? w _ hx146_3)).trans hx146_3
          replace p146 := eq_true p146
          replace q146 := eq_true q146
          go_wp2_with (first | ((with_reducible refine gate_dst (N := 7) rfl ?_); refine box_event ?hg (N := 7) ?hd (cs := #[.int .i64 0, .int .i64 0, .int .i64 0, .bool false]) (t := 52) ?hr ?_; (case hd => rfl); (case hg => rfl); (case hr => first | (go_simp; done) | (go_simp; rfl)); intro gb147 hg w20 hbox hb; have n0_ := Aside0.mk (Kd.R_below (by (with_reducible repeat (first | apply Kd.R_alloc | apply Kd.R_drewN | apply Kd.R_drew)); exact HO_5.out) hb); have n1_ := Aside0.mk (blk_below (g := gb144) (o := .cells #[.slice A0_0 l0_0.length c0_0] 24 (0, 0)) (by (with_reducible repeat (first | refine blk_drewN ?_ _ | refine blk_drew ?_ | refine blk_alloc ?_ _)); exact BK144.out) hb); have n2_ := Aside0.mk (below_step (by repeat (first | (with_reducible first | exact HB.out | apply below_alloc | apply pw_below_drewN | apply below_drew1 | refine below_set ?_ GE144.out) | exact HB.out)) hb); have n3_ := Aside0.mk (hbox); have n4_ := Aside0.mk ((by rw [hg]; exact (below_size (by repeat (first | (with_reducible first | exact HB.out | apply below_alloc | apply pw_below_drewN | apply below_drew1 | refine below_set ?_ GE144.out) | exact HB.out))) : w.heap.size ≤ gb147)); have n5_ := Aside0.mk ((by rw [hg]; exact (below_size (by repeat (first | (with_reducible first | exact HB.out | apply below_alloc | apply pw_below_drewN | apply below_drew1 | refine below_set ?_ GE144.out) | exact HB.out))) : w.heap.size ≤ gb147)); have n6_ := Aside0.mk ((by rw [hg]; exact Nat.ne_of_lt (blk_lt (g := gb144) (o := .cells #[.slice A0_0 l0_0.length c0_0] 24 (0, 0)) (by (with_reducible repeat (first | refine blk_drewN ?_ _ | refine blk_drew ?_ | refine blk_alloc ?_ _)); exact BK144.out)) : gb144 ≠ gb147)); have n7_ := Aside0.mk ((by rw [hg]; exact Nat.ne_of_gt (blk_lt (g := gb144) (o := .cells #[.slice A0_0 l0_0.length c0_0] 24 (0, 0)) (by (with_reducible repeat (first | refine blk_drewN ?_ _ | refine blk_drew ?_ | refine blk_alloc ?_ _)); exact BK144.out)) : gb147 ≠ gb144)); clear HO_5; clear BK144; clear HB; have HO_5 := n0_; have BK144 := n1_; have HB := n2_; have BK147 := n3_; have GW147 := n4_; have GE147 := n5_; have NB144_147 := n6_; have NB147_144 := n7_; clear n0_ n1_ n2_ n3_ n4_ n5_ n6_ n7_; clear hb hbox hg; have hnb21 := NB147_144.out; have hnc21 := NB144_147.out; have hcz22_0 : w20.cell? ⟨gb147, 0, none⟩ = some (.int .i64 0) := (blk_cell BK147.out 0).trans rfl; have hcz22_1 : w20.cell? ⟨gb147, 1, none⟩ = some (.int .i64 0) := (blk_cell BK147.out 1).trans rfl; have hcz22_2 : w20.cell? ⟨gb147, 2, none⟩ = some (.int .i64 0) := (blk_cell BK147.out 2).trans rfl; have hcz22_3 : w20.cell? ⟨gb147, 3, none⟩ = some (.bool false) := (blk_cell BK147.out 3).trans rfl; have hfz22_0 := blk_frozen BK147.out 0; have hfz22_1 := blk_frozen BK147.out 1; have hfz22_2 := blk_frozen BK147.out 2; have hfz22_3 := blk_frozen BK147.out 3))
          go_roundg k1
          case measure => have := HK1.out; omega
          case rel => exact ⟨(x5_1), (wrap64 (x14_1 + 1)), (by first | rfl | (simp; done) | (simp [*]; done)), H', ⟨by have := HK1.out; omega⟩, ⟨by (with_reducible repeat (first | apply Kd.R_alloc | apply Kd.R_drewN | apply Kd.R_drew)); exact Kd.R_mono (Kd.R_far (p := ⟨gb147, 3, none⟩) (Kd.R_far (p := ⟨gb147, 2, none⟩) (Kd.R_far (p := ⟨gb147, 1, none⟩) (Kd.R_far (p := ⟨gb147, 0, none⟩) (Kd.R_types HO_5.out BK147.out (by decide)) (fun _ hk => hk.2) (.int .i64 ((rd_T52 l1 x14_1).f0))) (fun _ hk => hk.2) (.int .i64 ((rd_T52 l1 x14_1).f1))) (fun _ hk => hk.2) (.int .i64 ((rd_T52 l1 x14_1).f2))) (fun _ hk => hk.2) (.bool true)) (fun _ hk => trivial)⟩, ⟨by (with_reducible repeat (first | refine blk_drewN ?_ _ | refine blk_drew ?_ | refine blk_alloc ?_ _)); refine blk_far ?_ NB144_147.out _; (with_reducible repeat (first | refine blk_drewN ?_ _ | refine blk_drew ?_ | refine blk_alloc ?_ _)); refine blk_far ?_ NB144_147.out _; (with_reducible repeat (first | refine blk_drewN ?_ _ | refine blk_drew ?_ | refine blk_alloc ?_ _)); refine blk_far ?_ NB144_147.out _; (with_reducible repeat (first | refine blk_drewN ?_ _ | refine blk_drew ?_ | refine blk_alloc ?_ _)); refine blk_far ?_ NB144_147.out _; (with_reducible repeat (first | refine blk_drewN ?_ _ | refine blk_drew ?_ | refine blk_alloc ?_ _)); exact BK144.out⟩, ⟨by repeat (first | (with_reducible first | exact HB.out | apply below_alloc | apply pw_below_drewN | apply below_drew1 | refine below_set ?_ GE144.out | refine below_set ?_ GE147.out) | exact HB.out)⟩⟩
         ·replace c19 := Bool.eq_false_iff.mpr c19
          subst c19
          have H1 : (if x5_1.length < 5864062014805 then (fact_Open.l0 k1 (x5_1 ++ [(⟨x14_1, true, (rd_T52 l1 x14_1).f2⟩ : S40)]) l1 (l1.length : Int) (wrap64 (x14_1 + 1))) else (none)) = some r := by rw [if_neg (show ¬ (false = true) by decide)] at H; exact H
          clear H
          have H := H1
          clear H1
          by_cases c23 : x5_1.length < 5864062014805
          ·rw [if_pos c23] at H
           have LMc23 := Aside0.mk c23
           clear c23
           obtain ⟨y151, hy151⟩ : ∃ y_ : List (S40), y_ = (x5_1 ++ [(⟨x14_1, true, (rd_T52 l1 x14_1).f2⟩ : S40)]) := ⟨_, rfl⟩
           replace H : (fact_Open.l0 k1 y151 l1 (l1.length : Int) (wrap64 (x14_1 + 1))) = some r := by first | (rw [hy151]; with_reducible exact H) | (have H2_ := (Option.bind_some _ _).symm.trans H; rw [hy151]; with_reducible exact H2_) | (have H2_ := (Option.bind_some _ _).symm.trans H; with_reducible exact H2_) | with_reducible exact H | (rw [hy151]; exact H) | exact H
           have Ny151 := Aside0.mk hy151
           clear hy151
           have H' := Aside0.mk H
           clear H
           have p146 : 0 ≤ (x14_1 : Int) := of_decide_eq_true (by first | (with_reducible assumption) | assumption)
           have q146 : x14_1 < (l1.length : Int) := of_decide_eq_true (by first | (with_reducible assumption) | assumption)
           obtain ⟨ad146, e146, hx146_0, hx146_1, hx146_2, hx146_3⟩ := at_T52 HR1.out x14_1 p146 q146
           (try rw [← Nbq18.out] at hx146_3)
           cases e146
           replace hx146_0 := (HB.out.cell (World.block_lt_of_cell? w _ hx146_0)).trans hx146_0
           replace hx146_1 := (HB.out.cell (World.block_lt_of_cell? w _ hx146_1)).trans hx146_1
           replace hx146_2 := (HB.out.cell (World.block_lt_of_cell? w _ hx146_2)).trans hx146_2
           replace hx146_3 := (HB.out.cell (World.block_lt_of_cell? w _ hx146_3)).trans hx146_3
           replace p146 := eq_true p146
           replace q146 := eq_true q146
           go_wp2_with (first | ((with_reducible refine gate_dst (N := 7) rfl ?_); refine box_event ?hg (N := 7) ?hd (cs := #[.int .i64 0, .int .i64 0, .int .i64 0, .bool false]) (t := 52) ?hr ?_; (case hd => rfl); (case hg => rfl); (case hr => first | (go_simp; done) | (go_simp; rfl)); intro gb147 hg w24 hbox hb; have n0_ := Aside0.mk (Kd.R_below (by (with_reducible repeat (first | apply Kd.R_alloc | apply Kd.R_drewN | apply Kd.R_drew)); exact HO_5.out) hb); have n1_ := Aside0.mk (blk_below (g := gb144) (o := .cells #[.slice A0_0 l0_0.length c0_0] 24 (0, 0)) (by (with_reducible repeat (first | refine blk_drewN ?_ _ | refine blk_drew ?_ | refine blk_alloc ?_ _)); exact BK144.out) hb); have n2_ := Aside0.mk (below_step (by repeat (first | (with_reducible first | exact HB.out | apply below_alloc | apply pw_below_drewN | apply below_drew1 | refine below_set ?_ GE144.out) | exact HB.out)) hb); have n3_ := Aside0.mk (hbox); have n4_ := Aside0.mk ((by rw [hg]; exact (below_size (by repeat (first | (with_reducible first | exact HB.out | apply below_alloc | apply pw_below_drewN | apply below_drew1 | refine below_set ?_ GE144.out) | exact HB.out))) : w.heap.size ≤ gb147)); have n5_ := Aside0.mk ((by rw [hg]; exact (below_size (by repeat (first | (with_reducible first | exact HB.out | apply below_alloc | apply pw_below_drewN | apply below_drew1 | refine below_set ?_ GE144.out) | exact HB.out))) : w.heap.size ≤ gb147)); have n6_ := Aside0.mk ((by rw [hg]; exact Nat.ne_of_lt (blk_lt (g := gb144) (o := .cells #[.slice A0_0 l0_0.length c0_0] 24 (0, 0)) (by (with_reducible repeat (first | refine blk_drewN ?_ _ | refine blk_drew ?_ | refine blk_alloc ?_ _)); exact BK144.out)) : gb144 ≠ gb147)); have n7_ := Aside0.mk ((by rw [hg]; exact Nat.ne_of_gt (blk_lt (g := gb144) (o := .cells #[.slice A0_0 l0_0.length c0_0] 24 (0, 0)) (by (with_reducible repeat (first | refine blk_drewN ?_ _ | refine blk_drew ?_ | refine blk_alloc ?_ _)); exact BK144.out)) : gb147 ≠ gb144)); clear HO_5; clear BK144; clear HB; have HO_5 := n0_; have BK144 := n1_; have HB := n2_; have BK147 := n3_; have GW147 := n4_; have GE147 := n5_; have NB144_147 := n6_; have NB147_144 := n7_; clear n0_ n1_ n2_ n3_ n4_ n5_ n6_ n7_; clear hb hbox hg; have hnb25 := NB147_144.out; have hnc25 := NB144_147.out; have hcz26_0 : w24.cell? ⟨gb147, 0, none⟩ = some (.int .i64 0) := (blk_cell BK147.out 0).trans rfl; have hcz26_1 : w24.cell? ⟨gb147, 1, none⟩ = some (.int .i64 0) := (blk_cell BK147.out 1).trans rfl; have hcz26_2 : w24.cell? ⟨gb147, 2, none⟩ = some (.int .i64 0) := (blk_cell BK147.out 2).trans rfl; have hcz26_3 : w24.cell? ⟨gb147, 3, none⟩ = some (.bool false) := (blk_cell BK147.out 3).trans rfl; have hfz26_0 := blk_frozen BK147.out 0; have hfz26_1 := blk_frozen BK147.out 1; have hfz26_2 := blk_frozen BK147.out 2; have hfz26_3 := blk_frozen BK147.out 3) | ((with_reducible refine gate_builtin (b := .append) (xs := #[.tmp 39, .tmp 44]) rfl ?_); at_builtin; refine Kd.R_append k40 (w0 := w) w.heap.size rfl (.tmp 39) (.tmp 44) 37 40 (.agg #[(.int .i64 0), (.bool false), (.int .i64 0)]) 24 rfl Try.underlying37 info40 rfl (by decide) (by omega) u5 x5_1 (⟨x14_1, true, (rd_T52 l1 x14_1).f2⟩ : S40) [.int .i64 x14_1, .bool true, .int .i64 ((rd_T52 l1 x14_1).f2)] (fun _ => True) (fun _ => False) rfl (by first | (go_simp; done) | (go_simp; rfl)) ?aP (fun _ hk => hk.elim) ?aF ?aO ?aB ?aS ?aL ?_; (case aP => exact k40_mkM _ _ _ (⟨x14_1, true, (rd_T52 l1 x14_1).f2⟩ : S40)); (case aB => exact (by repeat (first | (with_reducible first | exact HB.out | apply below_alloc | apply pw_below_drewN | apply below_drew1 | refine below_set ?_ GE144.out | refine below_set ?_ GE147.out) | exact HB.out))); (case aF => exact (fun _ _ => trivial)); (case aO => exact (by (with_reducible repeat (first | apply Kd.R_alloc | apply Kd.R_drewN | apply Kd.R_drew)); exact Kd.R_mono (Kd.R_far (p := ⟨gb147, 3, none⟩) (Kd.R_far (p := ⟨gb147, 2, none⟩) (Kd.R_far (p := ⟨gb147, 1, none⟩) (Kd.R_far (p := ⟨gb147, 0, none⟩) (Kd.R_types HO_5.out BK147.out (by decide)) (fun _ hk => hk.2) (.int .i64 ((rd_T52 l1 x14_1).f0))) (fun _ hk => hk.2) (.int .i64 ((rd_T52 l1 x14_1).f1))) (fun _ hk => hk.2) (.int .i64 ((rd_T52 l1 x14_1).f2))) (fun _ hk => hk.2) (.bool false)) (fun _ hk => trivial))); (case aS => exact (below_size (by repeat (first | (with_reducible first | exact HB.out | apply below_alloc | apply pw_below_drewN | apply below_drew1 | refine below_set ?_ GE144.out | refine below_set ?_ GE147.out) | exact HB.out)))); (case aL => have := LMc23.out; omega); intro v152 w27 ho hb hg hat; rw [← Ny151.out] at ho; have n0_ := Aside0.mk (blk_grown (g := gb144) (o := .cells #[.slice A0_0 l0_0.length c0_0] 24 (0, 0)) (by (with_reducible repeat (first | refine blk_drewN ?_ _ | refine blk_drew ?_ | refine blk_alloc ?_ _)); refine blk_far ?_ NB144_147.out _; (with_reducible repeat (first | refine blk_drewN ?_ _ | refine blk_drew ?_ | refine blk_alloc ?_ _)); refine blk_far ?_ NB144_147.out _; (with_reducible repeat (first | refine blk_drewN ?_ _ | refine blk_drew ?_ | refine blk_alloc ?_ _)); refine blk_far ?_ NB144_147.out _; (with_reducible repeat (first | refine blk_drewN ?_ _ | refine blk_drew ?_ | refine blk_alloc ?_ _)); refine blk_far ?_ NB144_147.out _; (with_reducible repeat (first | refine blk_drewN ?_ _ | refine blk_drew ?_ | refine blk_alloc ?_ _)); exact BK144.out) hg (Kd.R_ne HO_5.out BK144.out (by decide))); have n1_ := Aside0.mk (blk_grown (g := gb147) (o := .cells #[.int .i64 ((rd_T52 l1 x14_1).f0), .int .i64 ((rd_T52 l1 x14_1).f1), .int .i64 ((rd_T52 l1 x14_1).f2), .bool false] 52 (0, 0)) (by (with_reducible repeat (first | refine blk_drewN ?_ _ | refine blk_drew ?_ | refine blk_alloc ?_ _)); refine blk_put (cs := #[.int .i64 ((rd_T52 l1 x14_1).f0), .int .i64 ((rd_T52 l1 x14_1).f1), .int .i64 ((rd_T52 l1 x14_1).f2), .bool false]) ?_ 3 _ rfl; (with_reducible repeat (first | refine blk_drewN ?_ _ | refine blk_drew ?_ | refine blk_alloc ?_ _)); refine blk_put (cs := #[.int .i64 ((rd_T52 l1 x14_1).f0), .int .i64 ((rd_T52 l1 x14_1).f1), .int .i64 0, .bool false]) ?_ 2 _ rfl; (with_reducible repeat (first | refine blk_drewN ?_ _ | refine blk_drew ?_ | refine blk_alloc ?_ _)); refine blk_put (cs := #[.int .i64 ((rd_T52 l1 x14_1).f0), .int .i64 0, .int .i64 0, .bool false]) ?_ 1 _ rfl; (with_reducible repeat (first | refine blk_drewN ?_ _ | refine blk_drew ?_ | refine blk_alloc ?_ _)); refine blk_put (cs := #[.int .i64 0, .int .i64 0, .int .i64 0, .bool false]) ?_ 0 _ rfl; (with_reducible repeat (first | refine blk_drewN ?_ _ | refine blk_drew ?_ | refine blk_alloc ?_ _)); exact BK147.out) hg (Kd.R_ne HO_5.out BK147.out (by decide))); have n2_ := Aside0.mk (hb); have n3_ := Aside0.mk (ho); clear BK144; clear BK147; clear HB; clear HO_5; have BK144 := n0_; have BK147 := n1_; have HB := n2_; have HO153 := n3_; clear n0_ n1_ n2_ n3_; clear ho hb hg hat))
           go_roundg k1
           case measure => have := HK1.out; omega
           case rel => exact ⟨(y151), (wrap64 (x14_1 + 1)), (by first | rfl | (simp; done) | (simp [*]; done)), H', ⟨by have := HK1.out; omega⟩, ⟨by (with_reducible repeat (first | apply Kd.R_alloc | apply Kd.R_drewN | apply Kd.R_drew)); exact HO153.out⟩, ⟨by (with_reducible repeat (first | refine blk_drewN ?_ _ | refine blk_drew ?_ | refine blk_alloc ?_ _)); exact BK144.out⟩, ⟨by repeat (first | (with_reducible first | exact HB.out | apply below_alloc | apply pw_below_drewN | apply below_drew1 | refine below_set ?_ GE144.out | refine below_set ?_ GE147.out) | exact HB.out)⟩⟩
          ·rw [if_neg c23] at H
           exact absurd H (by simp)
        ·rw [if_neg c17] at H
         have c17b0 : decide (((rd_T52 l1 x14_1).f2) < ((rd_T52 l1 x14_1).f1)) = false := decide_eq_false c17
         clear c17
         have H' := Aside0.mk H
         clear H
         have p146 : 0 ≤ (x14_1 : Int) := of_decide_eq_true (by first | (with_reducible assumption) | assumption)
         have q146 : x14_1 < (l1.length : Int) := of_decide_eq_true (by first | (with_reducible assumption) | assumption)
         obtain ⟨ad146, e146, hx146_0, hx146_1, hx146_2, hx146_3⟩ := at_T52 HR1.out x14_1 p146 q146
         cases e146
         replace hx146_0 := (HB.out.cell (World.block_lt_of_cell? w _ hx146_0)).trans hx146_0
         replace hx146_1 := (HB.out.cell (World.block_lt_of_cell? w _ hx146_1)).trans hx146_1
         replace hx146_2 := (HB.out.cell (World.block_lt_of_cell? w _ hx146_2)).trans hx146_2
         replace hx146_3 := (HB.out.cell (World.block_lt_of_cell? w _ hx146_3)).trans hx146_3
         replace p146 := eq_true p146
         replace q146 := eq_true q146
         go_wp2_with (first | ((with_reducible refine gate_dst (N := 7) rfl ?_); refine box_event ?hg (N := 7) ?hd (cs := #[.int .i64 0, .int .i64 0, .int .i64 0, .bool false]) (t := 52) ?hr ?_; (case hd => rfl); (case hg => rfl); (case hr => first | (go_simp; done) | (go_simp; rfl)); intro gb147 hg w28 hbox hb; have n0_ := Aside0.mk (Kd.R_below (by (with_reducible repeat (first | apply Kd.R_alloc | apply Kd.R_drewN | apply Kd.R_drew)); exact HO_5.out) hb); have n1_ := Aside0.mk (blk_below (g := gb144) (o := .cells #[.slice A0_0 l0_0.length c0_0] 24 (0, 0)) (by (with_reducible repeat (first | refine blk_drewN ?_ _ | refine blk_drew ?_ | refine blk_alloc ?_ _)); exact BK144.out) hb); have n2_ := Aside0.mk (below_step (by repeat (first | (with_reducible first | exact HB.out | apply below_alloc | apply pw_below_drewN | apply below_drew1 | refine below_set ?_ GE144.out) | exact HB.out)) hb); have n3_ := Aside0.mk (hbox); have n4_ := Aside0.mk ((by rw [hg]; exact (below_size (by repeat (first | (with_reducible first | exact HB.out | apply below_alloc | apply pw_below_drewN | apply below_drew1 | refine below_set ?_ GE144.out) | exact HB.out))) : w.heap.size ≤ gb147)); have n5_ := Aside0.mk ((by rw [hg]; exact (below_size (by repeat (first | (with_reducible first | exact HB.out | apply below_alloc | apply pw_below_drewN | apply below_drew1 | refine below_set ?_ GE144.out) | exact HB.out))) : w.heap.size ≤ gb147)); have n6_ := Aside0.mk ((by rw [hg]; exact Nat.ne_of_lt (blk_lt (g := gb144) (o := .cells #[.slice A0_0 l0_0.length c0_0] 24 (0, 0)) (by (with_reducible repeat (first | refine blk_drewN ?_ _ | refine blk_drew ?_ | refine blk_alloc ?_ _)); exact BK144.out)) : gb144 ≠ gb147)); have n7_ := Aside0.mk ((by rw [hg]; exact Nat.ne_of_gt (blk_lt (g := gb144) (o := .cells #[.slice A0_0 l0_0.length c0_0] 24 (0, 0)) (by (with_reducible repeat (first | refine blk_drewN ?_ _ | refine blk_drew ?_ | refine blk_alloc ?_ _)); exact BK144.out)) : gb147 ≠ gb144)); clear HO_5; clear BK144; clear HB; have HO_5 := n0_; have BK144 := n1_; have HB := n2_; have BK147 := n3_; have GW147 := n4_; have GE147 := n5_; have NB144_147 := n6_; have NB147_144 := n7_; clear n0_ n1_ n2_ n3_ n4_ n5_ n6_ n7_; clear hb hbox hg; have hnb29 := NB147_144.out; have hnc29 := NB144_147.out; have hcz30_0 : w28.cell? ⟨gb147, 0, none⟩ = some (.int .i64 0) := (blk_cell BK147.out 0).trans rfl; have hcz30_1 : w28.cell? ⟨gb147, 1, none⟩ = some (.int .i64 0) := (blk_cell BK147.out 1).trans rfl; have hcz30_2 : w28.cell? ⟨gb147, 2, none⟩ = some (.int .i64 0) := (blk_cell BK147.out 2).trans rfl; have hcz30_3 : w28.cell? ⟨gb147, 3, none⟩ = some (.bool false) := (blk_cell BK147.out 3).trans rfl; have hfz30_0 := blk_frozen BK147.out 0; have hfz30_1 := blk_frozen BK147.out 1; have hfz30_2 := blk_frozen BK147.out 2; have hfz30_3 := blk_frozen BK147.out 3))
         go_roundg k1
         case measure => have := HK1.out; omega
         case rel => exact ⟨(x5_1), (wrap64 (x14_1 + 1)), (by first | rfl | (simp; done) | (simp [*]; done)), H', ⟨by have := HK1.out; omega⟩, ⟨by (with_reducible repeat (first | apply Kd.R_alloc | apply Kd.R_drewN | apply Kd.R_drew)); exact Kd.R_mono (Kd.R_far (p := ⟨gb147, 3, none⟩) (Kd.R_far (p := ⟨gb147, 2, none⟩) (Kd.R_far (p := ⟨gb147, 1, none⟩) (Kd.R_far (p := ⟨gb147, 0, none⟩) (Kd.R_types HO_5.out BK147.out (by decide)) (fun _ hk => hk.2) (.int .i64 ((rd_T52 l1 x14_1).f0))) (fun _ hk => hk.2) (.int .i64 ((rd_T52 l1 x14_1).f1))) (fun _ hk => hk.2) (.int .i64 ((rd_T52 l1 x14_1).f2))) (fun _ hk => hk.2) (.bool ((rd_T52 l1 x14_1).f3))) (fun _ hk => trivial)⟩, ⟨by (with_reducible repeat (first | refine blk_drewN ?_ _ | refine blk_drew ?_ | refine blk_alloc ?_ _)); refine blk_far ?_ NB144_147.out _; (with_reducible repeat (first | refine blk_drewN ?_ _ | refine blk_drew ?_ | refine blk_alloc ?_ _)); refine blk_far ?_ NB144_147.out _; (with_reducible repeat (first | refine blk_drewN ?_ _ | refine blk_drew ?_ | refine blk_alloc ?_ _)); refine blk_far ?_ NB144_147.out _; (with_reducible repeat (first | refine blk_drewN ?_ _ | refine blk_drew ?_ | refine blk_alloc ?_ _)); refine blk_far ?_ NB144_147.out _; (with_reducible repeat (first | refine blk_drewN ?_ _ | refine blk_drew ?_ | refine blk_alloc ?_ _)); exact BK144.out⟩, ⟨by repeat (first | (with_reducible first | exact HB.out | apply below_alloc | apply pw_below_drewN | apply below_drew1 | refine below_set ?_ GE144.out | refine below_set ?_ GE147.out) | exact HB.out)⟩⟩
      ·rw [if_neg c10] at H
       exact absurd H (by simp)
     ·rw [if_neg c9] at H
      exact absurd H (by simp)
    ·rw [if_neg c8] at H
     have c8b0 : decide (x14_1 < (l1.length : Int)) = false := decide_eq_false c8
     clear c8
     obtain rfl := Option.some.inj H
     go_wp2
     go_ret
     exact ⟨_, by first | rfl | (simp [errW_none, errW_some] <;> rfl) | (simp [*, errW_none, errW_some] <;> rfl), by (with_reducible repeat (first | apply Kd.R_alloc | apply Kd.R_drewN | apply Kd.R_drew)); exact HO_5.out, by repeat (first | (with_reducible first | exact HB.out | apply below_alloc | apply pw_below_drewN | apply below_drew1 | refine below_set ?_ GE144.out) | exact HB.out)⟩
 ·rw [if_neg c4] at H
  have c4b0 : (t145 == 0) = false := beq_eq_false_iff_ne.mpr c4
  have c4b1 : (t145 != 0) = true := bne_iff_ne.mpr c4
  obtain rfl := Option.some.inj H
  go_enter Try.func9, Try.ntmps9
  go_wp2_with (first | ((with_reducible refine gate_dst (N := 2) rfl ?_); refine box_event ?hg (N := 2) ?hd (cs := #[.slice A0_0 l0_0.length c0_0]) (t := 24) ?hr ?_; (case hd => rfl); (case hg => rfl); (case hr => first | (go_simp; done) | (go_simp; rfl)); intro gb144 hg w31 hbox hb; have n0_ := Aside0.mk (below_step (by repeat (first | (with_reducible first | exact HB.out | apply below_alloc | apply pw_below_drewN | apply below_drew1) | exact HB.out)) hb); have n1_ := Aside0.mk (hbox); have n2_ := Aside0.mk ((by rw [hg]; exact (below_size (by repeat (first | (with_reducible first | exact HB.out | apply below_alloc | apply pw_below_drewN | apply below_drew1) | exact HB.out))) : w.heap.size ≤ gb144)); have n3_ := Aside0.mk ((by rw [hg]; exact (below_size (by repeat (first | (with_reducible first | exact HB.out | apply below_alloc | apply pw_below_drewN | apply below_drew1) | exact HB.out))) : w.heap.size ≤ gb144)); clear HB; have HB := n0_; have BK144 := n1_; have GW144 := n2_; have GE144 := n3_; clear n0_ n1_ n2_ n3_; clear hb hbox hg; have hcz32_0 : w31.cell? ⟨gb144, 0, none⟩ = some (.slice A0_0 l0_0.length c0_0) := (blk_cell BK144.out 0).trans rfl; have hfz32_0 := blk_frozen BK144.out 0) | ((with_reducible refine gate_callee (f := 14) rfl ?_); refine goesL_ (some 10) rfl rfl Try.func14 (by kernel_rfl) rfl #[.agg #[.slice A0_0 l0_0.length c0_0], .slice A1 l1.length c1] rfl (by (try simp only [List.map_toArray, List.map_cons, List.map_nil]); first | done | rfl | (simp only [List.length_drop, List.length_take]; rfl)) ?_; (with_reducible refine (fact_Check.calls k _ _ l0_0 _ _ l1 t145 _ ?side1 ?side2 ?side3 ?side4 A3.out).mono ?_); (case side1 => repeat (first | exact (Kd.C_below HR0_0.out HB.out) | (with_reducible refine Kd.C_alloc ?_ _) | (with_reducible refine Kd.C_drewN ?_ _) | (with_reducible refine Kd.C_drew ?_))); (case side2 => exact HC0_0.out); (case side3 => repeat (first | exact (Kd.C_below HR1.out HB.out) | (with_reducible refine Kd.C_alloc ?_ _) | (with_reducible refine Kd.C_drewN ?_ _) | (with_reducible refine Kd.C_drew ?_))); (case side4 => exact HC1.out); rintro e w33 ⟨rfl, hb⟩; refine ⟨_, rfl, ?_⟩; have n0_ := Aside0.mk (blk_below (g := gb144) (o := .cells #[.slice A0_0 l0_0.length c0_0] 24 (0, 0)) (by (with_reducible repeat (first | refine blk_drewN ?_ _ | refine blk_drew ?_ | refine blk_alloc ?_ _)); exact BK144.out) hb); have n1_ := Aside0.mk (below_step (by repeat (first | (with_reducible first | exact HB.out | apply below_alloc | apply pw_below_drewN | apply below_drew1 | refine below_set ?_ GE144.out) | exact HB.out)) hb); clear BK144; clear HB; have BK144 := n0_; have HB := n1_; clear n0_ n1_; (try clear hb); (try clear hb2); (try clear hk); (try clear hi)))
  go_ret
  exact ⟨_, by first | rfl | (simp [errW_none, errW_some] <;> rfl) | (simp [*, errW_none, errW_some] <;> rfl), by first | exact Kd.R_nil _ _ _ _ _ | exact Kd.N_nil _ _ _ _ _ | exact Kd.V_nil _ _ _ _ _ | exact Kd.Q_nil _ _ _ _ _ | exact Kd.S_nil _ _ _ _ _, by repeat (first | (with_reducible first | exact HB.out | apply below_alloc | apply pw_below_drewN | apply below_drew1 | refine below_set ?_ GE144.out) | exact HB.out)⟩
def argosylaw13_one.f  : Option ((List (S44))) := (plan_Make.f (⟨#[116]⟩ : ByteArray) (([(⟨(([(⟨(⟨#[97]⟩ : ByteArray), (⟨#[98]⟩ : ByteArray), ([] : List ByteArray), false, false, ([] : List (S65))⟩ : S62)] : List (S62)))⟩ : S65)] : List (S65)))).bind fun bt161 => (some bt161.1)
set_option maxHeartbeats 8000000 in
set_option maxRecDepth 100000 in
theorem argosylaw13_one.calls  (r : List (S44)) (w : World) (h : argosylaw13_one.f  = some r) :
  Calls Try.prog 10 #[] w fun e w' => ∃ v0_ : Value, e = .returned (.agg #[v0_]) ∧ Kd.N k44 44 w' w.heap.size (fun k_ => (w.heap.size ≤ k_)) v0_ r ∧ Below w.heap.size w w' := by
 have hu24 := Try.underlying24
 have hu62 := Try.underlying62
 have hu65 := Try.underlying65
 have hu67 := Try.underlying67
 have HB := Aside0.mk (Below.refl w.heap.size w)
 have H : ((plan_Make.f (⟨#[116]⟩ : ByteArray) (([(⟨(([(⟨(⟨#[97]⟩ : ByteArray), (⟨#[98]⟩ : ByteArray), ([] : List ByteArray), false, false, ([] : List (S65))⟩ : S62)] : List (S62)))⟩ : S65)] : List (S65)))).bind fun bt161 => (some bt161.1)) = some r := h
 clear h
 obtain ⟨y155, hy155⟩ : ∃ y_ : List (S62), y_ = (([(⟨(⟨#[97]⟩ : ByteArray), (⟨#[98]⟩ : ByteArray), ([] : List ByteArray), false, false, ([] : List (S65))⟩ : S62)] : List (S62))) := ⟨_, rfl⟩
 replace H : ((plan_Make.f (⟨#[116]⟩ : ByteArray) (([(⟨y155⟩ : S65)] : List (S65)))).bind fun bt161 => (some bt161.1)) = some r := by first | (rw [hy155]; with_reducible exact H) | (have H2_ := (Option.bind_some _ _).symm.trans H; rw [hy155]; with_reducible exact H2_) | (have H2_ := (Option.bind_some _ _).symm.trans H; with_reducible exact H2_) | with_reducible exact H | (rw [hy155]; exact H) | exact H
 have Ny155 := Aside0.mk hy155
 clear hy155
 obtain ⟨y158, hy158⟩ : ∃ y_ : List (S65), y_ = (([(⟨y155⟩ : S65)] : List (S65))) := ⟨_, rfl⟩
 replace H : ((plan_Make.f (⟨#[116]⟩ : ByteArray) y158).bind fun bt161 => (some bt161.1)) = some r := by first | (rw [hy158]; with_reducible exact H) | (have H2_ := (Option.bind_some _ _).symm.trans H; rw [hy158]; with_reducible exact H2_) | (have H2_ := (Option.bind_some _ _).symm.trans H; with_reducible exact H2_) | with_reducible exact H | (rw [hy158]; exact H) | exact H
 have Ny158 := Aside0.mk hy158
 clear hy158
 replace H := Option.bind_eq_some_iff.mp H
 obtain ⟨⟨t161, t164⟩, A10, H⟩ := H
 replace H : (some t161) = some r := H
 have A1 := Aside0.mk A10
 clear A10
 obtain rfl := Option.some.inj H
 go_enter Try.func10, Try.ntmps10
 go_wp2_with (first | ((with_reducible refine gate_dst (N := 0) rfl ?_); refine box_event ?hg (N := 0) ?hd (cs := #[.slice none 0 0]) (t := 24) ?hr ?_; (case hd => rfl); (case hg => rfl); (case hr => first | (go_simp; done) | (go_simp; rfl)); intro gb154 hg w2 hbox hb; have n0_ := Aside0.mk (below_step (by repeat (first | (with_reducible first | exact HB.out | apply below_alloc | apply pw_below_drewN | apply below_drew1) | exact HB.out)) hb); have n1_ := Aside0.mk (hbox); have n2_ := Aside0.mk ((by rw [hg]; exact (below_size (by repeat (first | (with_reducible first | exact HB.out | apply below_alloc | apply pw_below_drewN | apply below_drew1) | exact HB.out))) : w.heap.size ≤ gb154)); have n3_ := Aside0.mk ((by rw [hg]; exact (below_size (by repeat (first | (with_reducible first | exact HB.out | apply below_alloc | apply pw_below_drewN | apply below_drew1) | exact HB.out))) : w.heap.size ≤ gb154)); clear HB; have HB := n0_; have BK154 := n1_; have GW154 := n2_; have GE154 := n3_; clear n0_ n1_ n2_ n3_; clear hb hbox hg) | ((with_reducible refine gate_dst (N := 5) rfl ?_); refine Kd.N_lit k62 _ 62 ?hg (N' := 5) ?hd (xs := ([(⟨(⟨#[97]⟩ : ByteArray), (⟨#[98]⟩ : ByteArray), ([] : List ByteArray), false, false, ([] : List (S65))⟩ : S62)] : List (S62))) (inner := [.string (⟨#[97]⟩ : ByteArray), .string (⟨#[98]⟩ : ByteArray), .slice none 0 0, .bool false, .bool false, .slice none 0 0]) (ok := (fun k_ => (w.heap.size ≤ k_) ∧ k_ ≠ gb154)) (okp := (fun k_ => (w.heap.size ≤ k_) ∧ k_ ≠ gb154)) ?hr ?hp (fun _ hk => hk) ((show ∀ k_, w2.heap.size ≤ k_ → (fun k_ => (w.heap.size ≤ k_) ∧ k_ ≠ gb154) k_ from fun k_ hk => ⟨(Nat.le_trans (below_size (by repeat (first | (with_reducible first | exact HB.out | apply below_alloc | apply pw_below_drewN | apply below_drew1 | refine below_set ?_ GE154.out) | exact HB.out))) hk), Kd.freshB (g := gb154) (o := .cells #[.slice none 0 0] 24 (0, 0)) (by (with_reducible repeat (first | refine blk_drewN ?_ _ | refine blk_drew ?_ | refine blk_alloc ?_ _)); exact BK154.out) k_ hk⟩) _ (Nat.le_refl _)) (Below.refl _ _) (Nat.le_refl _) (by simp) ?_; (case hd => rfl); (case hg => rfl); (case hr => first | (go_simp; done) | (go_simp; rfl)); (case hp => exact (Reps.c6 (show Kd.FK k62 _ _ (⟨(⟨#[97]⟩ : ByteArray), (⟨#[98]⟩ : ByteArray), ([] : List ByteArray), false, false, ([] : List (S65))⟩ : S62) [.string (⟨#[97]⟩ : ByteArray), .string (⟨#[98]⟩ : ByteArray), .slice none 0 0, .bool false, .bool false, .slice none 0 0] from (k62_mkF _ _ (⟨(⟨#[97]⟩ : ByteArray), (⟨#[98]⟩ : ByteArray), ([] : List ByteArray), false, false, ([] : List (S65))⟩ : S62) (Nat.le_refl _) (Kd.F_nil _ _ _) (Nat.le_refl _) (Kd.F_nil _ _ _))) (Reps.none _ _))); intro v156 w3 ho4 hb hg_ hnew_; clear hg_ hnew_; (first | rw [← Ny155.out] at ho4 | (simp only [Int.reduceToNat] at ho4; rw [← Ny155.out] at ho4)); have n0_ := Aside0.mk (Kd.N_lower ho4 (below_size (by repeat (first | (with_reducible first | exact HB.out | apply below_alloc | apply pw_below_drewN | apply below_drew1 | refine below_set ?_ GE154.out) | exact HB.out)))); have n1_ := Aside0.mk (blk_below (g := gb154) (o := .cells #[.slice none 0 0] 24 (0, 0)) (by (with_reducible repeat (first | refine blk_drewN ?_ _ | refine blk_drew ?_ | refine blk_alloc ?_ _)); exact BK154.out) hb); have n2_ := Aside0.mk (below_step (by repeat (first | (with_reducible first | exact HB.out | apply below_alloc | apply pw_below_drewN | apply below_drew1 | refine below_set ?_ GE154.out) | exact HB.out)) hb); clear BK154; clear HB; have HO157 := n0_; have BK154 := n1_; have HB := n2_; clear n0_ n1_ n2_; clear hb ho4; obtain ⟨Ao5, co5, eo5⟩ := Kd.N_slice HO157.out; subst eo5) | ((with_reducible refine gate_dst (N := 7) rfl ?_); refine Kd.N_lit k65 _ 65 ?hg (N' := 7) ?hd (xs := ([(⟨y155⟩ : S65)] : List (S65))) (inner := [.slice Ao5 y155.length co5]) (ok := (fun k_ => (w.heap.size ≤ k_) ∧ k_ ≠ gb154)) (okp := (fun k_ => (w.heap.size ≤ k_) ∧ k_ ≠ gb154)) ?hr ?hp (fun _ hk => hk) ((show ∀ k_, w3.heap.size ≤ k_ → (fun k_ => (w.heap.size ≤ k_) ∧ k_ ≠ gb154) k_ from fun k_ hk => ⟨(Nat.le_trans (below_size (by repeat (first | (with_reducible first | exact HB.out | apply below_alloc | apply pw_below_drewN | apply below_drew1 | refine below_set ?_ GE154.out) | exact HB.out))) hk), Kd.freshB (g := gb154) (o := .cells #[.slice none 0 0] 24 (0, 0)) (by (with_reducible repeat (first | refine blk_drewN ?_ _ | refine blk_drew ?_ | refine blk_alloc ?_ _)); exact BK154.out) k_ hk⟩) _ (Nat.le_refl _)) (Below.refl _ _) (Nat.le_refl _) (by simp) ?_; (case hd => rfl); (case hg => rfl); (case hr => first | (go_simp; done) | (go_simp; rfl)); (case hp => exact (Reps.one (show Kd.FK k65 _ _ (⟨y155⟩ : S65) [.slice Ao5 y155.length co5] from (k65_mkF _ _ (⟨y155⟩ : S65) (Kd.N_reads' (Kd.N_mono (ok' := (fun k_ => (w.heap.size ≤ k_) ∧ k_ ≠ gb154)) (HO157.out) (fun k_ hk => ⟨hk.1, hk.2⟩))).2.1 (Kd.N_F (Kd.N_mono (ok' := (fun k_ => (w.heap.size ≤ k_) ∧ k_ ≠ gb154)) (HO157.out) (fun k_ hk => ⟨hk.1, hk.2⟩))))) (Reps.none _ _))); intro v159 w6 ho7 hb hg_ hnew_; clear hg_ hnew_; (first | rw [← Ny158.out] at ho7 | (simp only [Int.reduceToNat] at ho7; rw [← Ny158.out] at ho7)); have n0_ := Aside0.mk (Kd.N_lower ho7 (below_size (by repeat (first | (with_reducible first | exact HB.out | apply below_alloc | apply pw_below_drewN | apply below_drew1 | refine below_set ?_ GE154.out) | exact HB.out)))); have n1_ := Aside0.mk (blk_below (g := gb154) (o := .cells #[.slice none 0 0] 24 (0, 0)) (by (with_reducible repeat (first | refine blk_drewN ?_ _ | refine blk_drew ?_ | refine blk_alloc ?_ _)); exact BK154.out) hb); have n2_ := Aside0.mk (below_step (by repeat (first | (with_reducible first | exact HB.out | apply below_alloc | apply pw_below_drewN | apply below_drew1 | refine below_set ?_ GE154.out) | exact HB.out)) hb); clear BK154; clear HB; clear HO157; have HO160 := n0_; have BK154 := n1_; have HB := n2_; clear n0_ n1_ n2_; clear hb ho7; obtain ⟨Ao8, co8, eo8⟩ := Kd.N_slice HO160.out; subst eo8) | ((with_reducible refine gate_callee (f := 17) rfl ?_); refine goesL_ (some 9) rfl rfl Try.func17 (by kernel_rfl) rfl #[.agg #[.string (⟨#[116]⟩ : ByteArray), .slice Ao8 y158.length co8]] rfl (by (try simp only [List.map_toArray, List.map_cons, List.map_nil]); first | done | rfl | (simp only [List.length_drop, List.length_take]; rfl)) ?_; (with_reducible refine (plan_Make.calls (⟨#[116]⟩ : ByteArray) _ _ y158 t161 t164 _ ?side1 ?side2 A1.out).mono ?_); (case side1 => repeat (first | exact (Kd.N_reads' HO160.out).2.2 | (with_reducible refine Kd.C_alloc ?_ _) | (with_reducible refine Kd.C_drewN ?_ _) | (with_reducible refine Kd.C_drew ?_))); (case side2 => exact (Kd.N_reads' HO160.out).2.1); rintro e w9 ⟨v162, rfl, ho0, hb⟩; refine ⟨_, rfl, ?_⟩; have n0_ := Aside0.mk (Kd.N_elder' (by (with_reducible repeat (first | apply Kd.N_alloc | apply Kd.N_drewN | apply Kd.N_drew)); exact HO160.out) (Kd.N_base ho0) hb); have n1_ := Aside0.mk (Kd.N_lower (Kd.N_mono (ok' := fun k_ => (w.heap.size ≤ k_) ∧ some k_ ≠ (.slice Ao8 y158.length co8 : Value).ownBlock ∧ k_ ≠ gb154) ho0 (fun k_ hk_ => ⟨(Nat.le_trans (below_size (by repeat (first | (with_reducible first | exact HB.out | apply below_alloc | apply pw_below_drewN | apply below_drew1 | refine below_set ?_ GE154.out) | exact HB.out))) hk_), (Kd.fresh' (Kd.N_lt (by (with_reducible repeat (first | apply Kd.N_alloc | apply Kd.N_drewN | apply Kd.N_drew)); exact HO160.out)) k_ hk_), (Kd.freshB (g := gb154) (o := .cells #[.slice none 0 0] 24 (0, 0)) (by (with_reducible repeat (first | refine blk_drewN ?_ _ | refine blk_drew ?_ | refine blk_alloc ?_ _)); exact BK154.out) k_ hk_)⟩)) (below_size (by repeat (first | (with_reducible first | exact HB.out | apply below_alloc | apply pw_below_drewN | apply below_drew1 | refine below_set ?_ GE154.out) | exact HB.out)))); have n2_ := Aside0.mk (blk_below (g := gb154) (o := .cells #[.slice none 0 0] 24 (0, 0)) (by (with_reducible repeat (first | refine blk_drewN ?_ _ | refine blk_drew ?_ | refine blk_alloc ?_ _)); exact BK154.out) hb); have n3_ := Aside0.mk (below_step (by repeat (first | (with_reducible first | exact HB.out | apply below_alloc | apply pw_below_drewN | apply below_drew1 | refine below_set ?_ GE154.out) | exact HB.out)) hb); clear HO160; clear BK154; clear HB; have HO160 := n0_; have HO163 := n1_; have BK154 := n2_; have HB := n3_; clear n0_ n1_ n2_ n3_; (try clear hb); (try clear hb2); (try clear hk); (try clear hi); (try clear ho0)) | ((with_reducible refine gate_dst (N := 1) rfl ?_); refine box_event ?hg (N := 1) ?hd (cs := #[.slice none 0 0]) (t := 24) ?hr ?_; (case hd => rfl); (case hg => rfl); (case hr => first | (go_simp; done) | (go_simp; rfl)); intro gb165 hg w10 hbox hb; have n0_ := Aside0.mk (Kd.N_below (Kd.N_elderB (by (with_reducible repeat (first | apply Kd.N_alloc | apply Kd.N_drewN | apply Kd.N_drew)); exact HO160.out) gb165 (Nat.le_of_eq hg.symm)) hb); have n1_ := Aside0.mk (Kd.N_below (Kd.N_elderB (by (with_reducible repeat (first | apply Kd.N_alloc | apply Kd.N_drewN | apply Kd.N_drew)); exact HO163.out) gb165 (Nat.le_of_eq hg.symm)) hb); have n2_ := Aside0.mk (blk_below (g := gb154) (o := .cells #[.slice none 0 0] 24 (0, 0)) (by (with_reducible repeat (first | refine blk_drewN ?_ _ | refine blk_drew ?_ | refine blk_alloc ?_ _)); exact BK154.out) hb); have n3_ := Aside0.mk (below_step (by repeat (first | (with_reducible first | exact HB.out | apply below_alloc | apply pw_below_drewN | apply below_drew1 | refine below_set ?_ GE154.out) | exact HB.out)) hb); have n4_ := Aside0.mk (hbox); have n5_ := Aside0.mk ((by rw [hg]; exact (below_size (by repeat (first | (with_reducible first | exact HB.out | apply below_alloc | apply pw_below_drewN | apply below_drew1 | refine below_set ?_ GE154.out) | exact HB.out))) : w.heap.size ≤ gb165)); have n6_ := Aside0.mk ((by rw [hg]; exact (below_size (by repeat (first | (with_reducible first | exact HB.out | apply below_alloc | apply pw_below_drewN | apply below_drew1 | refine below_set ?_ GE154.out) | exact HB.out))) : w.heap.size ≤ gb165)); have n7_ := Aside0.mk ((by rw [hg]; exact Nat.ne_of_lt (blk_lt (g := gb154) (o := .cells #[.slice none 0 0] 24 (0, 0)) (by (with_reducible repeat (first | refine blk_drewN ?_ _ | refine blk_drew ?_ | refine blk_alloc ?_ _)); exact BK154.out)) : gb154 ≠ gb165)); have n8_ := Aside0.mk ((by rw [hg]; exact Nat.ne_of_gt (blk_lt (g := gb154) (o := .cells #[.slice none 0 0] 24 (0, 0)) (by (with_reducible repeat (first | refine blk_drewN ?_ _ | refine blk_drew ?_ | refine blk_alloc ?_ _)); exact BK154.out)) : gb165 ≠ gb154)); clear HO160; clear HO163; clear BK154; clear HB; have HO160 := n0_; have HO163 := n1_; have BK154 := n2_; have HB := n3_; have BK165 := n4_; have GW165 := n5_; have GE165 := n6_; have NB154_165 := n7_; have NB165_154 := n8_; clear n0_ n1_ n2_ n3_ n4_ n5_ n6_ n7_ n8_; clear hb hbox hg; obtain ⟨Ao11, co11, eo11⟩ := Kd.N_slice HO163.out; subst eo11; have hnb12 := NB165_154.out; have hnc12 := NB154_165.out; have hcz13_0 : w10.cell? ⟨gb165, 0, none⟩ = some (.slice none 0 0) := (blk_cell BK165.out 0).trans rfl; have hfz13_0 := blk_frozen BK165.out 0; have hcz14_0 : w10.cell? ⟨gb154, 0, none⟩ = some (.slice none 0 0) := (blk_cell BK154.out 0).trans rfl; have hfz14_0 := blk_frozen BK154.out 0))
 refine bodyPost_ret (results_cell_row rfl _ _ gb154 24 #[.slice Ao11 t161.length co11] (0, 0) _ rfl (by (with_reducible repeat (first | refine blk_drewN ?_ _ | refine blk_drew ?_ | refine blk_alloc ?_ _)); refine blk_put (cs := #[.slice none 0 0]) ?_ 0 _ rfl; (with_reducible repeat (first | refine blk_drewN ?_ _ | refine blk_drew ?_ | refine blk_alloc ?_ _)); refine blk_far ?_ NB154_165.out _; (with_reducible repeat (first | refine blk_drewN ?_ _ | refine blk_drew ?_ | refine blk_alloc ?_ _)); exact BK154.out) Try.underlying24 rfl (by kernel_rfl)) rfl ?_
 exact ⟨_, by first | rfl | (simp [errW_none, errW_some] <;> rfl) | (simp [*, errW_none, errW_some] <;> rfl), by (with_reducible repeat (first | apply Kd.N_alloc | apply Kd.N_drewN | apply Kd.N_drew)); exact Kd.N_mono (Kd.N_far (p := ⟨gb154, 0, none⟩) (Kd.N_far (p := ⟨gb165, 0, none⟩) (Kd.N_mono (Kd.N_mono HO163.out (fun k_ hk => (⟨hk, hk.2⟩ : _ ∧ k_ ≠ gb165))) (fun k_ hk => (⟨hk, hk.1.1.2.2⟩ : _ ∧ k_ ≠ gb154))) (fun _ hk => hk.1.2) (.slice Ao11 t161.length co11)) (fun _ hk => hk.2) (.slice Ao11 t161.length co11)) (fun _ hk => hk.1.1.1.1), by repeat (first | (with_reducible first | exact HB.out | apply below_alloc | apply pw_below_drewN | apply below_drew1 | refine below_set ?_ GE154.out | refine below_set ?_ GE165.out) | exact HB.out)⟩
def fact_None.f (l0_0 : List (S44)) : Option ((List (S52))) := (plan_Right.f l0_0).bind fun t167 => (if t167 = true then (if 0 ≤ (l0_0.length : Int) then (if ((l0_0.length : Int) : Int).toNat ≤ 8796093022208 then (some (List.replicate ((l0_0.length : Int) : Int).toNat z52)) else (none)) else (none)) else (some ([] : List (S52))))
set_option maxHeartbeats 8000000 in
set_option maxRecDepth 100000 in
theorem fact_None.calls (A0_0 : Option Addr) (c0_0 : Nat) (l0_0 : List (S44)) (r : List (S52)) (w : World) (hr0_0 : Kd.C k44 w A0_0 l0_0.length l0_0) (hc0_0 : l0_0.length ≤ c0_0) (h : fact_None.f l0_0 = some r) :
  Calls Try.prog 18 #[.agg #[.slice A0_0 l0_0.length c0_0]] w fun e w' => ∃ v0_ : Value, e = .returned (v0_) ∧ Kd.R k52 52 w' w.heap.size (fun _ => True) v0_ r ∧ Below w.heap.size w w' := by
 have hu24 := Try.underlying24
 have HR0_0 := Aside0.mk hr0_0
 have HC0_0 := Aside0.mk hc0_0
 clear hr0_0 hc0_0
 have HB := Aside0.mk (Below.refl w.heap.size w)
 have H : ((plan_Right.f l0_0).bind fun t167 => (if t167 = true then (if 0 ≤ (l0_0.length : Int) then (if ((l0_0.length : Int) : Int).toNat ≤ 8796093022208 then (some (List.replicate ((l0_0.length : Int) : Int).toNat z52)) else (none)) else (none)) else (some ([] : List (S52))))) = some r := h
 clear h
 replace H := Option.bind_eq_some_iff.mp H
 obtain ⟨t167, A20, H⟩ := H
 replace H : (if t167 = true then (if 0 ≤ (l0_0.length : Int) then (if ((l0_0.length : Int) : Int).toNat ≤ 8796093022208 then (some (List.replicate ((l0_0.length : Int) : Int).toNat z52)) else (none)) else (none)) else (some ([] : List (S52)))) = some r := H
 have A2 := Aside0.mk A20
 clear A20
 by_cases c3 : t167 = true
 ·subst c3
  have H1 : (if 0 ≤ (l0_0.length : Int) then (if ((l0_0.length : Int) : Int).toNat ≤ 8796093022208 then (some (List.replicate ((l0_0.length : Int) : Int).toNat z52)) else (none)) else (none)) = some r := by rw [if_pos rfl] at H; exact H
  clear H
  have H := H1
  clear H1
  by_cases c4 : 0 ≤ (l0_0.length : Int)
  ·rw [if_pos c4] at H
   have c4b0 := eq_true c4
   have c4b1 : decide (0 ≤ (l0_0.length : Int)) = true := decide_eq_true c4
   clear c4
   by_cases c5 : ((l0_0.length : Int) : Int).toNat ≤ 8796093022208
   ·rw [if_pos c5] at H
    have c5b0 := eq_true c5
    have c5b1 : decide (((l0_0.length : Int) : Int).toNat ≤ 8796093022208) = true := decide_eq_true c5
    clear c5
    obtain ⟨y168, hy168⟩ : ∃ y_ : List (S52), y_ = (List.replicate ((l0_0.length : Int) : Int).toNat z52) := ⟨_, rfl⟩
    replace H : (some y168) = some r := by first | (rw [hy168]; with_reducible exact H) | (have H2_ := (Option.bind_some _ _).symm.trans H; rw [hy168]; with_reducible exact H2_) | (have H2_ := (Option.bind_some _ _).symm.trans H; with_reducible exact H2_) | with_reducible exact H | (rw [hy168]; exact H) | exact H
    have Ny168 := Aside0.mk hy168
    clear hy168
    obtain rfl := Option.some.inj H
    go_enter Try.func18, Try.ntmps18
    go_wp2_with (first | ((with_reducible refine gate_dst (N := 1) rfl ?_); refine box_event ?hg (N := 1) ?hd (cs := #[.slice A0_0 l0_0.length c0_0]) (t := 24) ?hr ?_; (case hd => rfl); (case hg => rfl); (case hr => first | (go_simp; done) | (go_simp; rfl)); intro gb166 hg w6 hbox hb; have n0_ := Aside0.mk (below_step (by repeat (first | (with_reducible first | exact HB.out | apply below_alloc | apply pw_below_drewN | apply below_drew1) | exact HB.out)) hb); have n1_ := Aside0.mk (hbox); have n2_ := Aside0.mk ((by rw [hg]; exact (below_size (by repeat (first | (with_reducible first | exact HB.out | apply below_alloc | apply pw_below_drewN | apply below_drew1) | exact HB.out))) : w.heap.size ≤ gb166)); have n3_ := Aside0.mk ((by rw [hg]; exact (below_size (by repeat (first | (with_reducible first | exact HB.out | apply below_alloc | apply pw_below_drewN | apply below_drew1) | exact HB.out))) : w.heap.size ≤ gb166)); clear HB; have HB := n0_; have BK166 := n1_; have GW166 := n2_; have GE166 := n3_; clear n0_ n1_ n2_ n3_; clear hb hbox hg; have hcz7_0 : w6.cell? ⟨gb166, 0, none⟩ = some (.slice A0_0 l0_0.length c0_0) := (blk_cell BK166.out 0).trans rfl; have hfz7_0 := blk_frozen BK166.out 0) | ((with_reducible refine gate_callee (f := 19) rfl ?_); refine goesL_ (some 4) rfl rfl Try.func19 (by kernel_rfl) rfl #[.agg #[.slice A0_0 l0_0.length c0_0]] rfl (by (try simp only [List.map_toArray, List.map_cons, List.map_nil]); first | done | rfl | (simp only [List.length_drop, List.length_take]; rfl)) ?_; (with_reducible refine (plan_Right.calls _ _ l0_0 true _ ?side1 ?side2 A2.out).mono ?_); (case side1 => repeat (first | exact (Kd.C_below HR0_0.out HB.out) | (with_reducible refine Kd.C_alloc ?_ _) | (with_reducible refine Kd.C_drewN ?_ _) | (with_reducible refine Kd.C_drew ?_))); (case side2 => exact HC0_0.out); rintro e w8 ⟨rfl, hb⟩; refine ⟨_, rfl, ?_⟩; have n0_ := Aside0.mk (blk_below (g := gb166) (o := .cells #[.slice A0_0 l0_0.length c0_0] 24 (0, 0)) (by (with_reducible repeat (first | refine blk_drewN ?_ _ | refine blk_drew ?_ | refine blk_alloc ?_ _)); exact BK166.out) hb); have n1_ := Aside0.mk (below_step (by repeat (first | (with_reducible first | exact HB.out | apply below_alloc | apply pw_below_drewN | apply below_drew1 | refine below_set ?_ GE166.out) | exact HB.out)) hb); clear BK166; clear HB; have BK166 := n0_; have HB := n1_; clear n0_ n1_; (try clear hb); (try clear hb2); (try clear hk); (try clear hi); have hcz9_0 : w8.cell? ⟨gb166, 0, none⟩ = some (.slice A0_0 l0_0.length c0_0) := (blk_cell BK166.out 0).trans rfl; have hfz9_0 := blk_frozen BK166.out 0) | ((with_reducible refine gate_dst (N := 9) rfl ?_); refine Kd.R_make k52 _ 52 rfl (N := 9) rfl 25 _ _ rfl (l0_0.length : Int) rfl rfl Try.underlying25 (.agg #[(.int .i64 0), (.int .i64 0), (.int .i64 0), (.bool false)]) 32 info52 rfl (by decide) (by omega) z52 (ok := fun _ => True) (okp := fun _ => True) (k52_mkM _ _ _ z52 ) (fun _ hk => hk) trivial (of_decide_eq_true (by first | (with_reducible assumption) | assumption)) (Nat.le_trans (Nat.mul_le_mul_right _ (of_decide_eq_true (by first | (with_reducible assumption) | assumption) : (l0_0.length : Int).toNat ≤ 8796093022208)) (by omega)) (Below.refl _ _) (Nat.le_refl _) ?_; intro v169 w10 ho11 hb hg_ hnew_; clear hg_ hnew_; (first | rw [← Ny168.out] at ho11 | (simp only [Int.reduceToNat] at ho11; rw [← Ny168.out] at ho11)); have n0_ := Aside0.mk (Kd.R_lower ho11 (below_size (by repeat (first | (with_reducible first | exact HB.out | apply below_alloc | apply pw_below_drewN | apply below_drew1 | refine below_set ?_ GE166.out) | exact HB.out)))); have n1_ := Aside0.mk (blk_below (g := gb166) (o := .cells #[.slice A0_0 l0_0.length c0_0] 24 (0, 0)) (by (with_reducible repeat (first | refine blk_drewN ?_ _ | refine blk_drew ?_ | refine blk_alloc ?_ _)); exact BK166.out) hb); have n2_ := Aside0.mk (below_step (by repeat (first | (with_reducible first | exact HB.out | apply below_alloc | apply pw_below_drewN | apply below_drew1 | refine below_set ?_ GE166.out) | exact HB.out)) hb); clear BK166; clear HB; have HO170 := n0_; have BK166 := n1_; have HB := n2_; clear n0_ n1_ n2_; clear hb ho11))
    go_ret
    exact ⟨_, by first | rfl | (simp [errW_none, errW_some] <;> rfl) | (simp [*, errW_none, errW_some] <;> rfl), by (with_reducible repeat (first | apply Kd.R_alloc | apply Kd.R_drewN | apply Kd.R_drew)); exact HO170.out, by repeat (first | (with_reducible first | exact HB.out | apply below_alloc | apply pw_below_drewN | apply below_drew1 | refine below_set ?_ GE166.out) | exact HB.out)⟩
   ·rw [if_neg c5] at H
    exact absurd H (by simp)
  ·rw [if_neg c4] at H
   exact absurd H (by simp)
 ·replace c3 := Bool.eq_false_iff.mpr c3
  subst c3
  have H1 : (some ([] : List (S52))) = some r := by rw [if_neg (show ¬ (false = true) by decide)] at H; exact H
  clear H
  have H := H1
  clear H1
  obtain rfl := Option.some.inj H
  go_enter Try.func18, Try.ntmps18
  go_wp2_with (first | ((with_reducible refine gate_dst (N := 1) rfl ?_); refine box_event ?hg (N := 1) ?hd (cs := #[.slice A0_0 l0_0.length c0_0]) (t := 24) ?hr ?_; (case hd => rfl); (case hg => rfl); (case hr => first | (go_simp; done) | (go_simp; rfl)); intro gb166 hg w12 hbox hb; have n0_ := Aside0.mk (below_step (by repeat (first | (with_reducible first | exact HB.out | apply below_alloc | apply pw_below_drewN | apply below_drew1) | exact HB.out)) hb); have n1_ := Aside0.mk (hbox); have n2_ := Aside0.mk ((by rw [hg]; exact (below_size (by repeat (first | (with_reducible first | exact HB.out | apply below_alloc | apply pw_below_drewN | apply below_drew1) | exact HB.out))) : w.heap.size ≤ gb166)); have n3_ := Aside0.mk ((by rw [hg]; exact (below_size (by repeat (first | (with_reducible first | exact HB.out | apply below_alloc | apply pw_below_drewN | apply below_drew1) | exact HB.out))) : w.heap.size ≤ gb166)); clear HB; have HB := n0_; have BK166 := n1_; have GW166 := n2_; have GE166 := n3_; clear n0_ n1_ n2_ n3_; clear hb hbox hg; have hcz13_0 : w12.cell? ⟨gb166, 0, none⟩ = some (.slice A0_0 l0_0.length c0_0) := (blk_cell BK166.out 0).trans rfl; have hfz13_0 := blk_frozen BK166.out 0) | ((with_reducible refine gate_callee (f := 19) rfl ?_); refine goesL_ (some 4) rfl rfl Try.func19 (by kernel_rfl) rfl #[.agg #[.slice A0_0 l0_0.length c0_0]] rfl (by (try simp only [List.map_toArray, List.map_cons, List.map_nil]); first | done | rfl | (simp only [List.length_drop, List.length_take]; rfl)) ?_; (with_reducible refine (plan_Right.calls _ _ l0_0 false _ ?side1 ?side2 A2.out).mono ?_); (case side1 => repeat (first | exact (Kd.C_below HR0_0.out HB.out) | (with_reducible refine Kd.C_alloc ?_ _) | (with_reducible refine Kd.C_drewN ?_ _) | (with_reducible refine Kd.C_drew ?_))); (case side2 => exact HC0_0.out); rintro e w14 ⟨rfl, hb⟩; refine ⟨_, rfl, ?_⟩; have n0_ := Aside0.mk (blk_below (g := gb166) (o := .cells #[.slice A0_0 l0_0.length c0_0] 24 (0, 0)) (by (with_reducible repeat (first | refine blk_drewN ?_ _ | refine blk_drew ?_ | refine blk_alloc ?_ _)); exact BK166.out) hb); have n1_ := Aside0.mk (below_step (by repeat (first | (with_reducible first | exact HB.out | apply below_alloc | apply pw_below_drewN | apply below_drew1 | refine below_set ?_ GE166.out) | exact HB.out)) hb); clear BK166; clear HB; have BK166 := n0_; have HB := n1_; clear n0_ n1_; (try clear hb); (try clear hb2); (try clear hk); (try clear hi)))
  go_ret
  exact ⟨_, by first | rfl | (simp [errW_none, errW_some] <;> rfl) | (simp [*, errW_none, errW_some] <;> rfl), by first | exact Kd.R_nil _ _ _ _ _ | exact Kd.N_nil _ _ _ _ _ | exact Kd.V_nil _ _ _ _ _ | exact Kd.Q_nil _ _ _ _ _ | exact Kd.S_nil _ _ _ _ _, by repeat (first | (with_reducible first | exact HB.out | apply below_alloc | apply pw_below_drewN | apply below_drew1 | refine below_set ?_ GE166.out) | exact HB.out)⟩
end Go.Proofs.Ytgilgicanggleab.F
end

section
namespace Go.Proofs.Ytgilgicanggleab.F
open Go.RowKit Go.Proofs.YtgilgicanggleabW.PrintWords Go.Proofs.YtgilgicanggleabW.PrintLast Go.Proofs.YtgilgicanggleabW.PrintMore
attribute [local go_sem] max2_int min2_int max_two min_two max_three min_three max_four min_four
set_option linter.unusedVariables false
set_option linter.unusedSimpArgs false
def noneL (p : List S44) : List S52 := if rightB p then List.replicate p.length z52 else []
def allGo (p : List S44) : List S52 → Nat → List S29 → List S52 × Int × Int
 | l, i, [] => (l, i, 0)
 | l, i, e :: es => if (applyB p l e.f0 e.f1 e.f2 e.f3).1 = 0 then allGo p (applyB p l e.f0 e.f1 e.f2 e.f3).2 (i + 1) es else ([], i, (applyB p l e.f0 e.f1 e.f2 e.f3).1)
def allL (p : List S44) (h : List S29) : List S52 × Int × Int := if (noneL p).length = 0 then ([], 0, 2) else allGo p (noneL p) 0 h
theorem applyB_len (p : List S44) (l : List S52) (k it t : Int) (s : List Int) : (applyB p l k it t s).2.length = l.length := by
 unfold applyB
 split <;> (try split) <;> (try split) <;> (try split) <;> simp
theorem none_f (p : List S44) (hp : smallP p = true) (hl : p.length ≤ 1000000) : fact_None.f p = some (noneL p) := by
 unfold fact_None.f plan_Right.f noneL
 rw [if_pos (by exact hp), Option.bind_some]
 cases rightB p
 ·rfl
 ·rw [if_pos rfl, if_pos (by omega), if_pos (by omega), Int.toNat_natCast]; rfl
set_option maxHeartbeats 8000000 in
set_option maxRecDepth 100000 in
theorem All_walk (p : List S44) (Ap : Option Addr) (cp : Nat) (h : List S29) (Ah : Option Addr) (ch : Nat) (w : World)
  (hp : Kd.C k44 w Ap p.length p) (hcp : p.length ≤ cp) (hh : Kd.C k29 w Ah h.length h) (hch : h.length ≤ ch) (hsm : smallP p = true) (hl6 : p.length ≤ 1000000) (hh6 : h.length ≤ 1000000) :
  Calls Try.prog 11 #[.agg #[.slice Ap p.length cp], .slice Ah h.length ch] w fun e w' => ∃ v, e = .returned (.tuple #[v, .int .i64 (allL p h).2.1, .int .i64 (allL p h).2.2]) ∧ Kd.R k52 52 w' w.heap.size (fun _ => True) v (allL p h).1 ∧ Below w.heap.size w w' := by
 have HP := Aside0.mk hp
 have HH := Aside0.mk hh
 have HCP := Aside0.mk hcp
 have HCH := Aside0.mk hch
 have HH6 := Aside0.mk hh6
 have hnf := none_f p hsm hl6
 have HGA := Aside0.mk (blk_new w (.cells #[.slice Ap p.length cp] 24 (0, 0)))
 have HB0 : Aside0 (Below w.heap.size w (w.alloc (.cells #[.slice Ap p.length cp] 24 (0, 0)))) := ⟨below_alloc (Below.refl _ _) _⟩
 obtain ⟨r, hr⟩ : ∃ r, allL p h = r := ⟨_, rfl⟩
 have HR := Aside0.mk hr
 rw [hr]
 have hln : (noneL p).length = 0 ∨ (noneL p).length = p.length := by unfold noneL; split <;> simp
 obtain ⟨l0, hl0⟩ : ∃ l0, noneL p = l0 := ⟨_, rfl⟩
 have HL0 := Aside0.mk hl0
 rw [hl0] at hnf hln
 have HNF := Aside0.mk hnf
 have HLN := Aside0.mk hln
 clear hp hh hcp hch hsm hl6 hh6 hnf hr hl0 hln
 by_cases hz : l0.length = 0
 ·have hx : l0 = [] := List.eq_nil_of_length_eq_zero hz
  subst hx
  clear hz
  go_enter Try.func11, Try.ntmps11
  go_wp2_with (go_at_call 18; refine stop2_ ?_)
  unfold Stop2_
  refine (fact_None.calls Ap cp p [] _ (Kd.C_below HP.out HB0.out) HCP.out HNF.out).mono ?_
  rintro e w2 ⟨v, rfl, hR, hb⟩
  obtain ⟨A3, c3, rfl⟩ := Kd.R_slice hR
  have HB2 := Aside0.mk (HB0.out.trans (hb.mono HB0.out.size))
  clear hb hR
  go_wp2
  go_ret3
  have hx : r = ([], 0, 2) := by rw [← HR.out]; unfold allL; rw [HL0.out]; rfl
  rw [hx]
  exact ⟨_, rfl, Kd.R_nil _ _ _ _ _, HB2.out⟩
 ·have HLP : Aside0 (l0.length = p.length) := ⟨by have := HLN.out; omega⟩
  have hpz : ¬ p.length = 0 := by have := HLP.out; omega
  clear hz
  go_enter Try.func11, Try.ntmps11
  go_wp2_with (go_at_call 18; refine stop2_ ?_)
  unfold Stop2_
  refine (fact_None.calls Ap cp p l0 _ (Kd.C_below HP.out HB0.out) HCP.out HNF.out).mono ?_
  rintro e w2 ⟨v, rfl, hR, hb⟩
  obtain ⟨A7, c7, rfl⟩ := Kd.R_slice hR
  rw [show (w.alloc (.cells #[.slice Ap p.length cp] 24 (0, 0))).heap.size = w.heap.size + 1 from by simp, HLP.out] at hR
  have HR2 := Aside0.mk hR
  have HB1 := Aside0.mk (hb.mono (by simp : w.heap.size + 1 ≤ _))
  rw [HLP.out]
  clear hR hb
  have HX : Aside0 (r = allGo p l0 0 h) := ⟨by rw [← HR.out]; unfold allL; rw [HL0.out, if_neg (by have := HLP.out; omega)]⟩
  go_wp2
  have hq : ((p.length : Int) == 0) = false := by simp [hpz]
  simp only [hq]
  clear hpz
  go_loopg [18] h.length (fun kq v18 w' => ∃ (i : Nat) (li : List S52), v18 = .int .i64 i ∧ Aside0 (i + kq = h.length) ∧ Aside0 (li.length = p.length) ∧ Aside0 (r = allGo p li i (h.drop i)) ∧ Aside0 (Kd.R k52 52 w' (w.heap.size + 1) (fun _ => True) (.slice A7 p.length c7) li) ∧ Aside0 (Below (w.heap.size + 1) (w.alloc (.cells #[.slice Ap p.length cp] 24 (0, 0))) w'))
  case atStart => exact ⟨0, l0, rfl, ⟨by omega⟩, HLP, HX, HR2, HB1⟩
  case round =>
   obtain ⟨i, li, rfl, HI, HLI, HG, HRI, HBI⟩ := hrel
   have HBW := Aside0.mk (HB0.out.trans (HBI.out.mono (Nat.le_succ _)))
   cases gk with
   | zero =>
    have hi : i = h.length := by have := HI.out; omega
    subst hi
    have HX2 : Aside0 (r = (li, (h.length : Int), 0)) := ⟨by rw [HG.out, List.drop_length]; rfl⟩
    go_wp2
    go_ret3
    rw [HX2.out]
    exact ⟨_, rfl, Kd.R_lower (by have h := HRI.out; exact h) (Nat.le_succ _), HBW.out⟩
   | succ k =>
    have hlt : i < h.length := by have := HI.out; omega
    have hlt' : (i : Int) < (h.length : Int) := by omega
    have h0 : (0 : Int) ≤ i := by omega
    obtain ⟨ad, A3, c3, e0, x0, x1, x2, x3, hc3, hC3⟩ := at_T29 (Kd.C_below HH.out HBW.out) (i : Int) h0 hlt'
    obtain ⟨ev, hev⟩ : ∃ ev, rd_T29 h (i : Int) = ev := ⟨_, rfl⟩
    have hd : h.drop i = ev :: h.drop (i + 1) := by rw [← hev]; unfold rd_T29; rw [Int.toNat_natCast, List.getD_eq_getElem?_getD, List.getElem?_eq_getElem hlt, List.drop_eq_getElem_cons hlt]; rfl
    rw [hev] at x0 x1 x2 x3 hc3 hC3
    rw [Int.toNat_natCast] at x0 x1 x2 x3
    subst e0
    have HC3 := Aside0.mk hC3
    have HCC3 := Aside0.mk hc3
    have hg := HG.out
    rw [hd, allGo] at hg
    obtain ⟨⟨er, l4⟩, ha⟩ : ∃ a, applyB p li ev.f0 ev.f1 ev.f2 ev.f3 = a := ⟨_, rfl⟩
    have HL4 : Aside0 (l4.length = p.length) := ⟨by have h := applyB_len p li ev.f0 ev.f1 ev.f2 ev.f3; rw [ha, HLI.out] at h; exact h⟩
    rw [ha] at hg
    have HG4 := Aside0.mk hg
    have HA := Aside0.mk ha
    have HI2 := HI
    have HGA2 := Aside0.mk ((HBI.out.block w.heap.size (Nat.lt_succ_self _)).trans HGA.out)
    clear hev hd hC3 hc3 hg ha
    have z0 : wr.cell? ⟨w.heap.size, 0, none⟩ = some (.slice Ap p.length cp) := (blk_cell HGA2.out 0).trans rfl
    have l1 : w.heap.size < wr.heap.size := blk_lt HGA2.out
    have l2 : ¬ w.heap.size = wr.heap.size := by omega
    go_wp2_with (go_at_call 16; refine stop2_ ?_)
    unfold Stop2_
    have HBX := Aside0.mk (HBI.out.alloc (by have := HBI.out.size; have h : (w.alloc (.cells #[.slice Ap p.length cp] 24 (0, 0))).heap.size = w.heap.size + 1 := (by simp); omega) (.cells #[.int .i64 ev.f0, .int .i64 ev.f1, .int .i64 ev.f2, .slice A3 ev.f3.length c3] 29 (0, 0)))
    have haw := apply_walk p Ap cp li A7 c7 ev.f0 ev.f1 ev.f2 ev.f3 A3 c3 (w.heap.size + 1) (fun _ => True) (wr.alloc (.cells #[.int .i64 ev.f0, .int .i64 ev.f1, .int .i64 ev.f2, .slice A3 ev.f3.length c3] 29 (0, 0))) (Kd.C_below HP.out (HB0.out.trans (HBX.out.mono (Nat.le_succ _)))) (by rw [HLI.out]; exact Kd.R_alloc HRI.out _) HLI.out (Kd.C_below HC3.out (below_alloc (Below.refl _ _) _)) HCC3.out (by simp; omega)
    unfold ApplyP at haw
    rw [HA.out, HLI.out] at haw
    refine haw.mono ?_
    clear haw
    rintro e w4 ⟨rfl, hR4, hb⟩
    have HR4 := Aside0.mk hR4
    have HB4 := Aside0.mk (HBX.out.trans hb)
    clear hR4 hb z0 x0 x1 x2 x3
    by_cases hE : er = 0
    ·subst hE
     have HG5 : Aside0 (r = allGo p l4 (i + 1) (h.drop (i + 1))) := ⟨by rw [HG4.out, if_pos rfl]⟩
     have hw : wrap64 ((i : Int) + 1) = ((i + 1 : Nat) : Int) := by rw [w64_in_ _ (by have := HH6.out; omega)]; omega
     go_wp2
     go_roundg k
     case measure => omega
     case rel => exact ⟨i + 1, l4, by rw [← hw], ⟨by have := HI2.out; omega⟩, HL4, HG5, HR4, HB4⟩
    ·have HX2 : Aside0 (r = ([], (i : Int), er)) := ⟨by rw [HG4.out, if_neg hE]⟩
     go_wp2
     go_ret3
     rw [HX2.out]
     exact ⟨_, rfl, Kd.R_nil _ _ _ _ _, HB0.out.trans (HB4.out.mono (Nat.le_succ _))⟩
def fact_All.f (l0_0 : List S44) (l1 : List S29) : Option (List S52 × Int × Int) := if smallP l0_0 && (decide (l0_0.length ≤ 1000000) && decide (l1.length ≤ 1000000)) then some (allL l0_0 l1) else none
theorem fact_All.calls (A0_0 : Option Addr) (c0_0 : Nat) (l0_0 : List S44) (A1 : Option Addr) (c1 : Nat) (l1 : List S29) (r1 : List S52) (r2 r3 : Int) (w : World) (hr0_0 : Kd.C k44 w A0_0 l0_0.length l0_0) (hc0_0 : l0_0.length ≤ c0_0) (hr1 : Kd.C k29 w A1 l1.length l1) (hc1 : l1.length ≤ c1) (h : fact_All.f l0_0 l1 = some (r1, r2, r3)) :
  Calls Try.prog 11 #[.agg #[.slice A0_0 l0_0.length c0_0], .slice A1 l1.length c1] w fun e w' => ∃ v0_ : Value, e = .returned (.tuple #[v0_, .int .i64 r2, .int .i64 r3]) ∧ Kd.R k52 52 w' w.heap.size (fun _ => True) v0_ r1 ∧ Below w.heap.size w w' := by
 unfold fact_All.f at h
 split at h
 ·rename_i hc
  rw [Bool.and_eq_true, Bool.and_eq_true, decide_eq_true_eq, decide_eq_true_eq] at hc
  have h2 := All_walk l0_0 A0_0 c0_0 l1 A1 c1 w hr0_0 hc0_0 hr1 hc1 hc.1 hc.2.1 hc.2.2
  rw [Option.some.inj h] at h2
  exact h2
 ·cases h
end Go.Proofs.Ytgilgicanggleab.F
end

section
namespace Go.Proofs.Ytgilgicanggleab.F
open Go.RowKit Go.Proofs.YtgilgicanggleabW.PrintWords Go.Proofs.YtgilgicanggleabW.PrintLast Go.Proofs.YtgilgicanggleabW.PrintMore
attribute [local go_sem] max2_int min2_int max_two min_two max_three min_three max_four min_four
set_option linter.unusedVariables false
set_option linter.unusedSimpArgs false
theorem eqA40 (d : Nat) (w : World) (x0 y0 : Int) (x1 y1 : Bool) (x2 y2 : Int) :
  (Op.equalIn (d + 2) 40 (.agg #[.int .i64 x0, .bool x1, .int .i64 x2]) (.agg #[.int .i64 y0, .bool y1, .int .i64 y2])).run Try.prog w = .ok (x0 == y0 && (x1 == y1 && (x2 == y2))) w := by
 refine eqA_of Try.underlying40 (by kernel_rfl) ?_
 refine eqf_cons (by rfl) (by go_simp; rfl) (by go_simp; rfl) (by go_simp) ?_
 refine eqf_cons (by rfl) (by go_simp; rfl) (by go_simp; rfl) (by go_simp) ?_
 exact eqf_last (by rfl) (by go_simp; rfl) (by go_simp; rfl) (by go_simp)
end Go.Proofs.Ytgilgicanggleab.F
end

section
namespace Go.Proofs.Ytgilgicanggleab.F
open Go.RowKit Go.Proofs.YtgilgicanggleabW.PrintWords Go.Proofs.YtgilgicanggleabW.PrintLast Go.Proofs.YtgilgicanggleabW.PrintMore
attribute [local go_sem] max2_int min2_int max_two min_two max_three min_three max_four min_four
set_option linter.unusedVariables false
set_option linter.unusedSimpArgs false
attribute [local go_sem high] eqA40
def argosylaw13_ev.f (a0 : Int) (a1 : Int) : Option (Int × Int × Int × List Int) := some (a0, 1, a1, (([1] : List Int)))
set_option maxHeartbeats 8000000 in
set_option maxRecDepth 100000 in
theorem argosylaw13_ev.calls (a0 : Int) (a1 : Int) (r1 : Int) (r2 : Int) (r3 : Int) (r4 : List Int) (w : World) (h : argosylaw13_ev.f a0 a1 = some (r1, r2, r3, r4)) :
  Calls Try.prog 12 #[.int .i64 a0, .int .i64 a1] w fun e w' => ∃ v3_ : Value, e = .returned (.agg #[.int .i64 r1, .int .i64 r2, .int .i64 r3, v3_]) ∧ Kd.R (Kd.int .i64) 3 w' w.heap.size (fun _ => True) v3_ r4 ∧ Below w.heap.size w w' := by
 have hu29 := Try.underlying29
 have HB := Aside0.mk (Below.refl w.heap.size w)
 have H : (some (a0, 1, a1, (([1] : List Int)))) = some (r1, r2, r3, r4) := h
 clear h
 obtain ⟨y172, hy172⟩ : ∃ y_ : List Int, y_ = (([1] : List Int)) := ⟨_, rfl⟩
 replace H : (some (a0, 1, a1, y172)) = some (r1, r2, r3, r4) := by first | (rw [hy172]; with_reducible exact H) | (have H2_ := (Option.bind_some _ _).symm.trans H; rw [hy172]; with_reducible exact H2_) | (have H2_ := (Option.bind_some _ _).symm.trans H; with_reducible exact H2_) | with_reducible exact H | (rw [hy172]; exact H) | exact H
 have Ny172 := Aside0.mk hy172
 clear hy172
 simp only [Option.some.injEq, Prod.mk.injEq] at H
 obtain ⟨rfl, rfl, rfl, rfl⟩ := H
 go_enter Try.func12, Try.ntmps12
 go_wp2_with (first | ((with_reducible refine gate_dst (N := 4) rfl ?_); refine box_event ?hg (N := 4) ?hd (cs := #[.int .i64 0, .int .i64 0, .int .i64 0, .slice none 0 0]) (t := 29) ?hr ?_; (case hd => rfl); (case hg => rfl); (case hr => first | (go_simp; done) | (go_simp; rfl)); intro gb171 hg w3 hbox hb; have n0_ := Aside0.mk (below_step (by repeat (first | (with_reducible first | exact HB.out | apply below_alloc | apply pw_below_drewN | apply below_drew1) | exact HB.out)) hb); have n1_ := Aside0.mk (hbox); have n2_ := Aside0.mk ((by rw [hg]; exact (below_size (by repeat (first | (with_reducible first | exact HB.out | apply below_alloc | apply pw_below_drewN | apply below_drew1) | exact HB.out))) : w.heap.size ≤ gb171)); have n3_ := Aside0.mk ((by rw [hg]; exact (below_size (by repeat (first | (with_reducible first | exact HB.out | apply below_alloc | apply pw_below_drewN | apply below_drew1) | exact HB.out))) : w.heap.size ≤ gb171)); clear HB; have HB := n0_; have BK171 := n1_; have GW171 := n2_; have GE171 := n3_; clear n0_ n1_ n2_ n3_; clear hb hbox hg) | ((with_reducible refine gate_dst (N := 7) rfl ?_); refine Kd.R_lit (Kd.int .i64) _ 3 ?hg (N := 7) ?hd (xs := ([1] : List Int)) (inner := [.int .i64 1]) (ok := fun _ => True) (okp := fun _ => True) ?hr ?hp (fun _ hk => hk) trivial (Below.refl _ _) (Nat.le_refl _) (by simp) ?_; (case hd => rfl); (case hg => rfl); (case hr => first | (go_simp; done) | (go_simp; rfl)); (case hp => exact (Reps.one (show Kd.M (Kd.int .i64) _ _ _ 1 [.int .i64 1] from rfl) (Reps.none _ _))); intro v173 w4 ho5 hb hg_ hnew_; clear hg_ hnew_; (first | rw [← Ny172.out] at ho5 | (simp only [Int.reduceToNat] at ho5; rw [← Ny172.out] at ho5)); have n0_ := Aside0.mk (Kd.R_lower ho5 (below_size (by repeat (first | (with_reducible first | exact HB.out | apply below_alloc | apply pw_below_drewN | apply below_drew1 | refine below_set ?_ GE171.out) | exact HB.out)))); have n1_ := Aside0.mk (blk_below (g := gb171) (o := .cells #[.int .i64 0, .int .i64 0, .int .i64 0, .slice none 0 0] 29 (0, 0)) (by (with_reducible repeat (first | refine blk_drewN ?_ _ | refine blk_drew ?_ | refine blk_alloc ?_ _)); exact BK171.out) hb); have n2_ := Aside0.mk (below_step (by repeat (first | (with_reducible first | exact HB.out | apply below_alloc | apply pw_below_drewN | apply below_drew1 | refine below_set ?_ GE171.out) | exact HB.out)) hb); clear BK171; clear HB; have HO174 := n0_; have BK171 := n1_; have HB := n2_; clear n0_ n1_ n2_; clear hb ho5; obtain ⟨Ao6, co6, eo6⟩ := Kd.R_slice HO174.out; subst eo6; have hcz7_0 : w4.cell? ⟨gb171, 0, none⟩ = some (.int .i64 0) := (blk_cell BK171.out 0).trans rfl; have hcz7_1 : w4.cell? ⟨gb171, 1, none⟩ = some (.int .i64 0) := (blk_cell BK171.out 1).trans rfl; have hcz7_2 : w4.cell? ⟨gb171, 2, none⟩ = some (.int .i64 0) := (blk_cell BK171.out 2).trans rfl; have hcz7_3 : w4.cell? ⟨gb171, 3, none⟩ = some (.slice none 0 0) := (blk_cell BK171.out 3).trans rfl; have hfz7_0 := blk_frozen BK171.out 0; have hfz7_1 := blk_frozen BK171.out 1; have hfz7_2 := blk_frozen BK171.out 2; have hfz7_3 := blk_frozen BK171.out 3))
 refine bodyPost_ret (results_cell_row rfl _ _ gb171 29 #[.int .i64 a0, .int .i64 1, .int .i64 a1, .slice Ao6 y172.length co6] (0, 0) _ rfl (by (with_reducible repeat (first | refine blk_drewN ?_ _ | refine blk_drew ?_ | refine blk_alloc ?_ _)); refine blk_put (cs := #[.int .i64 a0, .int .i64 1, .int .i64 a1, .slice none 0 0]) ?_ 3 _ rfl; (with_reducible repeat (first | refine blk_drewN ?_ _ | refine blk_drew ?_ | refine blk_alloc ?_ _)); refine blk_put (cs := #[.int .i64 a0, .int .i64 1, .int .i64 0, .slice none 0 0]) ?_ 2 _ rfl; (with_reducible repeat (first | refine blk_drewN ?_ _ | refine blk_drew ?_ | refine blk_alloc ?_ _)); refine blk_put (cs := #[.int .i64 a0, .int .i64 0, .int .i64 0, .slice none 0 0]) ?_ 1 _ rfl; (with_reducible repeat (first | refine blk_drewN ?_ _ | refine blk_drew ?_ | refine blk_alloc ?_ _)); refine blk_put (cs := #[.int .i64 0, .int .i64 0, .int .i64 0, .slice none 0 0]) ?_ 0 _ rfl; (with_reducible repeat (first | refine blk_drewN ?_ _ | refine blk_drew ?_ | refine blk_alloc ?_ _)); exact BK171.out) Try.underlying29 rfl (by kernel_rfl)) rfl ?_
 exact ⟨_, by first | rfl | (simp [errW_none, errW_some] <;> rfl) | (simp [*, errW_none, errW_some] <;> rfl), by (with_reducible repeat (first | apply Kd.R_alloc | apply Kd.R_drewN | apply Kd.R_drew)); exact Kd.R_mono (Kd.R_far (p := ⟨gb171, 3, none⟩) (Kd.R_far (p := ⟨gb171, 2, none⟩) (Kd.R_far (p := ⟨gb171, 1, none⟩) (Kd.R_far (p := ⟨gb171, 0, none⟩) (Kd.R_types HO174.out BK171.out (by decide)) (fun _ hk => hk.2) (.int .i64 a0)) (fun _ hk => hk.2) (.int .i64 1)) (fun _ hk => hk.2) (.int .i64 a1)) (fun _ hk => hk.2) (.slice Ao6 y172.length co6)) (fun _ hk => trivial), by repeat (first | (with_reducible first | exact HB.out | apply below_alloc | apply pw_below_drewN | apply below_drew1 | refine below_set ?_ GE171.out) | exact HB.out)⟩
def argosyref13_SameKeys.l0 : Nat → List (S40) → List (S40) → Int → Option (Bool)
 | 0, _, _, _ => none
 | k + 1, x0, x1, x5 => if x5 < (x0.length : Int) then (if 0 ≤ x5 then (if x5 < (x1.length : Int) then (if (!(((rd_T40 x0 x5).f0) == ((rd_T40 x1 x5).f0)) || (!(((rd_T40 x0 x5).f1) == ((rd_T40 x1 x5).f1)) || (!(((rd_T40 x0 x5).f2) == ((rd_T40 x1 x5).f2))))) = true then (some false) else (argosyref13_SameKeys.l0 k x0 x1 (wrap64 (x5 + 1)))) else (none)) else (none)) else (some true)
def argosyref13_SameKeys.f (k : Nat) (l0 : List (S40)) (l1 : List (S40)) : Option (Bool) := if (l0.length : Int) = (l1.length : Int) then (argosyref13_SameKeys.l0 k l0 l1 0) else (some false)
theorem argosyref13_SameKeys.mono_l : ∀ k, (∀ y0 y1 y2, LeO (argosyref13_SameKeys.l0 k y0 y1 y2) (argosyref13_SameKeys.l0 (k + 1) y0 y1 y2))
 | 0 => fun _ _ _ r h => by simp [argosyref13_SameKeys.l0] at h
 | k + 1 => by
  have ih0 := argosyref13_SameKeys.mono_l k
  ·intro y0 y1 y2
   unfold argosyref13_SameKeys.l0
   repeat' first
   | (with_reducible exact ih0 _ _ _)
   | (with_reducible exact LeO.refl _)
   | (with_reducible exact LeO.none _)
   | (with_reducible refine LeO.ite ?_ ?_)
   | (with_reducible refine LeO.bind ?_ (fun _ => ?_))
   | exact ih0 _ _ _
   | exact LeO.none _
   | refine LeO.ite ?_ ?_
   | refine LeO.bind ?_ (fun _ => ?_)
theorem argosyref13_SameKeys.mono : ∀ a0 a1 k, LeO (argosyref13_SameKeys.f k a0 a1) (argosyref13_SameKeys.f (k + 1) a0 a1) := by
 intro a0 a1 k
 have ih0 := argosyref13_SameKeys.mono_l k
 unfold argosyref13_SameKeys.f
 repeat' first
   | (with_reducible exact ih0 _ _ _)
   | (with_reducible exact LeO.refl _)
   | (with_reducible exact LeO.none _)
   | (with_reducible refine LeO.ite ?_ ?_)
   | (with_reducible refine LeO.bind ?_ (fun _ => ?_))
   | exact ih0 _ _ _
   | exact LeO.none _
   | refine LeO.ite ?_ ?_
   | refine LeO.bind ?_ (fun _ => ?_)
set_option maxHeartbeats 8000000 in
set_option maxRecDepth 100000 in
theorem argosyref13_SameKeys.calls (k : Nat) (A0 : Option Addr) (c0 : Nat) (l0 : List (S40)) (A1 : Option Addr) (c1 : Nat) (l1 : List (S40)) (r : Bool) (w : World) (hr0 : Kd.C k40 w A0 l0.length l0) (hc0 : l0.length ≤ c0) (hr1 : Kd.C k40 w A1 l1.length l1) (hc1 : l1.length ≤ c1) (h : argosyref13_SameKeys.f k l0 l1 = some r) :
  Calls Try.prog 13 #[.slice A0 l0.length c0, .slice A1 l1.length c1] w fun e w' => e = .returned (.bool r) ∧ Drawn0 w w' := by
 have hu40 := Try.underlying40
 have HR0 := Aside0.mk hr0
 have HC0 := Aside0.mk hc0
 clear hr0 hc0
 have HR1 := Aside0.mk hr1
 have HC1 := Aside0.mk hc1
 clear hr1 hc1
 have H : (if (l0.length : Int) = (l1.length : Int) then (argosyref13_SameKeys.l0 k l0 l1 0) else (some false)) = some r := h
 clear h
 by_cases c3 : (l0.length : Int) = (l1.length : Int)
 ·rw [if_pos c3] at H
  have c3b0 : ((l0.length : Int) == (l1.length : Int)) = true := beq_iff_eq.mpr c3
  have c3b1 : ((l0.length : Int) != (l1.length : Int)) = false := bne_eq_false_iff_eq.mpr c3
  have c3b2 : (l0.length == l1.length) = true := by first | simpa using c3 | (simp at c3 ⊢; omega)
  clear c3
  have H' := Aside0.mk H
  clear H
  go_enter Try.func13, Try.ntmps13
  go_wp2
  repeat (go_quiet (fail); try go_wp2)
  go_loopg [5] k (fun kq v5 w' => ∃ (x5_1 : Int), v5 = .int .i64 x5_1 ∧ Aside0 (argosyref13_SameKeys.l0 kq l0 l1 x5_1 = some r) ∧ Aside0 (kq ≤ k) ∧ Drawn0 w w')
  case atStart => exact ⟨(0), (by first | rfl | (simp; done) | (simp [*]; done)), H', ⟨Nat.le_refl _⟩, by repeat (first | exact Drawn0.refl _ | apply Drawn0.step)⟩
  case round =>
   clear H'
   try clear c1
   try clear p2
   try clear c3
   try clear c3b0
   try clear c3b1
   try clear c3b2
   obtain ⟨x5_1, rfl, HA, HK1, ⟨m1, rfl⟩⟩ := hrel
   cases gk with
   | zero => exact absurd HA.out (by simp [argosyref13_SameKeys.l0])
   | succ k1 =>
    have H := HA.out
    clear HA
    simp only [argosyref13_SameKeys.l0] at H
    by_cases c4 : x5_1 < (l0.length : Int)
    ·rw [if_pos c4] at H
     have c4b0 : decide (x5_1 < (l0.length : Int)) = true := decide_eq_true c4
     clear c4
     by_cases c5 : 0 ≤ x5_1
     ·rw [if_pos c5] at H
      have c5b0 : decide (0 ≤ x5_1) = true := decide_eq_true c5
      clear c5
      by_cases c6 : x5_1 < (l1.length : Int)
      ·rw [if_pos c6] at H
       have c6b0 : decide (x5_1 < (l1.length : Int)) = true := decide_eq_true c6
       clear c6
       by_cases c7 : (!(((rd_T40 l0 x5_1).f0) == ((rd_T40 l1 x5_1).f0)) || (!(((rd_T40 l0 x5_1).f1) == ((rd_T40 l1 x5_1).f1)) || (!(((rd_T40 l0 x5_1).f2) == ((rd_T40 l1 x5_1).f2))))) = true
       ·rw [if_pos c7] at H
        have c7b0 : (!(((rd_T40 l0 x5_1).f0) == ((rd_T40 l1 x5_1).f0)) || (!(((rd_T40 l0 x5_1).f1) == ((rd_T40 l1 x5_1).f1)) || (!(((rd_T40 l0 x5_1).f2) == ((rd_T40 l1 x5_1).f2))))) = true := c7
        clear c7
        obtain rfl := Option.some.inj H
        have p175 : 0 ≤ (x5_1 : Int) := of_decide_eq_true (by first | (with_reducible assumption) | assumption)
        have q175 : x5_1 < (l0.length : Int) := of_decide_eq_true (by first | (with_reducible assumption) | assumption)
        obtain ⟨ad175, e175, hx175_0, hx175_1, hx175_2⟩ := at_T40 HR0.out x5_1 p175 q175
        cases e175
        replace p175 := eq_true p175
        replace q175 := eq_true q175
        have p176 : 0 ≤ (x5_1 : Int) := of_decide_eq_true (by first | (with_reducible assumption) | assumption)
        have q176 : x5_1 < (l1.length : Int) := of_decide_eq_true (by first | (with_reducible assumption) | assumption)
        obtain ⟨ad176, e176, hx176_0, hx176_1, hx176_2⟩ := at_T40 HR1.out x5_1 p176 q176
        cases e176
        replace p176 := eq_true p176
        replace q176 := eq_true q176
        go_wp2
        repeat (go_quiet (fail); try go_wp2)
        go_ret
        exact ⟨by first | rfl | (simp; done) | (simp [*]; done), by repeat (first | exact Drawn0.refl _ | apply Drawn0.step)⟩
       ·rw [if_neg c7] at H
        have c7b0 : (!(((rd_T40 l0 x5_1).f0) == ((rd_T40 l1 x5_1).f0)) || (!(((rd_T40 l0 x5_1).f1) == ((rd_T40 l1 x5_1).f1)) || (!(((rd_T40 l0 x5_1).f2) == ((rd_T40 l1 x5_1).f2))))) = false := by simpa using c7
        clear c7
        have H' := Aside0.mk H
        clear H
        have p175 : 0 ≤ (x5_1 : Int) := of_decide_eq_true (by first | (with_reducible assumption) | assumption)
        have q175 : x5_1 < (l0.length : Int) := of_decide_eq_true (by first | (with_reducible assumption) | assumption)
        obtain ⟨ad175, e175, hx175_0, hx175_1, hx175_2⟩ := at_T40 HR0.out x5_1 p175 q175
        cases e175
        replace p175 := eq_true p175
        replace q175 := eq_true q175
        have p176 : 0 ≤ (x5_1 : Int) := of_decide_eq_true (by first | (with_reducible assumption) | assumption)
        have q176 : x5_1 < (l1.length : Int) := of_decide_eq_true (by first | (with_reducible assumption) | assumption)
        obtain ⟨ad176, e176, hx176_0, hx176_1, hx176_2⟩ := at_T40 HR1.out x5_1 p176 q176
        cases e176
        replace p176 := eq_true p176
        replace q176 := eq_true q176
        go_wp2
        repeat (go_quiet (fail); try go_wp2)
        go_roundg k1
        case measure => have := HK1.out; omega
        case rel => exact ⟨(wrap64 (x5_1 + 1)), (by first | rfl | (simp; done) | (simp [*]; done)), H', ⟨by have := HK1.out; omega⟩, by repeat (first | exact Drawn0.refl _ | apply Drawn0.step)⟩
      ·rw [if_neg c6] at H
       exact absurd H (by simp)
     ·rw [if_neg c5] at H
      exact absurd H (by simp)
    ·rw [if_neg c4] at H
     have c4b0 : decide (x5_1 < (l0.length : Int)) = false := decide_eq_false c4
     clear c4
     obtain rfl := Option.some.inj H
     go_wp2
     repeat (go_quiet (fail); try go_wp2)
     go_ret
     exact ⟨by first | rfl | (simp; done) | (simp [*]; done), by repeat (first | exact Drawn0.refl _ | apply Drawn0.step)⟩
 ·rw [if_neg c3] at H
  have c3b0 : ((l0.length : Int) == (l1.length : Int)) = false := beq_eq_false_iff_ne.mpr c3
  have c3b1 : ((l0.length : Int) != (l1.length : Int)) = true := bne_iff_ne.mpr c3
  have c3b2 : (l0.length == l1.length) = false := by first | simpa using c3 | (simp at c3 ⊢; omega)
  obtain rfl := Option.some.inj H
  go_enter Try.func13, Try.ntmps13
  go_wp2
  repeat (go_quiet (fail); try go_wp2)
  go_ret
  exact ⟨by first | rfl | (simp; done) | (simp [*]; done), by repeat (first | exact Drawn0.refl _ | apply Drawn0.step)⟩
end Go.Proofs.Ytgilgicanggleab.F
end
