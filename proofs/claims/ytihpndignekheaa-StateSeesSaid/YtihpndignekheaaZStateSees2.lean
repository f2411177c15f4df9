-- Texts of this seat's, joined.
import Derived.Test.YtihpndignekheaaZStateSees1
import Derived.BigRegion
import Derived.WalkSmall
import Derived.Deep.RegionWith
import Derived.Shelf.Abstract
import Derived.Deep.RegionHeld2
import Derived.Deep.DeepCutAuto
import Derived.Deep.CutRange
import Derived.Recover
import Derived.Laws.RangeAny
import Derived.Lib.RuneCountTail
import Derived.Lib.BufferRune
import Derived.Lib.BufferKept
section
namespace Go.Proofs.Ytihpndignekheaa.F
open Go.RowKit Go.Proofs.YtihpndignekheaaW.PrintWords Go.Proofs.YtihpndignekheaaW.PrintLast Go.Proofs.YtihpndignekheaaW.PrintMore
attribute [local go_sem] max2_int min2_int max_two min_two max_three min_three max_four min_four
set_option linter.unusedVariables false
set_option linter.unusedSimpArgs false
mutual
def argosylaw14_small.l0 : Nat → Int → List (S37) → Option (Bool)
 | 0, _, _ => none
 | k + 1, x3, x102000 => if x3 < (x102000.length : Int) then (argosylaw14_small.j1 k x3 (decide (x3 < 70)) x102000) else (argosylaw14_small.j1 k x3 false x102000)
def argosylaw14_small.j1 : Nat → Int → Bool → List (S37) → Option (Bool)
 | 0, _, _, _ => none
 | k + 1, x3, x13, x102000 => if x13 = true then (if 0 ≤ x3 then (if x3 < (x102000.length : Int) then (if (((rd_T37 x102000 x3).f0).size : Int) > 200 then (some false) else (if (((rd_T37 x102000 x3).f1).size : Int) > 200 then (some false) else (if (((rd_T37 x102000 x3).f7).length : Int) > 100 then (some false) else (argosylaw14_small.l0 k (wrap64 (x3 + 1)) x102000)))) else (none)) else (none)) else (some (decide ((x102000.length : Int) ≤ 70)))
end
def argosylaw14_small.f (k : Nat) (l0_0 : List (S37)) : Option (Bool) := argosylaw14_small.l0 k 0 l0_0
set_option maxHeartbeats 8000000 in
set_option maxRecDepth 100000 in
theorem argosylaw14_small.calls (k : Nat) (A0_0 : Option Addr) (c0_0 : Nat) (l0_0 : List (S37)) (r : Bool) (w : World) (hr0_0 : Kd.C k37 w A0_0 l0_0.length l0_0) (hc0_0 : l0_0.length ≤ c0_0) (h : argosylaw14_small.f k l0_0 = some r) :
  Calls Try.prog 7 #[.agg #[.slice A0_0 l0_0.length c0_0]] w fun e w' => e = .returned (.bool r) ∧ Below w.heap.size w w' := by
 have hu24 := Try.underlying24
 have hu37 := Try.underlying37
 have HR0_0 := Aside0.mk hr0_0
 have HC0_0 := Aside0.mk hc0_0
 clear hr0_0 hc0_0
 have HB := Aside0.mk (Below.refl w.heap.size w)
 have H : (argosylaw14_small.l0 k 0 l0_0) = some r := h
 clear h
 have H' := Aside0.mk H
 clear H
 go_enter Try.func7, Try.ntmps7
 go_wp2_with (first | ((with_reducible refine gate_dst (N := 1) rfl ?_); (try (refine gate_guard (by rfl) ?_; dsimp only)); refine box_event ?hg (N := 1) ?hd (cs := #[.slice A0_0 l0_0.length c0_0]) (t := 24) ?hr ?_; (case hd => rfl); (case hg => rfl); (case hr => first | (go_simp; done) | (go_simp; rfl)); intro gb101 hg w2 hbox hb; have n0_ := Aside0.mk (below_step (by repeat (first | (with_reducible first | exact HB.out | apply below_alloc | apply pw_below_drewN | apply below_drew1) | exact HB.out)) hb); have n1_ := Aside0.mk (hbox); have n2_ := Aside0.mk ((by rw [hg]; exact (below_size (by repeat (first | (with_reducible first | exact HB.out | apply below_alloc | apply pw_below_drewN | apply below_drew1) | exact HB.out))) : w.heap.size ≤ gb101)); have n3_ := Aside0.mk ((by rw [hg]; exact (below_size (by repeat (first | (with_reducible first | exact HB.out | apply below_alloc | apply pw_below_drewN | apply below_drew1) | exact HB.out))) : w.heap.size ≤ gb101)); clear HB; have HB := n0_; have BK101 := n1_; have GW101 := n2_; have GE101 := n3_; clear n0_ n1_ n2_ n3_; clear hb hbox hg))
 go_loopg [3] k (fun kq v3 w' => ∃ (x3_1 : Int), v3 = .int .i64 x3_1 ∧ Aside0 (argosylaw14_small.l0 kq x3_1 l0_0 = some r) ∧ Aside0 (kq ≤ k) ∧ Aside0 (w'.heap[gb101]? = some (.cells #[(.slice A0_0 l0_0.length c0_0)] 24 (0, 0))) ∧ Aside0 (Below w.heap.size w w'))
 case atStart => exact ⟨(0), (by first | rfl | (simp; done) | (simp [*]; done)), H', ⟨Nat.le_refl _⟩, ⟨by (with_reducible repeat (first | refine blk_drewN ?_ _ | refine blk_drew ?_ | refine blk_alloc ?_ _)); exact BK101.out⟩, ⟨by repeat (first | (with_reducible first | exact HB.out | apply below_alloc | apply pw_below_drewN | apply below_drew1 | refine below_set ?_ GE101.out) | exact HB.out)⟩⟩
 case round =>
  clear H'
  try clear p2
  obtain ⟨x3_1, rfl, HA, HK1, BK101, HB⟩ := hrel
  cases gk with
  | zero => exact absurd HA.out (by simp [argosylaw14_small.l0])
  | succ k1 =>
   have H := HA.out
   clear HA
   simp only [argosylaw14_small.l0] at H
   have HC3 := Aside0.mk H
   clear H
   go_upto_region 2 with (fail)
   go_cut [13] (fun v13 wc => ∃ (kq : Nat) (x13_2 : Bool), v13 = .bool x13_2 ∧ Aside0 (argosylaw14_small.j1 kq x3_1 x13_2 l0_0 = some r) ∧ Aside0 (kq ≤ k1) ∧ Aside0 (wc.heap[gb101]? = some (.cells #[(.slice A0_0 l0_0.length c0_0)] 24 (0, 0))) ∧ Aside0 (Below w.heap.size w wc))
   case first =>
    have H := HC3.out
    clear HC3
    by_cases c4 : x3_1 < (l0_0.length : Int)
    ·rw [if_pos c4] at H
     have c4b0 : decide (x3_1 < (l0_0.length : Int)) = true := decide_eq_true c4
     clear c4
     (first | rw [c4b0] | (simp only [i64_w, i32_w]; rw [c4b0]) | skip)
     have H' := Aside0.mk H
     clear H
     have hcz5_0 : wr.cell? ⟨gb101, 0, none⟩ = some (.slice A0_0 l0_0.length c0_0) := (blk_cell BK101.out 0).trans rfl
     have hfz5_0 := blk_frozen BK101.out 0
     go_wp2
     go_meet
     case rel => exact ⟨_, (decide (x3_1 < 70)), (by first | rfl | (simp; done) | (simp [*]; done)), H', ⟨by have := HK1.out; first | omega | exact Nat.le_refl _⟩, ⟨by (with_reducible repeat (first | refine blk_drewN ?_ _ | refine blk_drew ?_ | refine blk_alloc ?_ _)); exact BK101.out⟩, ⟨by repeat (first | (with_reducible first | exact HB.out | apply below_alloc | apply pw_below_drewN | apply below_drew1 | refine below_set ?_ GE101.out) | exact HB.out)⟩⟩
    ·rw [if_neg c4] at H
     have c4b0 : decide (x3_1 < (l0_0.length : Int)) = false := decide_eq_false c4
     clear c4
     (first | rw [c4b0] | (simp only [i64_w, i32_w]; rw [c4b0]) | skip)
     have H' := Aside0.mk H
     clear H
     have hcz6_0 : wr.cell? ⟨gb101, 0, none⟩ = some (.slice A0_0 l0_0.length c0_0) := (blk_cell BK101.out 0).trans rfl
     have hfz6_0 := blk_frozen BK101.out 0
     go_wp2
     go_meet
     case rel => exact ⟨_, (false), (by first | rfl | (simp; done) | (simp [*]; done)), H', ⟨by have := HK1.out; first | omega | exact Nat.le_refl _⟩, ⟨by (with_reducible repeat (first | refine blk_drewN ?_ _ | refine blk_drew ?_ | refine blk_alloc ?_ _)); exact BK101.out⟩, ⟨by repeat (first | (with_reducible first | exact HB.out | apply below_alloc | apply pw_below_drewN | apply below_drew1 | refine below_set ?_ GE101.out) | exact HB.out)⟩⟩
   case rest =>
    clear HC3
    try clear p2
    try clear c4
    try clear c4b0
    try clear hcz5_0
    try clear hcz6_0
    try clear hfz5_0
    try clear hfz6_0
    try clear p2
    obtain ⟨kq, x13_2, rfl, HA, HJ2, BK101, HB⟩ := hcut
    cases kq with
    | zero => exact absurd HA.out (by simp [argosylaw14_small.j1])
    | succ kj2 =>
     have H := HA.out
     clear HA
     simp only [argosylaw14_small.j1] at H
     by_cases c7 : x13_2 = true
     ·subst c7
      have H1 : (if 0 ≤ x3_1 then (if x3_1 < (l0_0.length : Int) then (if (((rd_T37 l0_0 x3_1).f0).size : Int) > 200 then (some false) else (if (((rd_T37 l0_0 x3_1).f1).size : Int) > 200 then (some false) else (if (((rd_T37 l0_0 x3_1).f7).length : Int) > 100 then (some false) else (argosylaw14_small.l0 kj2 (wrap64 (x3_1 + 1)) l0_0)))) else (none)) else (none)) = some r := by rw [if_pos rfl] at H; exact H
      clear H
      have H := H1
      clear H1
      by_cases c8 : 0 ≤ x3_1
      ·rw [if_pos c8] at H
       have c8b0 : decide (0 ≤ x3_1) = true := decide_eq_true c8
       clear c8
       by_cases c9 : x3_1 < (l0_0.length : Int)
       ·rw [if_pos c9] at H
        have c9b0 : decide (x3_1 < (l0_0.length : Int)) = true := decide_eq_true c9
        clear c9
        by_cases c10 : (((rd_T37 l0_0 x3_1).f0).size : Int) > 200
        ·rw [if_pos c10] at H
         have c10b0 : decide (200 < (((rd_T37 l0_0 x3_1).f0).size : Int)) = true := decide_eq_true c10
         have c10b1 : decide (200 < ((rd_T37 l0_0 x3_1).f0).size) = true := decide_eq_true (by omega)
         clear c10
         obtain rfl := Option.some.inj H
         have hcz11_0 : wc.cell? ⟨gb101, 0, none⟩ = some (.slice A0_0 l0_0.length c0_0) := (blk_cell BK101.out 0).trans rfl
         have hfz11_0 := blk_frozen BK101.out 0
         have p102 : 0 ≤ (x3_1 : Int) := of_decide_eq_true (by first | (with_reducible assumption) | assumption)
         have q102 : x3_1 < (l0_0.length : Int) := of_decide_eq_true (by first | (with_reducible assumption) | assumption)
         obtain ⟨ad102, A102_7, c102_7, e102, hx102_0, hx102_1, hx102_2, hx102_3, hx102_4, hx102_5, hx102_6, hx102_7, hl102_7, hi102_7⟩ := at_T37 HR0_0.out x3_1 p102 q102
         cases e102
         replace hx102_0 := (HB.out.cell (World.block_lt_of_cell? w _ hx102_0)).trans hx102_0
         replace hx102_1 := (HB.out.cell (World.block_lt_of_cell? w _ hx102_1)).trans hx102_1
         replace hx102_2 := (HB.out.cell (World.block_lt_of_cell? w _ hx102_2)).trans hx102_2
         replace hx102_3 := (HB.out.cell (World.block_lt_of_cell? w _ hx102_3)).trans hx102_3
         replace hx102_4 := (HB.out.cell (World.block_lt_of_cell? w _ hx102_4)).trans hx102_4
         replace hx102_5 := (HB.out.cell (World.block_lt_of_cell? w _ hx102_5)).trans hx102_5
         replace hx102_6 := (HB.out.cell (World.block_lt_of_cell? w _ hx102_6)).trans hx102_6
         replace hx102_7 := (HB.out.cell (World.block_lt_of_cell? w _ hx102_7)).trans hx102_7
         have HR102_7 := Aside0.mk hi102_7
         have HC102_7 := Aside0.mk hl102_7
         clear hi102_7 hl102_7
         replace p102 := eq_true p102
         replace q102 := eq_true q102
         go_wp2_with (first | ((with_reducible refine gate_dst (N := 4) rfl ?_); (try (refine gate_guard (by rfl) ?_; dsimp only)); refine box_event ?hg (N := 4) ?hd (cs := #[.string (⟨#[]⟩ : ByteArray), .string (⟨#[]⟩ : ByteArray), .bool false, .bool false, .int .i64 0, .int .i64 0, .int .i64 0, .slice none 0 0]) (t := 37) ?hr ?_; (case hd => rfl); (case hg => rfl); (case hr => first | (go_simp; done) | (go_simp; rfl)); intro gb103 hg w12 hbox hb; have n0_ := Aside0.mk (blk_below (g := gb101) (o := .cells #[.slice (some ad102) l0_0.length c0_0] 24 (0, 0)) (by (with_reducible repeat (first | refine blk_drewN ?_ _ | refine blk_drew ?_ | refine blk_alloc ?_ _)); exact BK101.out) hb); have n1_ := Aside0.mk (below_step (by repeat (first | (with_reducible first | exact HB.out | apply below_alloc | apply pw_below_drewN | apply below_drew1 | refine below_set ?_ GE101.out) | exact HB.out)) hb); have n2_ := Aside0.mk (hbox); have n3_ := Aside0.mk ((by rw [hg]; exact (below_size (by repeat (first | (with_reducible first | exact HB.out | apply below_alloc | apply pw_below_drewN | apply below_drew1 | refine below_set ?_ GE101.out) | exact HB.out))) : w.heap.size ≤ gb103)); have n4_ := Aside0.mk ((by rw [hg]; exact (below_size (by repeat (first | (with_reducible first | exact HB.out | apply below_alloc | apply pw_below_drewN | apply below_drew1 | refine below_set ?_ GE101.out) | exact HB.out))) : w.heap.size ≤ gb103)); have n5_ := Aside0.mk ((by rw [hg]; exact Nat.ne_of_lt (blk_lt (g := gb101) (o := .cells #[.slice (some ad102) l0_0.length c0_0] 24 (0, 0)) (by (with_reducible repeat (first | refine blk_drewN ?_ _ | refine blk_drew ?_ | refine blk_alloc ?_ _)); exact BK101.out)) : gb101 ≠ gb103)); have n6_ := Aside0.mk ((by rw [hg]; exact Nat.ne_of_gt (blk_lt (g := gb101) (o := .cells #[.slice (some ad102) l0_0.length c0_0] 24 (0, 0)) (by (with_reducible repeat (first | refine blk_drewN ?_ _ | refine blk_drew ?_ | refine blk_alloc ?_ _)); exact BK101.out)) : gb103 ≠ gb101)); clear BK101; clear HB; have BK101 := n0_; have HB := n1_; have BK103 := n2_; have GW103 := n3_; have GE103 := n4_; have NB101_103 := n5_; have NB103_101 := n6_; clear n0_ n1_ n2_ n3_ n4_ n5_ n6_; clear hb hbox hg; have hnb13 := NB103_101.out; have hnc13 := NB101_103.out; have hcz14_0 : w12.cell? ⟨gb103, 0, none⟩ = some (.string (⟨#[]⟩ : ByteArray)) := (blk_cell BK103.out 0).trans rfl; have hcz14_1 : w12.cell? ⟨gb103, 1, none⟩ = some (.string (⟨#[]⟩ : ByteArray)) := (blk_cell BK103.out 1).trans rfl; have hcz14_2 : w12.cell? ⟨gb103, 2, none⟩ = some (.bool false) := (blk_cell BK103.out 2).trans rfl; have hcz14_3 : w12.cell? ⟨gb103, 3, none⟩ = some (.bool false) := (blk_cell BK103.out 3).trans rfl; have hcz14_4 : w12.cell? ⟨gb103, 4, none⟩ = some (.int .i64 0) := (blk_cell BK103.out 4).trans rfl; have hcz14_5 : w12.cell? ⟨gb103, 5, none⟩ = some (.int .i64 0) := (blk_cell BK103.out 5).trans rfl; have hcz14_6 : w12.cell? ⟨gb103, 6, none⟩ = some (.int .i64 0) := (blk_cell BK103.out 6).trans rfl; have hcz14_7 : w12.cell? ⟨gb103, 7, none⟩ = some (.slice none 0 0) := (blk_cell BK103.out 7).trans rfl; have hfz14_0 := blk_frozen BK103.out 0; have hfz14_1 := blk_frozen BK103.out 1; have hfz14_2 := blk_frozen BK103.out 2; have hfz14_3 := blk_frozen BK103.out 3; have hfz14_4 := blk_frozen BK103.out 4; have hfz14_5 := blk_frozen BK103.out 5; have hfz14_6 := blk_frozen BK103.out 6; have hfz14_7 := blk_frozen BK103.out 7))
         go_ret
         exact ⟨by first | rfl | (simp [errW_none, errW_some] <;> rfl) | (simp [*, errW_none, errW_some] <;> rfl), by repeat (first | (with_reducible first | exact HB.out | apply below_alloc | apply pw_below_drewN | apply below_drew1 | refine below_set ?_ GE101.out | refine below_set ?_ GE103.out) | exact HB.out)⟩
        ·rw [if_neg c10] at H
         have c10b0 : decide (200 < (((rd_T37 l0_0 x3_1).f0).size : Int)) = false := decide_eq_false c10
         have c10b1 : decide (200 < ((rd_T37 l0_0 x3_1).f0).size) = false := decide_eq_false (by omega)
         clear c10
         by_cases c15 : (((rd_T37 l0_0 x3_1).f1).size : Int) > 200
         ·rw [if_pos c15] at H
          have c15b0 : decide (200 < (((rd_T37 l0_0 x3_1).f1).size : Int)) = true := decide_eq_true c15
          have c15b1 : decide (200 < ((rd_T37 l0_0 x3_1).f1).size) = true := decide_eq_true (by omega)
          clear c15
          obtain rfl := Option.some.inj H
          have hcz16_0 : wc.cell? ⟨gb101, 0, none⟩ = some (.slice A0_0 l0_0.length c0_0) := (blk_cell BK101.out 0).trans rfl
          have hfz16_0 := blk_frozen BK101.out 0
          have p102 : 0 ≤ (x3_1 : Int) := of_decide_eq_true (by first | (with_reducible assumption) | assumption)
          have q102 : x3_1 < (l0_0.length : Int) := of_decide_eq_true (by first | (with_reducible assumption) | assumption)
          obtain ⟨ad102, A102_7, c102_7, e102, hx102_0, hx102_1, hx102_2, hx102_3, hx102_4, hx102_5, hx102_6, hx102_7, hl102_7, hi102_7⟩ := at_T37 HR0_0.out x3_1 p102 q102
          cases e102
          replace hx102_0 := (HB.out.cell (World.block_lt_of_cell? w _ hx102_0)).trans hx102_0
          replace hx102_1 := (HB.out.cell (World.block_lt_of_cell? w _ hx102_1)).trans hx102_1
          replace hx102_2 := (HB.out.cell (World.block_lt_of_cell? w _ hx102_2)).trans hx102_2
          replace hx102_3 := (HB.out.cell (World.block_lt_of_cell? w _ hx102_3)).trans hx102_3
          replace hx102_4 := (HB.out.cell (World.block_lt_of_cell? w _ hx102_4)).trans hx102_4
          replace hx102_5 := (HB.out.cell (World.block_lt_of_cell? w _ hx102_5)).trans hx102_5
          replace hx102_6 := (HB.out.cell (World.block_lt_of_cell? w _ hx102_6)).trans hx102_6
          replace hx102_7 := (HB.out.cell (World.block_lt_of_cell? w _ hx102_7)).trans hx102_7
          have HR102_7 := Aside0.mk hi102_7
          have HC102_7 := Aside0.mk hl102_7
          clear hi102_7 hl102_7
          replace p102 := eq_true p102
          replace q102 := eq_true q102
          go_wp2_with (first | ((with_reducible refine gate_dst (N := 4) rfl ?_); (try (refine gate_guard (by rfl) ?_; dsimp only)); refine box_event ?hg (N := 4) ?hd (cs := #[.string (⟨#[]⟩ : ByteArray), .string (⟨#[]⟩ : ByteArray), .bool false, .bool false, .int .i64 0, .int .i64 0, .int .i64 0, .slice none 0 0]) (t := 37) ?hr ?_; (case hd => rfl); (case hg => rfl); (case hr => first | (go_simp; done) | (go_simp; rfl)); intro gb103 hg w17 hbox hb; have n0_ := Aside0.mk (blk_below (g := gb101) (o := .cells #[.slice (some ad102) l0_0.length c0_0] 24 (0, 0)) (by (with_reducible repeat (first | refine blk_drewN ?_ _ | refine blk_drew ?_ | refine blk_alloc ?_ _)); exact BK101.out) hb); have n1_ := Aside0.mk (below_step (by repeat (first | (with_reducible first | exact HB.out | apply below_alloc | apply pw_below_drewN | apply below_drew1 | refine below_set ?_ GE101.out) | exact HB.out)) hb); have n2_ := Aside0.mk (hbox); have n3_ := Aside0.mk ((by rw [hg]; exact (below_size (by repeat (first | (with_reducible first | exact HB.out | apply below_alloc | apply pw_below_drewN | apply below_drew1 | refine below_set ?_ GE101.out) | exact HB.out))) : w.heap.size ≤ gb103)); have n4_ := Aside0.mk ((by rw [hg]; exact (below_size (by repeat (first | (with_reducible first | exact HB.out | apply below_alloc | apply pw_below_drewN | apply below_drew1 | refine below_set ?_ GE101.out) | exact HB.out))) : w.heap.size ≤ gb103)); have n5_ := Aside0.mk ((by rw [hg]; exact Nat.ne_of_lt (blk_lt (g := gb101) (o := .cells #[.slice (some ad102) l0_0.length c0_0] 24 (0, 0)) (by (with_reducible repeat (first | refine blk_drewN ?_ _ | refine blk_drew ?_ | refine blk_alloc ?_ _)); exact BK101.out)) : gb101 ≠ gb103)); have n6_ := Aside0.mk ((by rw [hg]; exact Nat.ne_of_gt (blk_lt (g := gb101) (o := .cells #[.slice (some ad102) l0_0.length c0_0] 24 (0, 0)) (by (with_reducible repeat (first | refine blk_drewN ?_ _ | refine blk_drew ?_ | refine blk_alloc ?_ _)); exact BK101.out)) : gb103 ≠ gb101)); clear BK101; clear HB; have BK101 := n0_; have HB := n1_; have BK103 := n2_; have GW103 := n3_; have GE103 := n4_; have NB101_103 := n5_; have NB103_101 := n6_; clear n0_ n1_ n2_ n3_ n4_ n5_ n6_; clear hb hbox hg; have hnb18 := NB103_101.out; have hnc18 := NB101_103.out; have hcz19_0 : w17.cell? ⟨gb103, 0, none⟩ = some (.string (⟨#[]⟩ : ByteArray)) := (blk_cell BK103.out 0).trans rfl; have hcz19_1 : w17.cell? ⟨gb103, 1, none⟩ = some (.string (⟨#[]⟩ : ByteArray)) := (blk_cell BK103.out 1).trans rfl; have hcz19_2 : w17.cell? ⟨gb103, 2, none⟩ = some (.bool false) := (blk_cell BK103.out 2).trans rfl; have hcz19_3 : w17.cell? ⟨gb103, 3, none⟩ = some (.bool false) := (blk_cell BK103.out 3).trans rfl; have hcz19_4 : w17.cell? ⟨gb103, 4, none⟩ = some (.int .i64 0) := (blk_cell BK103.out 4).trans rfl; have hcz19_5 : w17.cell? ⟨gb103, 5, none⟩ = some (.int .i64 0) := (blk_cell BK103.out 5).trans rfl; have hcz19_6 : w17.cell? ⟨gb103, 6, none⟩ = some (.int .i64 0) := (blk_cell BK103.out 6).trans rfl; have hcz19_7 : w17.cell? ⟨gb103, 7, none⟩ = some (.slice none 0 0) := (blk_cell BK103.out 7).trans rfl; have hfz19_0 := blk_frozen BK103.out 0; have hfz19_1 := blk_frozen BK103.out 1; have hfz19_2 := blk_frozen BK103.out 2; have hfz19_3 := blk_frozen BK103.out 3; have hfz19_4 := blk_frozen BK103.out 4; have hfz19_5 := blk_frozen BK103.out 5; have hfz19_6 := blk_frozen BK103.out 6; have hfz19_7 := blk_frozen BK103.out 7))
          go_ret
          exact ⟨by first | rfl | (simp [errW_none, errW_some] <;> rfl) | (simp [*, errW_none, errW_some] <;> rfl), by repeat (first | (with_reducible first | exact HB.out | apply below_alloc | apply pw_below_drewN | apply below_drew1 | refine below_set ?_ GE101.out | refine below_set ?_ GE103.out) | exact HB.out)⟩
         ·rw [if_neg c15] at H
          have c15b0 : decide (200 < (((rd_T37 l0_0 x3_1).f1).size : Int)) = false := decide_eq_false c15
          have c15b1 : decide (200 < ((rd_T37 l0_0 x3_1).f1).size) = false := decide_eq_false (by omega)
          clear c15
          by_cases c20 : (((rd_T37 l0_0 x3_1).f7).length : Int) > 100
          ·rw [if_pos c20] at H
           have c20b0 : decide (100 < (((rd_T37 l0_0 x3_1).f7).length : Int)) = true := decide_eq_true c20
           have c20b1 : decide (100 < ((rd_T37 l0_0 x3_1).f7).length) = true := decide_eq_true (by omega)
           clear c20
           obtain rfl := Option.some.inj H
           have hcz21_0 : wc.cell? ⟨gb101, 0, none⟩ = some (.slice A0_0 l0_0.length c0_0) := (blk_cell BK101.out 0).trans rfl
           have hfz21_0 := blk_frozen BK101.out 0
           have p102 : 0 ≤ (x3_1 : Int) := of_decide_eq_true (by first | (with_reducible assumption) | assumption)
           have q102 : x3_1 < (l0_0.length : Int) := of_decide_eq_true (by first | (with_reducible assumption) | assumption)
           obtain ⟨ad102, A102_7, c102_7, e102, hx102_0, hx102_1, hx102_2, hx102_3, hx102_4, hx102_5, hx102_6, hx102_7, hl102_7, hi102_7⟩ := at_T37 HR0_0.out x3_1 p102 q102
           cases e102
           replace hx102_0 := (HB.out.cell (World.block_lt_of_cell? w _ hx102_0)).trans hx102_0
           replace hx102_1 := (HB.out.cell (World.block_lt_of_cell? w _ hx102_1)).trans hx102_1
           replace hx102_2 := (HB.out.cell (World.block_lt_of_cell? w _ hx102_2)).trans hx102_2
           replace hx102_3 := (HB.out.cell (World.block_lt_of_cell? w _ hx102_3)).trans hx102_3
           replace hx102_4 := (HB.out.cell (World.block_lt_of_cell? w _ hx102_4)).trans hx102_4
           replace hx102_5 := (HB.out.cell (World.block_lt_of_cell? w _ hx102_5)).trans hx102_5
           replace hx102_6 := (HB.out.cell (World.block_lt_of_cell? w _ hx102_6)).trans hx102_6
           replace hx102_7 := (HB.out.cell (World.block_lt_of_cell? w _ hx102_7)).trans hx102_7
           have HR102_7 := Aside0.mk hi102_7
           have HC102_7 := Aside0.mk hl102_7
           clear hi102_7 hl102_7
           replace p102 := eq_true p102
           replace q102 := eq_true q102
           go_wp2_with (first | ((with_reducible refine gate_dst (N := 4) rfl ?_); (try (refine gate_guard (by rfl) ?_; dsimp only)); refine box_event ?hg (N := 4) ?hd (cs := #[.string (⟨#[]⟩ : ByteArray), .string (⟨#[]⟩ : ByteArray), .bool false, .bool false, .int .i64 0, .int .i64 0, .int .i64 0, .slice none 0 0]) (t := 37) ?hr ?_; (case hd => rfl); (case hg => rfl); (case hr => first | (go_simp; done) | (go_simp; rfl)); intro gb103 hg w22 hbox hb; have n0_ := Aside0.mk (blk_below (g := gb101) (o := .cells #[.slice (some ad102) l0_0.length c0_0] 24 (0, 0)) (by (with_reducible repeat (first | refine blk_drewN ?_ _ | refine blk_drew ?_ | refine blk_alloc ?_ _)); exact BK101.out) hb); have n1_ := Aside0.mk (below_step (by repeat (first | (with_reducible first | exact HB.out | apply below_alloc | apply pw_below_drewN | apply below_drew1 | refine below_set ?_ GE101.out) | exact HB.out)) hb); have n2_ := Aside0.mk (hbox); have n3_ := Aside0.mk ((by rw [hg]; exact (below_size (by repeat (first | (with_reducible first | exact HB.out | apply below_alloc | apply pw_below_drewN | apply below_drew1 | refine below_set ?_ GE101.out) | exact HB.out))) : w.heap.size ≤ gb103)); have n4_ := Aside0.mk ((by rw [hg]; exact (below_size (by repeat (first | (with_reducible first | exact HB.out | apply below_alloc | apply pw_below_drewN | apply below_drew1 | refine below_set ?_ GE101.out) | exact HB.out))) : w.heap.size ≤ gb103)); have n5_ := Aside0.mk ((by rw [hg]; exact Nat.ne_of_lt (blk_lt (g := gb101) (o := .cells #[.slice (some ad102) l0_0.length c0_0] 24 (0, 0)) (by (with_reducible repeat (first | refine blk_drewN ?_ _ | refine blk_drew ?_ | refine blk_alloc ?_ _)); exact BK101.out)) : gb101 ≠ gb103)); have n6_ := Aside0.mk ((by rw [hg]; exact Nat.ne_of_gt (blk_lt (g := gb101) (o := .cells #[.slice (some ad102) l0_0.length c0_0] 24 (0, 0)) (by (with_reducible repeat (first | refine blk_drewN ?_ _ | refine blk_drew ?_ | refine blk_alloc ?_ _)); exact BK101.out)) : gb103 ≠ gb101)); clear BK101; clear HB; have BK101 := n0_; have HB := n1_; have BK103 := n2_; have GW103 := n3_; have GE103 := n4_; have NB101_103 := n5_; have NB103_101 := n6_; clear n0_ n1_ n2_ n3_ n4_ n5_ n6_; clear hb hbox hg; have hnb23 := NB103_101.out; have hnc23 := NB101_103.out; have hcz24_0 : w22.cell? ⟨gb103, 0, none⟩ = some (.string (⟨#[]⟩ : ByteArray)) := (blk_cell BK103.out 0).trans rfl; have hcz24_1 : w22.cell? ⟨gb103, 1, none⟩ = some (.string (⟨#[]⟩ : ByteArray)) := (blk_cell BK103.out 1).trans rfl; have hcz24_2 : w22.cell? ⟨gb103, 2, none⟩ = some (.bool false) := (blk_cell BK103.out 2).trans rfl; have hcz24_3 : w22.cell? ⟨gb103, 3, none⟩ = some (.bool false) := (blk_cell BK103.out 3).trans rfl; have hcz24_4 : w22.cell? ⟨gb103, 4, none⟩ = some (.int .i64 0) := (blk_cell BK103.out 4).trans rfl; have hcz24_5 : w22.cell? ⟨gb103, 5, none⟩ = some (.int .i64 0) := (blk_cell BK103.out 5).trans rfl; have hcz24_6 : w22.cell? ⟨gb103, 6, none⟩ = some (.int .i64 0) := (blk_cell BK103.out 6).trans rfl; have hcz24_7 : w22.cell? ⟨gb103, 7, none⟩ = some (.slice none 0 0) := (blk_cell BK103.out 7).trans rfl; have hfz24_0 := blk_frozen BK103.out 0; have hfz24_1 := blk_frozen BK103.out 1; have hfz24_2 := blk_frozen BK103.out 2; have hfz24_3 := blk_frozen BK103.out 3; have hfz24_4 := blk_frozen BK103.out 4; have hfz24_5 := blk_frozen BK103.out 5; have hfz24_6 := blk_frozen BK103.out 6; have hfz24_7 := blk_frozen BK103.out 7))
           go_ret
           exact ⟨by first | rfl | (simp [errW_none, errW_some] <;> rfl) | (simp [*, errW_none, errW_some] <;> rfl), by repeat (first | (with_reducible first | exact HB.out | apply below_alloc | apply pw_below_drewN | apply below_drew1 | refine below_set ?_ GE101.out | refine below_set ?_ GE103.out) | exact HB.out)⟩
          ·rw [if_neg c20] at H
           have c20b0 : decide (100 < (((rd_T37 l0_0 x3_1).f7).length : Int)) = false := decide_eq_false c20
           have c20b1 : decide (100 < ((rd_T37 l0_0 x3_1).f7).length) = false := decide_eq_false (by omega)
           clear c20
           have H' := Aside0.mk H
           clear H
           have hcz25_0 : wc.cell? ⟨gb101, 0, none⟩ = some (.slice A0_0 l0_0.length c0_0) := (blk_cell BK101.out 0).trans rfl
           have hfz25_0 := blk_frozen BK101.out 0
           have p102 : 0 ≤ (x3_1 : Int) := of_decide_eq_true (by first | (with_reducible assumption) | assumption)
           have q102 : x3_1 < (l0_0.length : Int) := of_decide_eq_true (by first | (with_reducible assumption) | assumption)
           obtain ⟨ad102, A102_7, c102_7, e102, hx102_0, hx102_1, hx102_2, hx102_3, hx102_4, hx102_5, hx102_6, hx102_7, hl102_7, hi102_7⟩ := at_T37 HR0_0.out x3_1 p102 q102
           cases e102
           replace hx102_0 := (HB.out.cell (World.block_lt_of_cell? w _ hx102_0)).trans hx102_0
           replace hx102_1 := (HB.out.cell (World.block_lt_of_cell? w _ hx102_1)).trans hx102_1
           replace hx102_2 := (HB.out.cell (World.block_lt_of_cell? w _ hx102_2)).trans hx102_2
           replace hx102_3 := (HB.out.cell (World.block_lt_of_cell? w _ hx102_3)).trans hx102_3
           replace hx102_4 := (HB.out.cell (World.block_lt_of_cell? w _ hx102_4)).trans hx102_4
           replace hx102_5 := (HB.out.cell (World.block_lt_of_cell? w _ hx102_5)).trans hx102_5
           replace hx102_6 := (HB.out.cell (World.block_lt_of_cell? w _ hx102_6)).trans hx102_6
           replace hx102_7 := (HB.out.cell (World.block_lt_of_cell? w _ hx102_7)).trans hx102_7
           have HR102_7 := Aside0.mk hi102_7
           have HC102_7 := Aside0.mk hl102_7
           clear hi102_7 hl102_7
           replace p102 := eq_true p102
           replace q102 := eq_true q102
           go_wp2_with (first | ((with_reducible refine gate_dst (N := 4) rfl ?_); (try (refine gate_guard (by rfl) ?_; dsimp only)); refine box_event ?hg (N := 4) ?hd (cs := #[.string (⟨#[]⟩ : ByteArray), .string (⟨#[]⟩ : ByteArray), .bool false, .bool false, .int .i64 0, .int .i64 0, .int .i64 0, .slice none 0 0]) (t := 37) ?hr ?_; (case hd => rfl); (case hg => rfl); (case hr => first | (go_simp; done) | (go_simp; rfl)); intro gb103 hg w26 hbox hb; have n0_ := Aside0.mk (blk_below (g := gb101) (o := .cells #[.slice (some ad102) l0_0.length c0_0] 24 (0, 0)) (by (with_reducible repeat (first | refine blk_drewN ?_ _ | refine blk_drew ?_ | refine blk_alloc ?_ _)); exact BK101.out) hb); have n1_ := Aside0.mk (below_step (by repeat (first | (with_reducible first | exact HB.out | apply below_alloc | apply pw_below_drewN | apply below_drew1 | refine below_set ?_ GE101.out) | exact HB.out)) hb); have n2_ := Aside0.mk (hbox); have n3_ := Aside0.mk ((by rw [hg]; exact (below_size (by repeat (first | (with_reducible first | exact HB.out | apply below_alloc | apply pw_below_drewN | apply below_drew1 | refine below_set ?_ GE101.out) | exact HB.out))) : w.heap.size ≤ gb103)); have n4_ := Aside0.mk ((by rw [hg]; exact (below_size (by repeat (first | (with_reducible first | exact HB.out | apply below_alloc | apply pw_below_drewN | apply below_drew1 | refine below_set ?_ GE101.out) | exact HB.out))) : w.heap.size ≤ gb103)); have n5_ := Aside0.mk ((by rw [hg]; exact Nat.ne_of_lt (blk_lt (g := gb101) (o := .cells #[.slice (some ad102) l0_0.length c0_0] 24 (0, 0)) (by (with_reducible repeat (first | refine blk_drewN ?_ _ | refine blk_drew ?_ | refine blk_alloc ?_ _)); exact BK101.out)) : gb101 ≠ gb103)); have n6_ := Aside0.mk ((by rw [hg]; exact Nat.ne_of_gt (blk_lt (g := gb101) (o := .cells #[.slice (some ad102) l0_0.length c0_0] 24 (0, 0)) (by (with_reducible repeat (first | refine blk_drewN ?_ _ | refine blk_drew ?_ | refine blk_alloc ?_ _)); exact BK101.out)) : gb103 ≠ gb101)); clear BK101; clear HB; have BK101 := n0_; have HB := n1_; have BK103 := n2_; have GW103 := n3_; have GE103 := n4_; have NB101_103 := n5_; have NB103_101 := n6_; clear n0_ n1_ n2_ n3_ n4_ n5_ n6_; clear hb hbox hg; have hnb27 := NB103_101.out; have hnc27 := NB101_103.out; have hcz28_0 : w26.cell? ⟨gb103, 0, none⟩ = some (.string (⟨#[]⟩ : ByteArray)) := (blk_cell BK103.out 0).trans rfl; have hcz28_1 : w26.cell? ⟨gb103, 1, none⟩ = some (.string (⟨#[]⟩ : ByteArray)) := (blk_cell BK103.out 1).trans rfl; have hcz28_2 : w26.cell? ⟨gb103, 2, none⟩ = some (.bool false) := (blk_cell BK103.out 2).trans rfl; have hcz28_3 : w26.cell? ⟨gb103, 3, none⟩ = some (.bool false) := (blk_cell BK103.out 3).trans rfl; have hcz28_4 : w26.cell? ⟨gb103, 4, none⟩ = some (.int .i64 0) := (blk_cell BK103.out 4).trans rfl; have hcz28_5 : w26.cell? ⟨gb103, 5, none⟩ = some (.int .i64 0) := (blk_cell BK103.out 5).trans rfl; have hcz28_6 : w26.cell? ⟨gb103, 6, none⟩ = some (.int .i64 0) := (blk_cell BK103.out 6).trans rfl; have hcz28_7 : w26.cell? ⟨gb103, 7, none⟩ = some (.slice none 0 0) := (blk_cell BK103.out 7).trans rfl; have hfz28_0 := blk_frozen BK103.out 0; have hfz28_1 := blk_frozen BK103.out 1; have hfz28_2 := blk_frozen BK103.out 2; have hfz28_3 := blk_frozen BK103.out 3; have hfz28_4 := blk_frozen BK103.out 4; have hfz28_5 := blk_frozen BK103.out 5; have hfz28_6 := blk_frozen BK103.out 6; have hfz28_7 := blk_frozen BK103.out 7))
           go_roundg kj2
           case measure => have := HK1.out; have := HJ2.out; omega
           case rel => exact ⟨(wrap64 (x3_1 + 1)), (by first | rfl | (simp; done) | (simp [*]; done)), H', ⟨by have := HK1.out; have := HJ2.out; omega⟩, ⟨by (with_reducible repeat (first | refine blk_drewN ?_ _ | refine blk_drew ?_ | refine blk_alloc ?_ _)); refine blk_far ?_ NB101_103.out _; (with_reducible repeat (first | refine blk_drewN ?_ _ | refine blk_drew ?_ | refine blk_alloc ?_ _)); refine blk_far ?_ NB101_103.out _; (with_reducible repeat (first | refine blk_drewN ?_ _ | refine blk_drew ?_ | refine blk_alloc ?_ _)); refine blk_far ?_ NB101_103.out _; (with_reducible repeat (first | refine blk_drewN ?_ _ | refine blk_drew ?_ | refine blk_alloc ?_ _)); refine blk_far ?_ NB101_103.out _; (with_reducible repeat (first | refine blk_drewN ?_ _ | refine blk_drew ?_ | refine blk_alloc ?_ _)); refine blk_far ?_ NB101_103.out _; (with_reducible repeat (first | refine blk_drewN ?_ _ | refine blk_drew ?_ | refine blk_alloc ?_ _)); refine blk_far ?_ NB101_103.out _; (with_reducible repeat (first | refine blk_drewN ?_ _ | refine blk_drew ?_ | refine blk_alloc ?_ _)); refine blk_far ?_ NB101_103.out _; (with_reducible repeat (first | refine blk_drewN ?_ _ | refine blk_drew ?_ | refine blk_alloc ?_ _)); refine blk_far ?_ NB101_103.out _; (with_reducible repeat (first | refine blk_drewN ?_ _ | refine blk_drew ?_ | refine blk_alloc ?_ _)); exact BK101.out⟩, ⟨by repeat (first | (with_reducible first | exact HB.out | apply below_alloc | apply pw_below_drewN | apply below_drew1 | refine below_set ?_ GE101.out | refine below_set ?_ GE103.out) | exact HB.out)⟩⟩
       ·rw [if_neg c9] at H
        exact absurd H (by simp)
      ·rw [if_neg c8] at H
       exact absurd H (by simp)
     ·replace c7 := Bool.eq_false_iff.mpr c7
      subst c7
      have H1 : (some (decide ((l0_0.length : Int) ≤ 70))) = some r := by rw [if_neg (show ¬ (false = true) by decide)] at H; exact H
      clear H
      have H := H1
      clear H1
      obtain rfl := Option.some.inj H
      have hcz29_0 : wc.cell? ⟨gb101, 0, none⟩ = some (.slice A0_0 l0_0.length c0_0) := (blk_cell BK101.out 0).trans rfl
      have hfz29_0 := blk_frozen BK101.out 0
      go_wp2
      go_ret
      exact ⟨by first | rfl | (simp [errW_none, errW_some] <;> rfl) | (simp [*, errW_none, errW_some] <;> rfl), by repeat (first | (with_reducible first | exact HB.out | apply below_alloc | apply pw_below_drewN | apply below_drew1 | refine below_set ?_ GE101.out) | exact HB.out)⟩
mutual
def syntax_Count.l0 : Nat → Int → List (S82) → Int → Int → Option (Int)
 | 0, _, _, _, _ => none
 | k + 1, x3, x9, x10, x11 => if x11 < x10 then (if 0 ≤ x11 then (if x11 < (x9.length : Int) then (syntax_Count.l1 k (wrap64 (x3 + (((rd_T82 x9 x11).f0).length : Int))) x9 x10 x11 ((rd_T82 x9 x11).f0) (((rd_T82 x9 x11).f0).length : Int) 0) else (none)) else (none)) else (some x3)
def syntax_Count.l1 : Nat → Int → List (S82) → Int → Int → List (S79) → Int → Int → Option (Int)
 | 0, _, _, _, _, _, _, _ => none
 | k + 1, x3, x9, x10, x11, x21, x22, x23 => if x23 < x22 then (if 0 ≤ x23 then (if x23 < (x21.length : Int) then ((syntax_Count.f k (⟨#[]⟩ : ByteArray) ((rd_T79 x21 x23).f5)).bind fun t109 => (syntax_Count.l1 k (wrap64 (x3 + t109)) x9 x10 x11 x21 x22 (wrap64 (x23 + 1)))) else (none)) else (none)) else (syntax_Count.l0 k x3 x9 x10 (wrap64 (x11 + 1)))
def syntax_Count.f : Nat → ByteArray → List (S82) → Option (Int)
 | 0, _, _ => none
 | k + 1, a0_0, l0_1 => syntax_Count.l0 k 0 l0_1 (l0_1.length : Int) 0
end
set_option maxHeartbeats 8000000 in
set_option maxRecDepth 100000 in
theorem syntax_Count.calls (k : Nat) : ∀ (a0_0 : ByteArray) (A0_1 : Option Addr) (c0_1 : Nat) (l0_1 : List (S82)) (r : Int) (w : World) (hr0_1 : Kd.C k82 w A0_1 l0_1.length l0_1) (hc0_1 : l0_1.length ≤ c0_1) (h : syntax_Count.f k a0_0 l0_1 = some r),
  Calls Try.prog 71 #[.agg #[.string a0_0, .slice A0_1 l0_1.length c0_1]] w fun e w' => e = .returned (.int .i64 r) ∧ Below w.heap.size w w' := by
 induction k using Nat.strongRecOn with
 | _ k ih =>
 intro a0_0 A0_1 c0_1 l0_1 r w hr0_1 hc0_1 h
 cases k with
 | zero => exact absurd h (by simp [syntax_Count.f])
 | succ k =>
 simp only [syntax_Count.f] at h
 have hu86 := Try.underlying86
 have hu82 := Try.underlying82
 have hu79 := Try.underlying79
 have HR0_1 := Aside0.mk hr0_1
 have HC0_1 := Aside0.mk hc0_1
 clear hr0_1 hc0_1
 have HB := Aside0.mk (Below.refl w.heap.size w)
 have H : (syntax_Count.l0 k 0 l0_1 (l0_1.length : Int) 0) = some r := h
 clear h
 have H' := Aside0.mk H
 clear H
 go_enter Try.func71, Try.ntmps71
 go_wp2_with (first | ((with_reducible refine gate_dst (N := 1) rfl ?_); refine box_event ?hg (N := 1) ?hd (cs := #[.string a0_0, .slice A0_1 l0_1.length c0_1]) (t := 86) ?hr ?_; (case hd => rfl); (case hg => rfl); (case hr => first | (go_simp; done) | (go_simp; rfl)); intro gb104 hg w2 hbox hb; have n0_ := Aside0.mk (below_step (by repeat (first | (with_reducible first | exact HB.out | apply below_alloc | apply pw_below_drewN | apply below_drew1) | exact HB.out)) hb); have n1_ := Aside0.mk (hbox); have n2_ := Aside0.mk ((by rw [hg]; exact (below_size (by repeat (first | (with_reducible first | exact HB.out | apply below_alloc | apply pw_below_drewN | apply below_drew1) | exact HB.out))) : w.heap.size ≤ gb104)); have n3_ := Aside0.mk ((by rw [hg]; exact (below_size (by repeat (first | (with_reducible first | exact HB.out | apply below_alloc | apply pw_below_drewN | apply below_drew1) | exact HB.out))) : w.heap.size ≤ gb104)); clear HB; have HB := n0_; have BK104 := n1_; have GW104 := n2_; have GE104 := n3_; clear n0_ n1_ n2_ n3_; clear hb hbox hg; have hcz3_0 : w2.cell? ⟨gb104, 0, none⟩ = some (.string a0_0) := (blk_cell BK104.out 0).trans rfl; have hcz3_1 : w2.cell? ⟨gb104, 1, none⟩ = some (.slice A0_1 l0_1.length c0_1) := (blk_cell BK104.out 1).trans rfl; have hfz3_0 := blk_frozen BK104.out 0; have hfz3_1 := blk_frozen BK104.out 1))
 go_loopg [3, 11] k (fun kq v3 v11 w' => ∃ (x3_1 : Int) (x11_1 : Int), v3 = .int .i64 x3_1 ∧ v11 = .int .i64 x11_1 ∧ Aside0 (syntax_Count.l0 kq x3_1 l0_1 (l0_1.length : Int) x11_1 = some r) ∧ Aside0 (kq ≤ k) ∧ Aside0 (w'.heap[gb104]? = some (.cells #[.string a0_0, (.slice A0_1 l0_1.length c0_1)] 86 (0, 0))) ∧ Aside0 (Below w.heap.size w w'))
 case atStart => exact ⟨(0), (0), (by first | rfl | (simp; done) | (simp [*]; done)), (by first | rfl | (simp; done) | (simp [*]; done)), H', ⟨Nat.le_refl _⟩, ⟨by (with_reducible repeat (first | refine blk_drewN ?_ _ | refine blk_drew ?_ | refine blk_alloc ?_ _)); exact BK104.out⟩, ⟨by repeat (first | (with_reducible first | exact HB.out | apply below_alloc | apply pw_below_drewN | apply below_drew1 | refine below_set ?_ GE104.out) | exact HB.out)⟩⟩
 case round =>
  clear H'
  try clear p2
  try clear hcz3_0
  try clear hcz3_1
  try clear hfz3_0
  try clear hfz3_1
  obtain ⟨x3_1, x11_1, rfl, rfl, HA, HK1, BK104, HB⟩ := hrel
  cases gk with
  | zero => exact absurd HA.out (by simp [syntax_Count.l0])
  | succ k1 =>
   have H := HA.out
   clear HA
   simp only [syntax_Count.l0] at H
   by_cases c4 : x11_1 < (l0_1.length : Int)
   ·rw [if_pos c4] at H
    have c4b0 : decide (x11_1 < (l0_1.length : Int)) = true := decide_eq_true c4
    clear c4
    by_cases c5 : 0 ≤ x11_1
    ·rw [if_pos c5] at H
     have c5b0 : decide (0 ≤ x11_1) = true := decide_eq_true c5
     clear c5
     by_cases c6 : x11_1 < (l0_1.length : Int)
     ·rw [if_pos c6] at H
      have c6b0 : decide (x11_1 < (l0_1.length : Int)) = true := decide_eq_true c6
      clear c6
      have H' := Aside0.mk H
      clear H
      have p105 : 0 ≤ (x11_1 : Int) := of_decide_eq_true (by first | (with_reducible assumption) | assumption)
      have q105 : x11_1 < (l0_1.length : Int) := of_decide_eq_true (by first | (with_reducible assumption) | assumption)
      obtain ⟨ad105, A105_0, c105_0, e105, hx105_0, hl105_0, hi105_0⟩ := at_T82 HR0_1.out x11_1 p105 q105
      cases e105
      replace hx105_0 := (HB.out.cell (World.block_lt_of_cell? w _ hx105_0)).trans hx105_0
      have HR105_0 := Aside0.mk hi105_0
      have HC105_0 := Aside0.mk hl105_0
      clear hi105_0 hl105_0
      replace p105 := eq_true p105
      replace q105 := eq_true q105
      go_wp2_with (first | ((with_reducible refine gate_dst (N := 5) rfl ?_); refine box_event ?hg (N := 5) ?hd (cs := #[.slice none 0 0]) (t := 82) ?hr ?_; (case hd => rfl); (case hg => rfl); (case hr => first | (go_simp; done) | (go_simp; rfl)); intro gb106 hg w7 hbox hb; have n0_ := Aside0.mk (blk_below (g := gb104) (o := .cells #[.string a0_0, .slice (some ad105) l0_1.length c0_1] 86 (0, 0)) (by (with_reducible repeat (first | refine blk_drewN ?_ _ | refine blk_drew ?_ | refine blk_alloc ?_ _)); exact BK104.out) hb); have n1_ := Aside0.mk (below_step (by repeat (first | (with_reducible first | exact HB.out | apply below_alloc | apply pw_below_drewN | apply below_drew1 | refine below_set ?_ GE104.out) | exact HB.out)) hb); have n2_ := Aside0.mk (hbox); have n3_ := Aside0.mk ((by rw [hg]; exact (below_size (by repeat (first | (with_reducible first | exact HB.out | apply below_alloc | apply pw_below_drewN | apply below_drew1 | refine below_set ?_ GE104.out) | exact HB.out))) : w.heap.size ≤ gb106)); have n4_ := Aside0.mk ((by rw [hg]; exact (below_size (by repeat (first | (with_reducible first | exact HB.out | apply below_alloc | apply pw_below_drewN | apply below_drew1 | refine below_set ?_ GE104.out) | exact HB.out))) : w.heap.size ≤ gb106)); have n5_ := Aside0.mk ((by rw [hg]; exact Nat.ne_of_lt (blk_lt (g := gb104) (o := .cells #[.string a0_0, .slice (some ad105) l0_1.length c0_1] 86 (0, 0)) (by (with_reducible repeat (first | refine blk_drewN ?_ _ | refine blk_drew ?_ | refine blk_alloc ?_ _)); exact BK104.out)) : gb104 ≠ gb106)); have n6_ := Aside0.mk ((by rw [hg]; exact Nat.ne_of_gt (blk_lt (g := gb104) (o := .cells #[.string a0_0, .slice (some ad105) l0_1.length c0_1] 86 (0, 0)) (by (with_reducible repeat (first | refine blk_drewN ?_ _ | refine blk_drew ?_ | refine blk_alloc ?_ _)); exact BK104.out)) : gb106 ≠ gb104)); clear BK104; clear HB; have BK104 := n0_; have HB := n1_; have BK106 := n2_; have GW106 := n3_; have GE106 := n4_; have NB104_106 := n5_; have NB106_104 := n6_; clear n0_ n1_ n2_ n3_ n4_ n5_ n6_; clear hb hbox hg; have hnb8 := NB106_104.out; have hnc8 := NB104_106.out; have hcz9_0 : w7.cell? ⟨gb106, 0, none⟩ = some (.slice none 0 0) := (blk_cell BK106.out 0).trans rfl; have hfz9_0 := blk_frozen BK106.out 0))
      go_loopg [3, 23] k1 (fun kq v3 v23 w' => ∃ (x3_2 : Int) (x23_2 : Int), v3 = .int .i64 x3_2 ∧ v23 = .int .i64 x23_2 ∧ Aside0 (syntax_Count.l1 kq x3_2 l0_1 (l0_1.length : Int) x11_1 ((rd_T82 l0_1 x11_1).f0) (((rd_T82 l0_1 x11_1).f0).length : Int) x23_2 = some r) ∧ Aside0 (kq ≤ k1) ∧ Aside0 (w'.heap[gb104]? = some (.cells #[.string a0_0, (.slice (some ad105) l0_1.length c0_1)] 86 (0, 0))) ∧ Aside0 (w'.heap[gb106]? = some (.cells #[(.slice A105_0 ((rd_T82 l0_1 x11_1).f0).length c105_0)] 82 (0, 0))) ∧ Aside0 (Below w.heap.size w w'))
      case atStart => exact ⟨(wrap64 (x3_1 + (((rd_T82 l0_1 x11_1).f0).length : Int))), (0), (by first | rfl | (simp; done) | (simp [*]; done)), (by first | rfl | (simp; done) | (simp [*]; done)), H', ⟨Nat.le_refl _⟩, ⟨by (with_reducible repeat (first | refine blk_drewN ?_ _ | refine blk_drew ?_ | refine blk_alloc ?_ _)); refine blk_far ?_ NB104_106.out _; (with_reducible repeat (first | refine blk_drewN ?_ _ | refine blk_drew ?_ | refine blk_alloc ?_ _)); exact BK104.out⟩, ⟨by (with_reducible repeat (first | refine blk_drewN ?_ _ | refine blk_drew ?_ | refine blk_alloc ?_ _)); refine blk_put (cs := #[.slice none 0 0]) ?_ 0 _ rfl; (with_reducible repeat (first | refine blk_drewN ?_ _ | refine blk_drew ?_ | refine blk_alloc ?_ _)); exact BK106.out⟩, ⟨by repeat (first | (with_reducible first | exact HB.out | apply below_alloc | apply pw_below_drewN | apply below_drew1 | refine below_set ?_ GE104.out | refine below_set ?_ GE106.out) | exact HB.out)⟩⟩
      case round =>
       clear H'
       try clear c1
       try clear p1
       try clear q1
       try clear hx1
       try clear p2
       try clear c4
       try clear c4b0
       try clear c5
       try clear c5b0
       try clear c6
       try clear c6b0
       try clear p6
       try clear c7
       try clear c8
       try clear hcz3_0
       try clear hcz3_1
       try clear hcz9_0
       try clear hfz3_0
       try clear hfz3_1
       try clear hfz9_0
       try clear hx105_0
       try clear p105
       try clear p2
       try clear q105
       obtain ⟨x3_2, x23_2, rfl, rfl, HA, HK2, BK104, BK106, HB⟩ := hrel
       cases gk with
       | zero => exact absurd HA.out (by simp [syntax_Count.l1])
       | succ k2 =>
        have H := HA.out
        clear HA
        simp only [syntax_Count.l1] at H
        by_cases c10 : x23_2 < (((rd_T82 l0_1 x11_1).f0).length : Int)
        ·rw [if_pos c10] at H
         have c10b0 : decide (x23_2 < (((rd_T82 l0_1 x11_1).f0).length : Int)) = true := decide_eq_true c10
         clear c10
         by_cases c11 : 0 ≤ x23_2
         ·rw [if_pos c11] at H
          have c11b0 : decide (0 ≤ x23_2) = true := decide_eq_true c11
          clear c11
          by_cases c12 : x23_2 < (((rd_T82 l0_1 x11_1).f0).length : Int)
          ·rw [if_pos c12] at H
           have c12b0 : decide (x23_2 < (((rd_T82 l0_1 x11_1).f0).length : Int)) = true := decide_eq_true c12
           clear c12
           replace H := Option.bind_eq_some_iff.mp H
           obtain ⟨t109, A130, H⟩ := H
           replace H : (syntax_Count.l1 k2 (wrap64 (x3_2 + t109)) l0_1 (l0_1.length : Int) x11_1 ((rd_T82 l0_1 x11_1).f0) (((rd_T82 l0_1 x11_1).f0).length : Int) (wrap64 (x23_2 + 1))) = some r := H
           have A13 := Aside0.mk A130
           clear A130
           have H' := Aside0.mk H
           clear H
           have p107 : 0 ≤ (x23_2 : Int) := of_decide_eq_true (by first | (with_reducible assumption) | assumption)
           have q107 : x23_2 < (((rd_T82 l0_1 x11_1).f0).length : Int) := of_decide_eq_true (by first | (with_reducible assumption) | assumption)
           obtain ⟨ad107, A107_2, c107_2, A107_5, c107_5, e107, hx107_0, hx107_1, hx107_2, hx107_3, hx107_4, hx107_5, hl107_2, hi107_2, hl107_5, hi107_5⟩ := at_T79 HR105_0.out x23_2 p107 q107
           cases e107
           replace hx107_0 := (HB.out.cell (World.block_lt_of_cell? w _ hx107_0)).trans hx107_0
           replace hx107_1 := (HB.out.cell (World.block_lt_of_cell? w _ hx107_1)).trans hx107_1
           replace hx107_2 := (HB.out.cell (World.block_lt_of_cell? w _ hx107_2)).trans hx107_2
           replace hx107_3 := (HB.out.cell (World.block_lt_of_cell? w _ hx107_3)).trans hx107_3
           replace hx107_4 := (HB.out.cell (World.block_lt_of_cell? w _ hx107_4)).trans hx107_4
           replace hx107_5 := (HB.out.cell (World.block_lt_of_cell? w _ hx107_5)).trans hx107_5
           have HR107_2 := Aside0.mk hi107_2
           have HC107_2 := Aside0.mk hl107_2
           clear hi107_2 hl107_2
           have HR107_5 := Aside0.mk hi107_5
           have HC107_5 := Aside0.mk hl107_5
           clear hi107_5 hl107_5
           replace p107 := eq_true p107
           replace q107 := eq_true q107
           go_wp2_with (first | ((with_reducible refine gate_dst (N := 7) rfl ?_); refine box_event ?hg (N := 7) ?hd (cs := #[.string (⟨#[]⟩ : ByteArray), .string (⟨#[]⟩ : ByteArray), .slice none 0 0, .bool false, .bool false, .slice none 0 0]) (t := 79) ?hr ?_; (case hd => rfl); (case hg => rfl); (case hr => first | (go_simp; done) | (go_simp; rfl)); intro gb108 hg w14 hbox hb; have n0_ := Aside0.mk (blk_below (g := gb104) (o := .cells #[.string a0_0, .slice (some ad105) l0_1.length c0_1] 86 (0, 0)) (by (with_reducible repeat (first | refine blk_drewN ?_ _ | refine blk_drew ?_ | refine blk_alloc ?_ _)); exact BK104.out) hb); have n1_ := Aside0.mk (blk_below (g := gb106) (o := .cells #[.slice (some ad107) ((rd_T82 l0_1 x11_1).f0).length c105_0] 82 (0, 0)) (by (with_reducible repeat (first | refine blk_drewN ?_ _ | refine blk_drew ?_ | refine blk_alloc ?_ _)); exact BK106.out) hb); have n2_ := Aside0.mk (below_step (by repeat (first | (with_reducible first | exact HB.out | apply below_alloc | apply pw_below_drewN | apply below_drew1 | refine below_set ?_ GE104.out | refine below_set ?_ GE106.out) | exact HB.out)) hb); have n3_ := Aside0.mk (hbox); have n4_ := Aside0.mk ((by rw [hg]; exact (below_size (by repeat (first | (with_reducible first | exact HB.out | apply below_alloc | apply pw_below_drewN | apply below_drew1 | refine below_set ?_ GE104.out | refine below_set ?_ GE106.out) | exact HB.out))) : w.heap.size ≤ gb108)); have n5_ := Aside0.mk ((by rw [hg]; exact (below_size (by repeat (first | (with_reducible first | exact HB.out | apply below_alloc | apply pw_below_drewN | apply below_drew1 | refine below_set ?_ GE104.out | refine below_set ?_ GE106.out) | exact HB.out))) : w.heap.size ≤ gb108)); have n6_ := Aside0.mk ((by rw [hg]; exact Nat.ne_of_lt (blk_lt (g := gb104) (o := .cells #[.string a0_0, .slice (some ad105) l0_1.length c0_1] 86 (0, 0)) (by (with_reducible repeat (first | refine blk_drewN ?_ _ | refine blk_drew ?_ | refine blk_alloc ?_ _)); exact BK104.out)) : gb104 ≠ gb108)); have n7_ := Aside0.mk ((by rw [hg]; exact Nat.ne_of_gt (blk_lt (g := gb104) (o := .cells #[.string a0_0, .slice (some ad105) l0_1.length c0_1] 86 (0, 0)) (by (with_reducible repeat (first | refine blk_drewN ?_ _ | refine blk_drew ?_ | refine blk_alloc ?_ _)); exact BK104.out)) : gb108 ≠ gb104)); have n8_ := Aside0.mk ((by rw [hg]; exact Nat.ne_of_lt (blk_lt (g := gb106) (o := .cells #[.slice (some ad107) ((rd_T82 l0_1 x11_1).f0).length c105_0] 82 (0, 0)) (by (with_reducible repeat (first | refine blk_drewN ?_ _ | refine blk_drew ?_ | refine blk_alloc ?_ _)); exact BK106.out)) : gb106 ≠ gb108)); have n9_ := Aside0.mk ((by rw [hg]; exact Nat.ne_of_gt (blk_lt (g := gb106) (o := .cells #[.slice (some ad107) ((rd_T82 l0_1 x11_1).f0).length c105_0] 82 (0, 0)) (by (with_reducible repeat (first | refine blk_drewN ?_ _ | refine blk_drew ?_ | refine blk_alloc ?_ _)); exact BK106.out)) : gb108 ≠ gb106)); clear BK104; clear BK106; clear HB; have BK104 := n0_; have BK106 := n1_; have HB := n2_; have BK108 := n3_; have GW108 := n4_; have GE108 := n5_; have NB104_108 := n6_; have NB108_104 := n7_; have NB106_108 := n8_; have NB108_106 := n9_; clear n0_ n1_ n2_ n3_ n4_ n5_ n6_ n7_ n8_ n9_; clear hb hbox hg; have hnb15 := NB108_104.out; have hnc15 := NB104_108.out; have hnb16 := NB108_106.out; have hnc16 := NB106_108.out; have hcz17_0 : w14.cell? ⟨gb108, 0, none⟩ = some (.string (⟨#[]⟩ : ByteArray)) := (blk_cell BK108.out 0).trans rfl; have hcz17_1 : w14.cell? ⟨gb108, 1, none⟩ = some (.string (⟨#[]⟩ : ByteArray)) := (blk_cell BK108.out 1).trans rfl; have hcz17_2 : w14.cell? ⟨gb108, 2, none⟩ = some (.slice none 0 0) := (blk_cell BK108.out 2).trans rfl; have hcz17_3 : w14.cell? ⟨gb108, 3, none⟩ = some (.bool false) := (blk_cell BK108.out 3).trans rfl; have hcz17_4 : w14.cell? ⟨gb108, 4, none⟩ = some (.bool false) := (blk_cell BK108.out 4).trans rfl; have hcz17_5 : w14.cell? ⟨gb108, 5, none⟩ = some (.slice none 0 0) := (blk_cell BK108.out 5).trans rfl; have hfz17_0 := blk_frozen BK108.out 0; have hfz17_1 := blk_frozen BK108.out 1; have hfz17_2 := blk_frozen BK108.out 2; have hfz17_3 := blk_frozen BK108.out 3; have hfz17_4 := blk_frozen BK108.out 4; have hfz17_5 := blk_frozen BK108.out 5) | ((with_reducible refine gate_callee (f := 71) rfl ?_); refine goesL_ (some 31) rfl rfl Try.func71 (by kernel_rfl) rfl #[.agg #[.string (⟨#[]⟩ : ByteArray), .slice A107_5 ((rd_T79 ((rd_T82 l0_1 x11_1).f0) x23_2).f5).length c107_5]] rfl (by (try simp only [List.map_toArray, List.map_cons, List.map_nil]); first | done | rfl | (simp only [List.length_drop, List.length_take]; rfl)) ?_; (with_reducible refine (ih k2 (by have := HK1.out; have := HK2.out; omega) (⟨#[]⟩ : ByteArray) _ _ ((rd_T79 ((rd_T82 l0_1 x11_1).f0) x23_2).f5) t109 _ ?side1 ?side2 A13.out).mono ?_); (case side1 => exact Kd.C_below HR107_5.out (by repeat (first | (with_reducible first | exact HB.out | apply below_alloc | apply pw_below_drewN | apply below_drew1 | refine below_set ?_ GE104.out | refine below_set ?_ GE106.out | refine below_set ?_ GE108.out) | exact HB.out))); (case side2 => exact HC107_5.out); rintro e w18 ⟨rfl, hb⟩; refine ⟨_, rfl, ?_⟩; have n0_ := Aside0.mk (blk_below (g := gb104) (o := .cells #[.string a0_0, .slice (some ad105) l0_1.length c0_1] 86 (0, 0)) (by (with_reducible repeat (first | refine blk_drewN ?_ _ | refine blk_drew ?_ | refine blk_alloc ?_ _)); refine blk_far ?_ NB104_108.out _; (with_reducible repeat (first | refine blk_drewN ?_ _ | refine blk_drew ?_ | refine blk_alloc ?_ _)); refine blk_far ?_ NB104_108.out _; (with_reducible repeat (first | refine blk_drewN ?_ _ | refine blk_drew ?_ | refine blk_alloc ?_ _)); refine blk_far ?_ NB104_108.out _; (with_reducible repeat (first | refine blk_drewN ?_ _ | refine blk_drew ?_ | refine blk_alloc ?_ _)); refine blk_far ?_ NB104_108.out _; (with_reducible repeat (first | refine blk_drewN ?_ _ | refine blk_drew ?_ | refine blk_alloc ?_ _)); refine blk_far ?_ NB104_108.out _; (with_reducible repeat (first | refine blk_drewN ?_ _ | refine blk_drew ?_ | refine blk_alloc ?_ _)); refine blk_far ?_ NB104_108.out _; (with_reducible repeat (first | refine blk_drewN ?_ _ | refine blk_drew ?_ | refine blk_alloc ?_ _)); exact BK104.out) hb); have n1_ := Aside0.mk (blk_below (g := gb106) (o := .cells #[.slice (some ad107) ((rd_T82 l0_1 x11_1).f0).length c105_0] 82 (0, 0)) (by (with_reducible repeat (first | refine blk_drewN ?_ _ | refine blk_drew ?_ | refine blk_alloc ?_ _)); refine blk_far ?_ NB106_108.out _; (with_reducible repeat (first | refine blk_drewN ?_ _ | refine blk_drew ?_ | refine blk_alloc ?_ _)); refine blk_far ?_ NB106_108.out _; (with_reducible repeat (first | refine blk_drewN ?_ _ | refine blk_drew ?_ | refine blk_alloc ?_ _)); refine blk_far ?_ NB106_108.out _; (with_reducible repeat (first | refine blk_drewN ?_ _ | refine blk_drew ?_ | refine blk_alloc ?_ _)); refine blk_far ?_ NB106_108.out _; (with_reducible repeat (first | refine blk_drewN ?_ _ | refine blk_drew ?_ | refine blk_alloc ?_ _)); refine blk_far ?_ NB106_108.out _; (with_reducible repeat (first | refine blk_drewN ?_ _ | refine blk_drew ?_ | refine blk_alloc ?_ _)); refine blk_far ?_ NB106_108.out _; (with_reducible repeat (first | refine blk_drewN ?_ _ | refine blk_drew ?_ | refine blk_alloc ?_ _)); exact BK106.out) hb); have n2_ := Aside0.mk (blk_below (g := gb108) (o := .cells #[.string ((rd_T79 ((rd_T82 l0_1 x11_1).f0) x23_2).f0), .string ((rd_T79 ((rd_T82 l0_1 x11_1).f0) x23_2).f1), .slice A107_2 ((rd_T79 ((rd_T82 l0_1 x11_1).f0) x23_2).f2).length c107_2, .bool ((rd_T79 ((rd_T82 l0_1 x11_1).f0) x23_2).f3), .bool ((rd_T79 ((rd_T82 l0_1 x11_1).f0) x23_2).f4), .slice A107_5 ((rd_T79 ((rd_T82 l0_1 x11_1).f0) x23_2).f5).length c107_5] 79 (0, 0)) (by (with_reducible repeat (first | refine blk_drewN ?_ _ | refine blk_drew ?_ | refine blk_alloc ?_ _)); refine blk_put (cs := #[.string ((rd_T79 ((rd_T82 l0_1 x11_1).f0) x23_2).f0), .string ((rd_T79 ((rd_T82 l0_1 x11_1).f0) x23_2).f1), .slice A107_2 ((rd_T79 ((rd_T82 l0_1 x11_1).f0) x23_2).f2).length c107_2, .bool ((rd_T79 ((rd_T82 l0_1 x11_1).f0) x23_2).f3), .bool ((rd_T79 ((rd_T82 l0_1 x11_1).f0) x23_2).f4), .slice none 0 0]) ?_ 5 _ rfl; (with_reducible repeat (first | refine blk_drewN ?_ _ | refine blk_drew ?_ | refine blk_alloc ?_ _)); refine blk_put (cs := #[.string ((rd_T79 ((rd_T82 l0_1 x11_1).f0) x23_2).f0), .string ((rd_T79 ((rd_T82 l0_1 x11_1).f0) x23_2).f1), .slice A107_2 ((rd_T79 ((rd_T82 l0_1 x11_1).f0) x23_2).f2).length c107_2, .bool ((rd_T79 ((rd_T82 l0_1 x11_1).f0) x23_2).f3), .bool false, .slice none 0 0]) ?_ 4 _ rfl; (with_reducible repeat (first | refine blk_drewN ?_ _ | refine blk_drew ?_ | refine blk_alloc ?_ _)); refine blk_put (cs := #[.string ((rd_T79 ((rd_T82 l0_1 x11_1).f0) x23_2).f0), .string ((rd_T79 ((rd_T82 l0_1 x11_1).f0) x23_2).f1), .slice A107_2 ((rd_T79 ((rd_T82 l0_1 x11_1).f0) x23_2).f2).length c107_2, .bool false, .bool false, .slice none 0 0]) ?_ 3 _ rfl; (with_reducible repeat (first | refine blk_drewN ?_ _ | refine blk_drew ?_ | refine blk_alloc ?_ _)); refine blk_put (cs := #[.string ((rd_T79 ((rd_T82 l0_1 x11_1).f0) x23_2).f0), .string ((rd_T79 ((rd_T82 l0_1 x11_1).f0) x23_2).f1), .slice none 0 0, .bool false, .bool false, .slice none 0 0]) ?_ 2 _ rfl; (with_reducible repeat (first | refine blk_drewN ?_ _ | refine blk_drew ?_ | refine blk_alloc ?_ _)); refine blk_put (cs := #[.string ((rd_T79 ((rd_T82 l0_1 x11_1).f0) x23_2).f0), .string (⟨#[]⟩ : ByteArray), .slice none 0 0, .bool false, .bool false, .slice none 0 0]) ?_ 1 _ rfl; (with_reducible repeat (first | refine blk_drewN ?_ _ | refine blk_drew ?_ | refine blk_alloc ?_ _)); refine blk_put (cs := #[.string (⟨#[]⟩ : ByteArray), .string (⟨#[]⟩ : ByteArray), .slice none 0 0, .bool false, .bool false, .slice none 0 0]) ?_ 0 _ rfl; (with_reducible repeat (first | refine blk_drewN ?_ _ | refine blk_drew ?_ | refine blk_alloc ?_ _)); exact BK108.out) hb); have n3_ := Aside0.mk (below_step (by repeat (first | (with_reducible first | exact HB.out | apply below_alloc | apply pw_below_drewN | apply below_drew1 | refine below_set ?_ GE104.out | refine below_set ?_ GE106.out | refine below_set ?_ GE108.out) | exact HB.out)) hb); clear BK104; clear BK106; clear BK108; clear HB; have BK104 := n0_; have BK106 := n1_; have BK108 := n2_; have HB := n3_; clear n0_ n1_ n2_ n3_; (try clear hb); (try clear hb2); (try clear hk); (try clear hi)))
           go_roundg k2
           case measure => have := HK1.out; have := HK2.out; omega
           case rel => exact ⟨(wrap64 (x3_2 + t109)), (wrap64 (x23_2 + 1)), (by first | rfl | (simp; done) | (simp [*]; done)), (by first | rfl | (simp; done) | (simp [*]; done)), H', ⟨by have := HK1.out; have := HK2.out; omega⟩, ⟨by (with_reducible repeat (first | refine blk_drewN ?_ _ | refine blk_drew ?_ | refine blk_alloc ?_ _)); exact BK104.out⟩, ⟨by (with_reducible repeat (first | refine blk_drewN ?_ _ | refine blk_drew ?_ | refine blk_alloc ?_ _)); exact BK106.out⟩, ⟨by repeat (first | (with_reducible first | exact HB.out | apply below_alloc | apply pw_below_drewN | apply below_drew1 | refine below_set ?_ GE104.out | refine below_set ?_ GE106.out | refine below_set ?_ GE108.out) | exact HB.out)⟩⟩
          ·rw [if_neg c12] at H
           exact absurd H (by simp)
         ·rw [if_neg c11] at H
          exact absurd H (by simp)
        ·rw [if_neg c10] at H
         have c10b0 : decide (x23_2 < (((rd_T82 l0_1 x11_1).f0).length : Int)) = false := decide_eq_false c10
         clear c10
         have H' := Aside0.mk H
         clear H
         go_wp2
         go_roundg k2
         case measure => have := HK1.out; have := HK2.out; omega
         case rel => exact ⟨(x3_2), (wrap64 (x11_1 + 1)), (by first | rfl | (simp; done) | (simp [*]; done)), (by first | rfl | (simp; done) | (simp [*]; done)), H', ⟨by have := HK1.out; have := HK2.out; omega⟩, ⟨by (with_reducible repeat (first | refine blk_drewN ?_ _ | refine blk_drew ?_ | refine blk_alloc ?_ _)); exact BK104.out⟩, ⟨by repeat (first | (with_reducible first | exact HB.out | apply below_alloc | apply pw_below_drewN | apply below_drew1 | refine below_set ?_ GE104.out | refine below_set ?_ GE106.out) | exact HB.out)⟩⟩
     ·rw [if_neg c6] at H
      exact absurd H (by simp)
    ·rw [if_neg c5] at H
     exact absurd H (by simp)
   ·rw [if_neg c4] at H
    have c4b0 : decide (x11_1 < (l0_1.length : Int)) = false := decide_eq_false c4
    clear c4
    obtain rfl := Option.some.inj H
    go_wp2
    go_ret
    exact ⟨by first | rfl | (simp [errW_none, errW_some] <;> rfl) | (simp [*, errW_none, errW_some] <;> rfl), by repeat (first | (with_reducible first | exact HB.out | apply below_alloc | apply pw_below_drewN | apply below_drew1 | refine below_set ?_ GE104.out) | exact HB.out)⟩
def stringslite_HasPrefix.f (a0 : ByteArray) (a1 : ByteArray) : Option (Bool) := if (a0.size : Int) ≥ (a1.size : Int) then (if 0 ≤ (a1.size : Int) then (if (a1.size : Int) ≤ (a0.size : Int) then (some ((a0.extract 0 ((a1.size : Int) : Int).toNat).toList == a1.toList)) else (none)) else (none)) else (some false)
set_option maxHeartbeats 8000000 in
set_option maxRecDepth 100000 in
theorem stringslite_HasPrefix.calls (a0 : ByteArray) (a1 : ByteArray) (r : Bool) (w : World) (h : stringslite_HasPrefix.f a0 a1 = some r) :
  Calls Try.prog 107 #[.string a0, .string a1] w fun e w' => e = .returned (.bool r) ∧ Drawn0 w w' := by
 have H : (if (a0.size : Int) ≥ (a1.size : Int) then (if 0 ≤ (a1.size : Int) then (if (a1.size : Int) ≤ (a0.size : Int) then (some ((a0.extract 0 ((a1.size : Int) : Int).toNat).toList == a1.toList)) else (none)) else (none)) else (some false)) = some r := h
 clear h
 by_cases c3 : (a0.size : Int) ≥ (a1.size : Int)
 ·rw [if_pos c3] at H
  have c3b0 : decide ((a1.size : Int) ≤ (a0.size : Int)) = true := decide_eq_true c3
  have c3b1 : decide (a1.size ≤ a0.size) = true := decide_eq_true (Int.ofNat_le.mp c3)
  clear c3
  by_cases c4 : 0 ≤ (a1.size : Int)
  ·rw [if_pos c4] at H
   have c4b0 := eq_true c4
   have c4b1 : decide (0 ≤ (a1.size : Int)) = true := decide_eq_true c4
   clear c4
   by_cases c5 : (a1.size : Int) ≤ (a0.size : Int)
   ·rw [if_pos c5] at H
    have c5b0 := eq_true c5
    have c5b1 : decide ((a1.size : Int) ≤ (a0.size : Int)) = true := decide_eq_true c5
    clear c5
    obtain rfl := Option.some.inj H
    go_enter Try.func107, Try.ntmps107
    go_wp2
    go_ret
    exact ⟨by first | rfl | (simp; done) | (simp [*]; done), by repeat (first | exact Drawn0.refl _ | apply Drawn0.step)⟩
   ·rw [if_neg c5] at H
    exact absurd H (by simp)
  ·rw [if_neg c4] at H
   exact absurd H (by simp)
 ·rw [if_neg c3] at H
  have c3b0 : decide ((a1.size : Int) ≤ (a0.size : Int)) = false := decide_eq_false c3
  have c3b1 : decide (a1.size ≤ a0.size) = false := decide_eq_false (fun h => c3 (Int.ofNat_le.mpr h))
  clear c3
  obtain rfl := Option.some.inj H
  go_enter Try.func107, Try.ntmps107
  go_wp2
  go_ret
  exact ⟨by first | rfl | (simp; done) | (simp [*]; done), by repeat (first | exact Drawn0.refl _ | apply Drawn0.step)⟩
def strings_HasPrefix.f (a0 : ByteArray) (a1 : ByteArray) : Option (Bool) := (stringslite_HasPrefix.f a0 a1).bind fun t110 => (some t110)
set_option maxHeartbeats 8000000 in
set_option maxRecDepth 100000 in
theorem strings_HasPrefix.calls (a0 : ByteArray) (a1 : ByteArray) (r : Bool) (w : World) (h : strings_HasPrefix.f a0 a1 = some r) :
  Calls Try.prog 105 #[.string a0, .string a1] w fun e w' => e = .returned (.bool r) ∧ Drawn0 w w' := by
 have H : ((stringslite_HasPrefix.f a0 a1).bind fun t110 => (some t110)) = some r := h
 clear h
 replace H := Option.bind_eq_some_iff.mp H
 obtain ⟨t110, A30, H⟩ := H
 replace H : (some t110) = some r := H
 have A3 := Aside0.mk A30
 clear A30
 obtain rfl := Option.some.inj H
 go_enter Try.func105, Try.ntmps105
 go_wp2_with (first | ((with_reducible refine gate_callee (f := 107) rfl ?_); refine goesL_ (some 7) rfl rfl Try.func107 (by kernel_rfl) rfl #[.string a0, .string a1] rfl (by (try simp only [List.map_toArray, List.map_cons, List.map_nil]); first | done | rfl | (simp only [List.length_drop, List.length_take]; rfl)) ?_; (with_reducible refine (stringslite_HasPrefix.calls a0 a1 t110 _ A3.out).mono ?_); rintro e w' ⟨rfl, ⟨nd, rfl⟩⟩; refine ⟨_, rfl, ?_⟩))
 go_ret
 exact ⟨by first | rfl | (simp; done) | (simp [*]; done), by repeat (first | exact Drawn0.refl _ | apply Drawn0.step)⟩
def glyph_broken.f (a0 : ByteArray) (a1 : Int) (a2 : Int) : Option (Bool) := if a2 = 65533 then (if 0 ≤ a1 then (if a1 ≤ (a0.size : Int) then ((strings_HasPrefix.f (a0.extract (a1 : Int).toNat a0.size) (⟨#[239, 191, 189]⟩ : ByteArray)).bind fun t111 => (some (!t111))) else (none)) else (none)) else (some false)
set_option maxHeartbeats 8000000 in
set_option maxRecDepth 100000 in
theorem glyph_broken.calls (a0 : ByteArray) (a1 : Int) (a2 : Int) (r : Bool) (w : World) (h : glyph_broken.f a0 a1 a2 = some r) :
  Calls Try.prog 99 #[.string a0, .int .i64 a1, .int .i32 a2] w fun e w' => e = .returned (.bool r) ∧ Drawn0 w w' := by
 have H : (if a2 = 65533 then (if 0 ≤ a1 then (if a1 ≤ (a0.size : Int) then ((strings_HasPrefix.f (a0.extract (a1 : Int).toNat a0.size) (⟨#[239, 191, 189]⟩ : ByteArray)).bind fun t111 => (some (!t111))) else (none)) else (none)) else (some false)) = some r := h
 clear h
 by_cases c4 : a2 = 65533
 ·rw [if_pos c4] at H
  have c4b0 : (a2 == 65533) = true := beq_iff_eq.mpr c4
  have c4b1 : (a2 != 65533) = false := bne_eq_false_iff_eq.mpr c4
  clear c4
  by_cases c5 : 0 ≤ a1
  ·rw [if_pos c5] at H
   have c5b0 := eq_true c5
   have c5b1 : decide (0 ≤ a1) = true := decide_eq_true c5
   clear c5
   by_cases c6 : a1 ≤ (a0.size : Int)
   ·rw [if_pos c6] at H
    have c6b0 := eq_true c6
    have c6b1 : decide (a1 ≤ (a0.size : Int)) = true := decide_eq_true c6
    clear c6
    replace H := Option.bind_eq_some_iff.mp H
    obtain ⟨t111, A70, H⟩ := H
    replace H : (some (!t111)) = some r := H
    have A7 := Aside0.mk A70
    clear A70
    obtain rfl := Option.some.inj H
    go_enter Try.func99, Try.ntmps99
    go_wp2_with (first | (go_at_call 105; (with_reducible refine (strings_HasPrefix.calls (a0.extract (a1 : Int).toNat a0.size) (⟨#[239, 191, 189]⟩ : ByteArray) t111 _ A7.out).mono ?_); rintro e w' ⟨rfl, ⟨nd, rfl⟩⟩))
    go_ret
    exact ⟨by first | rfl | (simp; done) | (simp [*]; done), by repeat (first | exact Drawn0.refl _ | apply Drawn0.step)⟩
   ·rw [if_neg c6] at H
    exact absurd H (by simp)
  ·rw [if_neg c5] at H
   exact absurd H (by simp)
 ·rw [if_neg c4] at H
  have c4b0 : (a2 == 65533) = false := beq_eq_false_iff_ne.mpr c4
  have c4b1 : (a2 != 65533) = true := bne_iff_ne.mpr c4
  obtain rfl := Option.some.inj H
  go_enter Try.func99, Try.ntmps99
  go_wp2
  go_ret
  exact ⟨by first | rfl | (simp; done) | (simp [*]; done), by repeat (first | exact Drawn0.refl _ | apply Drawn0.step)⟩
end Go.Proofs.Ytihpndignekheaa.F
end

section
namespace Go.Proofs.Ytihpndignekheaa.F
open Go.RowKit Go.Proofs.YtihpndignekheaaW.PrintWords Go.Proofs.YtihpndignekheaaW.PrintLast Go.Proofs.YtihpndignekheaaW.PrintMore
attribute [local go_sem] max2_int min2_int max_two min_two max_three min_three max_four min_four
set_option linter.unusedVariables false
set_option linter.unusedSimpArgs false
structure Fl where
 cl : Bool
 tc : Bool
 dn : Bool
 sp : Bool
 ha : Bool
 at_ : Int
structure By where
 fa : Bool
 wh : Bool
 cl : Bool
structure St where
 it : Nat → Fl
 bo : Nat → Nat → By
def Fl.v (f : Fl) : Nat → Value
 | 0 => .bool f.cl
 | 1 => .bool f.tc
 | 2 => .bool f.dn
 | 3 => .bool f.sp
 | 4 => .bool f.ha
 | _ => .int .i64 f.at_
def By.v (b : By) : Nat → Value
 | 0 => .bool b.fa
 | 1 => .bool b.wh
 | _ => .bool b.cl
def memOf (pv lv : Value) (s : St) (j : Nat) : Value :=
 if j = 0 then pv else if j = 1 then lv else if j < 386 then (s.it ((j - 2) / 6)).v ((j - 2) % 6) else (s.bo ((j - 386) / 12) ((j - 386) % 12 / 3)).v ((j - 386) % 12 % 3)
def bCells (m : Nat → Value) : Array Value := Array.ofFn (n := 1154) fun j => m j
theorem bCells_at (m : Nat → Value) (j : Nat) (h : j < 1154) : (bCells m)[j]? = some (m j) := by
 unfold bCells
 rw [Array.getElem?_ofFn, dif_pos h]
theorem bCells_set (m : Nat → Value) (j : Nat) (v : Value) : (bCells m).setIfInBounds j v = bCells (fun k => if k = j then v else m k) := by
 apply Array.ext
 ·simp [bCells]
 ·intro k h1 h2
  rw [Array.getElem_setIfInBounds (by simpa using h1)]
  simp only [bCells, Array.getElem_ofFn]
  by_cases h : j = k
  ·rw [if_pos h, if_pos h.symm]
  ·rw [if_neg h, if_neg (fun e => h e.symm)]
theorem bCells_ext {m n : Nat → Value} (h : ∀ j, j < 1154 → m j = n j) : bCells m = bCells n := by
 apply Array.ext
 ·simp [bCells]
 ·intro k h1 h2
  simp only [bCells, Array.getElem_ofFn]
  exact h k (by simpa [bCells] using h1)
def St.setIt (s : St) (i : Nat) (f : Fl) : St := ⟨fun j => if j = i then f else s.it j, s.bo⟩
def St.setBo (s : St) (i k : Nat) (b : By) : St := ⟨s.it, fun j q => if j = i ∧ q = k then b else s.bo j q⟩
def BoardAt (w : World) (g : Nat) (pv lv : Value) (s : St) : Prop := w.heap[g]? = some (.cells (bCells (memOf pv lv s)) 49 (0, 0))
section
variable {w : World} {g : Nat} {pv lv : Value} {s : St}
theorem BoardAt.cell (h : BoardAt w g pv lv s) (j : Nat) (hj : j < 1154) : w.cell? ⟨g, j, none⟩ = some (memOf pv lv s j) := (blk_cell h j).trans (bCells_at _ j hj)
theorem BoardAt.free (h : BoardAt w g pv lv s) (j : Nat) : w.frozen? ⟨g, j, none⟩ = false := blk_frozen h j
theorem memOf_it (i k : Nat) (hi : i < 64) (hk : k < 6) : memOf pv lv s (2 + i * 6 + k) = (s.it i).v k := by
 unfold memOf
 rw [if_neg (by omega), if_neg (by omega), if_pos (by omega), show (2 + i * 6 + k - 2) / 6 = i from by omega, show (2 + i * 6 + k - 2) % 6 = k from by omega]
theorem memOf_bo (i k q : Nat) (hk : k < 4) (hq : q < 3) : memOf pv lv s (386 + i * 12 + k * 3 + q) = (s.bo i k).v q := by
 unfold memOf
 rw [if_neg (by omega), if_neg (by omega), if_neg (by omega), show (386 + i * 12 + k * 3 + q - 386) / 12 = i from by omega, show (386 + i * 12 + k * 3 + q - 386) % 12 / 3 = k from by omega, show (386 + i * 12 + k * 3 + q - 386) % 12 % 3 = q from by omega]
theorem BoardAt.it (h : BoardAt w g pv lv s) (i k : Nat) (hi : i < 64) (hk : k < 6) : w.cell? ⟨g, 2 + i * 6 + k, none⟩ = some ((s.it i).v k) := by
 rw [h.cell _ (by omega), memOf_it i k hi hk]
theorem BoardAt.bo (h : BoardAt w g pv lv s) (i k q : Nat) (hi : i < 64) (hk : k < 4) (hq : q < 3) : w.cell? ⟨g, 386 + i * 12 + k * 3 + q, none⟩ = some ((s.bo i k).v q) := by
 rw [h.cell _ (by omega), memOf_bo i k q hk hq]
theorem BoardAt.put {m : Nat → Value} (h : w.heap[g]? = some (.cells (bCells m) 49 (0, 0))) (j : Nat) (v : Value) : (w.setCell ⟨g, j, none⟩ v).heap[g]? = some (.cells (bCells (fun k => if k = j then v else m k)) 49 (0, 0)) := blk_put h j v (bCells_set m j v)
theorem BoardAt.of {m : Nat → Value} (h : w.heap[g]? = some (.cells (bCells m) 49 (0, 0))) (hm : ∀ j, j < 1154 → m j = memOf pv lv s j) : BoardAt w g pv lv s := by
 unfold BoardAt
 rw [h, bCells_ext hm]
def Fl.set (f : Fl) (k : Nat) (v : Value) : Nat → Value := fun q => if q = k then v else f.v q
theorem BoardAt.putIt (h : BoardAt w g pv lv s) (i k : Nat) (hi : i < 64) (hk : k < 6) (v : Value) (f : Fl) (hf : ∀ q, q < 6 → f.v q = if q = k then v else (s.it i).v q) : BoardAt (w.setCell ⟨g, 2 + i * 6 + k, none⟩ v) g pv lv (s.setIt i f) := by
 refine BoardAt.of (BoardAt.put h _ _) (fun j hj => ?_)
 unfold memOf St.setIt
 dsimp only
 by_cases h0 : j = 0
 ·rw [if_neg (by omega), if_pos h0, if_pos h0]
 by_cases h1 : j = 1
 ·rw [if_neg (by omega), if_neg h0, if_pos h1, if_neg h0, if_pos h1]
 by_cases h2 : j < 386
 ·rw [if_neg h0, if_neg h1, if_pos h2, if_neg h0, if_neg h1, if_pos h2]
  by_cases h3 : (j - 2) / 6 = i
  ·rw [if_pos h3, hf _ (by omega), h3]
   by_cases h4 : j = 2 + i * 6 + k
   ·rw [if_pos h4, if_pos (by omega)]
   ·rw [if_neg h4, if_neg (by omega)]
  ·rw [if_neg h3, if_neg (by omega)]
 ·rw [if_neg (by omega), if_neg h0, if_neg h1, if_neg h2, if_neg h0, if_neg h1, if_neg h2]
theorem BoardAt.putBo (h : BoardAt w g pv lv s) (i k q : Nat) (hi : i < 64) (hk : k < 4) (hq : q < 3) (v : Value) (b : By) (hf : ∀ r, r < 3 → b.v r = if r = q then v else (s.bo i k).v r) : BoardAt (w.setCell ⟨g, 386 + i * 12 + k * 3 + q, none⟩ v) g pv lv (s.setBo i k b) := by
 refine BoardAt.of (BoardAt.put h _ _) (fun j hj => ?_)
 unfold memOf St.setBo
 dsimp only
 by_cases h0 : j = 0
 ·rw [if_neg (by omega), if_pos h0, if_pos h0]
 by_cases h1 : j = 1
 ·rw [if_neg (by omega), if_neg h0, if_pos h1, if_neg h0, if_pos h1]
 by_cases h2 : j < 386
 ·rw [if_neg (by omega), if_neg h0, if_neg h1, if_pos h2, if_neg h0, if_neg h1, if_pos h2]
 ·rw [if_neg h0, if_neg h1, if_neg h2, if_neg h0, if_neg h1, if_neg h2]
  by_cases h3 : (j - 386) / 12 = i ∧ (j - 386) % 12 / 3 = k
  ·rw [if_pos h3, hf _ (by omega), h3.1, h3.2]
   by_cases h4 : j = 386 + i * 12 + k * 3 + q
   ·rw [if_pos h4, if_pos (by omega)]
   ·rw [if_neg h4, if_neg (by omega)]
  ·rw [if_neg h3, if_neg (by omega)]
end
theorem BoardAt.putFl {w : World} {g : Nat} {pv lv : Value} {s : St} (h : BoardAt w g pv lv s) (i : Nat) (hi : i < 64) (f : Fl) : BoardAt ((((((w.setCell ⟨g, 2 + i * 6, none⟩ (.bool f.cl)).setCell ⟨g, 2 + i * 6 + 1, none⟩ (.bool f.tc)).setCell ⟨g, 2 + i * 6 + 2, none⟩ (.bool f.dn)).setCell ⟨g, 2 + i * 6 + 3, none⟩ (.bool f.sp)).setCell ⟨g, 2 + i * 6 + 4, none⟩ (.bool f.ha)).setCell ⟨g, 2 + i * 6 + 5, none⟩ (.int .i64 f.at_)) g pv lv (s.setIt i f) := by
 refine BoardAt.of (BoardAt.put (BoardAt.put (BoardAt.put (BoardAt.put (BoardAt.put (BoardAt.put h _ _) _ _) _ _) _ _) _ _) _ _) (fun j hj => ?_)
 by_cases h3 : 2 ≤ j ∧ (j - 2) / 6 = i
 ·obtain ⟨r, hr, rfl⟩ : ∃ r, r < 6 ∧ j = 2 + i * 6 + r := ⟨(j - 2) % 6, by omega, by omega⟩
  have e : (s.setIt i f).it i = f := by simp [St.setIt]
  rw [memOf_it (s := s.setIt i f) i r hi hr, e]
  match r, hr with
  | 0, _ => simp [Fl.v]
  | 1, _ => simp [Fl.v]
  | 2, _ => simp [Fl.v]
  | 3, _ => simp [Fl.v]
  | 4, _ => simp [Fl.v]
  | 5, _ => simp [Fl.v]
  | r + 6, hr => omega
 ·rw [if_neg (by omega), if_neg (by omega), if_neg (by omega), if_neg (by omega), if_neg (by omega), if_neg (by omega)]
  unfold memOf St.setIt
  dsimp only
  by_cases h0 : j = 0
  ·rw [if_pos h0, if_pos h0]
  by_cases h1 : j = 1
  ·rw [if_neg h0, if_pos h1, if_neg h0, if_pos h1]
  rw [if_neg (show ¬ (j - 2) / 6 = i by omega)]
theorem BoardAt.drew {w : World} {g : Nat} {pv lv : Value} {s : St} (h : BoardAt w g pv lv s) : BoardAt w.drew g pv lv s := blk_drew h
theorem at_letter_ {P : Program} {c : Code} {Q : Exit → Act → World → Prop} {a : Act} {w : World} (S : World → Prop) (hS : S w) (h : ∀ W, S W → c.wp P Q a W) : c.wp P Q a w := h w hS
def stepS (f : S59) : Fl := ⟨f.f0 == 0 || (f.f0 == 3 || f.f3), f.f0 != 0, f.f0 == 2 && f.f1 == 0, false, false, 0⟩
def BoardP (B : Nat) (w w' : World) (g : Nat) (pv lv : Value) (s : St) : Prop := Below B w w' ∧ BoardAt w' g pv lv s
set_option maxHeartbeats 8000000 in
set_option maxRecDepth 100000 in
theorem step_walk (l : List S59) (Al : Option Addr) (cl : Nat) (pv : Value) (s : St) (w0 w : World) (g i : Nat) (hl : Kd.C k59 w0 Al l.length l) (hb : Below w0.heap.size w0 w) (hg : w0.heap.size ≤ g) (hG : BoardAt w g pv (.slice Al l.length cl) s) (hi : i < l.length) (h64 : l.length ≤ 64) :
  Calls Try.prog 37 #[.pointer (some ⟨g, 0, none⟩), .int .i64 i] w fun e w' => e = .returned (.tuple #[]) ∧ BoardP w0.heap.size w0 w' g pv (.slice Al l.length cl) (s.setIt i (stepS (rd_T59 l (i : Int)))) := by
 obtain ⟨ad, e0, x0, x1, x2, x3⟩ := at_T59 (Kd.C_below hl hb) (i : Int) (by omega) (by omega)
 subst e0
 rw [Int.toNat_natCast] at x0 x1 x2 x3
 have hlt : (i : Int) < (l.length : Int) := by omega
 have h0 : (0 : Int) ≤ i := by omega
 have h6 : (i : Int) < 64 := by omega
 have y1 : w.cell? ⟨g, 1, none⟩ = some (.slice (some ad) l.length cl) := hG.cell 1 (by omega)
 have HG := Aside0.mk hG
 have HB := Aside0.mk hb
 obtain ⟨⟨a, b, c, d⟩, hf⟩ : ∃ f, rd_T59 l (i : Int) = f := ⟨_, rfl⟩
 rw [hf] at x0 x1 x2 x3 ⊢
 dsimp only at x0 x1 x2 x3
 clear hl hb hG hf
 unfold stepS
 dsimp only
 cases c0 : a == 0
 case' false => cases c3 : a == 3
 all_goals cases c2 : a == 2
 all_goals
  go_enter Try.func37, Try.ntmps37
  go_wp2
  refine at_letter_ (fun W => Aside0 (Below w0.heap.size w0 W) ∧ Aside0 (BoardAt W g pv (.slice (some ad) l.length cl) s) ∧ Aside0 (W.heap[w.heap.size]? = some (.cells #[.int .i64 a, .int .i64 b, .int .i64 c, .bool d] 59 (0, 0)))) ⟨⟨below_step HB.out ((Below.refl _ _).alloc (Nat.le_refl _) _)⟩, ⟨blk_alloc HG.out _⟩, ⟨blk_new _ _⟩⟩ (fun W ⟨HB2, HG2, HF⟩ => ?_)
  clear y1 x0 x1 x2 x3 HG HB
  generalize w.heap.size = gb at HF ⊢
  have x0 : W.cell? ⟨gb, 0, none⟩ = some (.int .i64 a) := (blk_cell HF.out 0).trans rfl
  have x1 : W.cell? ⟨gb, 1, none⟩ = some (.int .i64 b) := (blk_cell HF.out 1).trans rfl
  have x2 : W.cell? ⟨gb, 2, none⟩ = some (.int .i64 c) := (blk_cell HF.out 2).trans rfl
  have x3 : W.cell? ⟨gb, 3, none⟩ = some (.bool d) := (blk_cell HF.out 3).trans rfl
  have y0 := HG2.out.free (2 + i * 6)
  have y1 := HG2.out.free (2 + i * 6 + 1)
  have y2 := HG2.out.free (2 + i * 6 + 2)
  have y3 := HG2.out.free (2 + i * 6 + 3)
  have y4 := HG2.out.free (2 + i * 6 + 4)
  have y5 := HG2.out.free (2 + i * 6 + 5)
  have z0 := HG2.out.cell (2 + i * 6) (by omega)
  have z1 := HG2.out.cell (2 + i * 6 + 1) (by omega)
  have z2 := HG2.out.cell (2 + i * 6 + 2) (by omega)
  have z3 := HG2.out.cell (2 + i * 6 + 3) (by omega)
  have z4 := HG2.out.cell (2 + i * 6 + 4) (by omega)
  have z5 := HG2.out.cell (2 + i * 6 + 5) (by omega)
  go_region
  refine bodyPost_end (results_none rfl _ _ _) rfl ?_
  exact ⟨rfl, below_drewN (((((((HB2.out.setCell hg _).setCell hg _).setCell hg _).setCell hg _).setCell hg _).setCell hg _)) 1, (HG2.out.putFl i (by omega) ⟨_, _, _, _, _, _⟩).drew⟩
end Go.Proofs.Ytihpndignekheaa.F
end

section
namespace Go.Proofs.Ytihpndignekheaa.F
open Go.RowKit Go.Proofs.YtihpndignekheaaW.PrintWords Go.Proofs.YtihpndignekheaaW.PrintLast Go.Proofs.YtihpndignekheaaW.PrintMore
attribute [local go_sem] max2_int min2_int max_two min_two max_three min_three max_four min_four
set_option linter.unusedVariables false
set_option linter.unusedSimpArgs false
def By.agg (y : By) : Value := .agg #[.bool y.fa, .bool y.wh, .bool y.cl]
theorem dirty_walk (y : By) (w : World) : Calls Try.prog 45 (#[y.agg] ++ #[]) w fun e w' => e = .returned (.bool (!y.cl)) ∧ Below w.heap.size w w' := by
 obtain ⟨a, b, c⟩ := y
 show Calls Try.prog 45 #[By.agg ⟨a, b, c⟩] w _
 unfold By.agg
 go_enter Try.func45, Try.ntmps45
 go_wp2
 go_ret
 exact ⟨rfl, below_alloc (Below.refl _ _) _⟩
theorem stays_walk (y : By) (w : World) : Calls Try.prog 46 (#[y.agg] ++ #[]) w fun e w' => e = .returned (.bool (!y.fa || !y.cl)) ∧ Below w.heap.size w w' := by
 obtain ⟨a, b, c⟩ := y
 show Calls Try.prog 46 #[By.agg ⟨a, b, c⟩] w _
 unfold By.agg
 cases a
 all_goals
  go_enter Try.func46, Try.ntmps46
  go_wp2
  go_ret
  exact ⟨rfl, below_alloc (Below.refl _ _) _⟩
theorem bel_drew_ {w w' : World} (h : Below w.drew.heap.size w.drew w') : Below w.heap.size w w' := (below_drewN (Below.refl w.heap.size w) 1).trans h
def firstF (pr : By → Bool) (f : Nat → By) : Nat → Nat → Int
 | _, 0 => -1
 | k, d + 1 => if pr (f k) then (k : Int) else firstF pr f (k + 1) d
set_option maxHeartbeats 8000000 in
set_option maxRecDepth 100000 in
theorem first_walk (gf : Nat) (eg : ∀ args w, (callFunc gf args).run Try.prog w = .ok (.enter gf args) w) (pr : By → Bool) (hp : ∀ y w, Calls Try.prog gf (#[By.agg y] ++ #[]) w fun e w' => e = .returned (.bool (pr y)) ∧ Below w.heap.size w w')
  (p : List S37) (Ap : Option Addr) (cp : Nat) (lv : Value) (s : St) (w : World) (g gb gi i n : Nat) (hr : Kd.C k37 w Ap p.length p) (hG : BoardAt w g (.slice Ap p.length cp) lv s) (hb : w.heap[gb]? = some (.cells #[.pointer (some ⟨g, 0, none⟩)] 40 (0, 0))) (hi : w.heap[gi]? = some (.cells #[.int .i64 i] 3 (0, 0)))
  (hip : i < p.length) (h64 : p.length ≤ 64) (hn : (rd_T37 p (i : Int)).f4 = n) (hn4 : n ≤ 4) :
  Calls Try.prog 44 #[.func (.func gf) #[] #[], .pointer (some ⟨gb, 0, none⟩), .pointer (some ⟨gi, 0, none⟩)] w fun e w' => e = .returned (.int .i64 (firstF pr (s.bo i) 0 n)) ∧ Below w.heap.size w w' := by
 obtain ⟨ad, A7, c7, e0, x0, x1, x2, x3, x4, x5, x6, x7, _, _⟩ := at_T37 hr (i : Int) (by omega) (by omega)
 subst e0
 rw [Int.toNat_natCast] at x4
 rw [hn] at x4
 clear x0 x1 x2 x3 x5 x6 x7
 have yb : w.cell? ⟨gb, 0, none⟩ = some (.pointer (some ⟨g, 0, none⟩)) := (blk_cell hb 0).trans rfl
 have yi : w.cell? ⟨gi, 0, none⟩ = some (.int .i64 i) := (blk_cell hi 0).trans rfl
 have y0 : w.cell? ⟨g, 0, none⟩ = some (.slice (some ad) p.length cp) := hG.cell 0 (by omega)
 have HG := Aside0.mk hG
 have HGB := Aside0.mk hb
 have HGI := Aside0.mk hi
 have HP := Aside0.mk hp
 have HN4 := Aside0.mk hn4
 have hlt : (i : Int) < (p.length : Int) := by omega
 have h0 : (0 : Int) ≤ i := by omega
 have h6 : (i : Int) < 64 := by omega
 clear hr hG hb hi hp hn
 go_enter Try.func44, Try.ntmps44
 go_wp2
 go_region
 go_wp2
 clear x4 y0 yb yi
 go_loopg [15] n (fun kq v15 w' => ∃ k : Nat, k + kq = n ∧ v15 = .int .i64 k ∧ Aside0 (firstF pr (s.bo i) 0 n = firstF pr (s.bo i) k kq) ∧ Aside0 (Below w.heap.size w w'))
 case atStart => exact ⟨0, by omega, rfl, ⟨rfl⟩, ⟨below_drewN (Below.refl _ _) 1⟩⟩
 case round =>
  obtain ⟨k, hk, rfl, HF, HB⟩ := hrel
  have hn4 := HN4.out
  cases gk with
  | zero =>
   obtain rfl : k = n := by omega
   have HE : Aside0 (firstF pr (s.bo i) 0 k = -1) := ⟨HF.out⟩
   clear eg
   go_wp2
   go_ret
   exact ⟨by rw [HE.out]; rfl, HB.out⟩
  | succ d =>
   have hlt2 : (k : Int) < (n : Int) := by omega
   have hk4 : (k : Int) < 4 := by omega
   have hk0 : (0 : Int) ≤ k := by omega
   have yb : wr.cell? ⟨gb, 0, none⟩ = some (.pointer (some ⟨g, 0, none⟩)) := (blk_cell (blk_below HGB.out HB.out) 0).trans rfl
   have yi : wr.cell? ⟨gi, 0, none⟩ = some (.int .i64 i) := (blk_cell (blk_below HGI.out HB.out) 0).trans rfl
   have HG2 : Aside0 (BoardAt wr g (.slice (some ad) p.length cp) lv s) := ⟨blk_below HG.out HB.out⟩
   have z0 : wr.cell? ⟨g, 386 + i * 12 + k * 3, none⟩ = some (.bool (s.bo i k).fa) := HG2.out.bo i k 0 (by omega) (by omega) (by omega)
   have z1 : wr.cell? ⟨g, 386 + i * 12 + k * 3 + 1, none⟩ = some (.bool (s.bo i k).wh) := HG2.out.bo i k 1 (by omega) (by omega) (by omega)
   have z2 : wr.cell? ⟨g, 386 + i * 12 + k * 3 + 2, none⟩ = some (.bool (s.bo i k).cl) := HG2.out.bo i k 2 (by omega) (by omega) (by omega)
   have HK := Aside0.mk hk
   obtain ⟨y, hy⟩ : ∃ y, s.bo i k = y := ⟨_, rfl⟩
   rw [hy] at z0 z1 z2
   have HY := Aside0.mk hy
   obtain ⟨v, hv⟩ : ∃ v, pr y = v := ⟨_, rfl⟩
   have HV := Aside0.mk hv
   have HC : Aside0 (∀ w, Calls Try.prog gf (#[.agg #[.bool y.fa, .bool y.wh, .bool y.cl]] ++ #[]) w fun e w' => e = .returned (.bool v) ∧ Below w.heap.size w w') := ⟨fun w => by have := HP.out y w; rw [hv] at this; exact this⟩
   clear hk hy hv
   go_wp2_with (fail)
   clear HGB HGI HP HG2 hn4 HN4
   have HS : Aside0 (firstF pr (s.bo i) 0 n = if v then (k : Int) else firstF pr (s.bo i) (k + 1) d) := ⟨by rw [HF.out, firstF, HY.out, HV.out]⟩
   clear HF HY HV
   cases v
   all_goals go_region_with ((go_at_fn gf; refine (HC.out _).mono ?_; rintro e w2 ⟨rfl, hB2⟩; have HB2 := Aside0.mk (HB.out.trans ((bel_drew_ hB2).mono HB.out.size)); clear hB2))
   all_goals go_wp2
   all_goals first
    | (go_ret; exact ⟨by rw [HS.out]; rfl, HB2.out⟩)
    | (go_roundg d; (case measure => omega); (case rel => exact ⟨k + 1, by have := HK.out; omega, by go_num, ⟨by rw [HS.out]; rfl⟩, ⟨HB2.out⟩⟩))
theorem BoardAt.reIt {w : World} {g : Nat} {pv lv : Value} {s : St} {i : Nat} {f : Fl} (h : BoardAt w g pv lv (s.setIt i f)) (k : Nat) (hi : i < 64) (hk : k < 6) (v : Value) (f' : Fl) (hf : ∀ q, q < 6 → f'.v q = if q = k then v else f.v q) : BoardAt (w.setCell ⟨g, 2 + i * 6 + k, none⟩ v) g pv lv (s.setIt i f') := by
 have h2 := h.putIt i k hi hk v f' (fun q hq => by rw [show (s.setIt i f).it i = f from by simp [St.setIt]]; exact hf q hq)
 have e : (s.setIt i f).setIt i f' = s.setIt i f' := by
  unfold St.setIt
  dsimp only
  congr 1
  funext j
  by_cases h : j = i
  ·rw [if_pos h, if_pos h]
  ·rw [if_neg h, if_neg h, if_neg h]
 rwa [e] at h2
theorem fl6_ {p : Nat → Prop} (h0 : p 0) (h1 : p 1) (h2 : p 2) (h3 : p 3) (h4 : p 4) (h5 : p 5) : ∀ q, q < 6 → p q := fun q hq => by
 match q, hq with
 | 0, _ => exact h0
 | 1, _ => exact h1
 | 2, _ => exact h2
 | 3, _ => exact h3
 | 4, _ => exact h4
 | 5, _ => exact h5
 | q + 6, h => omega
def sagaS (n : Nat) (f : Nat → By) (x : Fl) : Fl :=
 if firstF (fun y => !y.fa || !y.cl) f 0 n < 0 then ⟨decide (firstF (fun y => !y.cl) f 0 n < 0), x.tc, x.dn, true, x.ha, (n : Int) - 1⟩
 else ⟨decide (firstF (fun y => !y.cl) f 0 n < 0), x.tc, (f (firstF (fun y => !y.fa || !y.cl) f 0 n).toNat).wh, false, x.ha, firstF (fun y => !y.fa || !y.cl) f 0 n⟩
theorem firstF_lt (pr : By → Bool) (f : Nat → By) : ∀ (d k : Nat), firstF pr f k d < ((k + d : Nat) : Int) ∧ -1 ≤ firstF pr f k d
 | 0, k => by unfold firstF; omega
 | d + 1, k => by
  have := firstF_lt pr f d (k + 1)
  unfold firstF
  split <;> omega
set_option maxHeartbeats 8000000 in
set_option maxRecDepth 100000 in
theorem saga_walk (p : List S37) (Ap : Option Addr) (cp : Nat) (lv : Value) (s : St) (w0 w : World) (g i n : Nat) (hr : Kd.C k37 w0 Ap p.length p) (hb : Below w0.heap.size w0 w) (hg : w0.heap.size ≤ g) (hG : BoardAt w g (.slice Ap p.length cp) lv s)
  (hip : i < p.length) (h64 : p.length ≤ 64) (hn : (rd_T37 p (i : Int)).f4 = n) (hn4 : n ≤ 4) :
  Calls Try.prog 36 #[.pointer (some ⟨g, 0, none⟩), .int .i64 i] w fun e w' => e = .returned (.tuple #[]) ∧ BoardP w0.heap.size w0 w' g (.slice Ap p.length cp) lv (s.setIt i (sagaS n (s.bo i) (s.it i))) := by
 have hmf : ∀ (fn : Fn) (first cap : Array Value) (w : World), (Instr.makeFunc fn first cap).run Try.prog w = .ok (.func fn first cap) w := fun _ _ _ _ => rfl
 have eg := enters_of Try.func44 (P := Try.prog) (f := 44) (by kernel_rfl) rfl
 have E2 := Aside0.mk (enters_of Try.func45 (P := Try.prog) (f := 45) (by kernel_rfl) rfl)
 have E3 := Aside0.mk (enters_of Try.func46 (P := Try.prog) (f := 46) (by kernel_rfl) rfl)
 have HR := Aside0.mk hr
 have HN := Aside0.mk hn
 have HIP := Aside0.mk hip
 have H64 := Aside0.mk h64
 have HN4 := Aside0.mk hn4
 have h6 : (i : Int) < 64 := by omega
 have h0 : (0 : Int) ≤ i := by omega
 have HB0 := Aside0.mk hb
 have HG0 := Aside0.mk hG
 clear hr hn hip h64 hn4 hb hG
 go_enter Try.func36, Try.ntmps36
 go_wp2
 refine at_letter_ (fun W => Aside0 (Below w0.heap.size w0 W) ∧ Aside0 (BoardAt W g (.slice Ap p.length cp) lv s) ∧ Aside0 (W.heap[w.heap.size]? = some (.cells #[.pointer (some ⟨g, 0, none⟩)] 40 (0, 0))) ∧ Aside0 (W.heap[w.heap.size + 1]? = some (.cells #[.int .i64 i] 3 (0, 0))))
  ⟨⟨(HB0.out.alloc HB0.out.size _).alloc (HB0.out.alloc HB0.out.size _).size _⟩, ⟨blk_alloc (blk_alloc HG0.out _) _⟩, ⟨blk_alloc (blk_new _ _) _⟩, ⟨by have h := blk_new (w.alloc (.cells #[.pointer (some ⟨g, 0, none⟩)] 40 (0, 0))) (.cells #[.int .i64 i] 3 (0, 0)); rwa [show (w.alloc (.cells #[.pointer (some ⟨g, 0, none⟩)] 40 (0, 0))).heap.size = w.heap.size + 1 from by simp] at h⟩⟩ (fun W ⟨HB, HG, HGB, HGI⟩ => ?_)
 have HNE : Aside0 (g ≠ w.heap.size ∧ g ≠ w.heap.size + 1) := ⟨by have := blk_lt HG0.out; omega⟩
 clear HB0 HG0
 generalize w.heap.size + 1 = gi at HGI HNE ⊢
 generalize w.heap.size = gb at HGB HNE ⊢
 have yb : W.cell? ⟨gb, 0, none⟩ = some (.pointer (some ⟨g, 0, none⟩)) := (blk_cell HGB.out 0).trans rfl
 have yi : W.cell? ⟨gi, 0, none⟩ = some (.int .i64 i) := (blk_cell HGI.out 0).trans rfl
 have z0 := HG.out.cell (2 + i * 6) (by have := HIP.out; have := H64.out; omega)
 have z3 := HG.out.cell (2 + i * 6 + 3) (by have := HIP.out; have := H64.out; omega)
 have y0 := HG.out.free (2 + i * 6)
 have y3 := HG.out.free (2 + i * 6 + 3)
 go_region
 go_wp2_with (fail)
 clear yb yi z0 z3 y0 y3
 have h64 : i < 64 := by omega
 have HB1 : Aside0 (Below w0.heap.size w0 ((W.setCell ⟨g, 2 + i * 6, none⟩ (.bool true)).setCell ⟨g, 2 + i * 6 + 3, none⟩ (.bool true)).drew) := ⟨below_drewN ((HB.out.setCell hg _).setCell hg _) 1⟩
 have HG1 : Aside0 (BoardAt ((W.setCell ⟨g, 2 + i * 6, none⟩ (.bool true)).setCell ⟨g, 2 + i * 6 + 3, none⟩ (.bool true)).drew g (.slice Ap p.length cp) lv (s.setIt i ⟨true, (s.it i).tc, (s.it i).dn, true, (s.it i).ha, (s.it i).at_⟩)) :=
  ⟨((HG.out.putIt i 0 h64 (by omega) (.bool true) ⟨true, (s.it i).tc, (s.it i).dn, (s.it i).sp, (s.it i).ha, (s.it i).at_⟩ (by exact fl6_ rfl rfl rfl rfl rfl rfl)).reIt 3 h64 (by omega) (.bool true) _ (by exact fl6_ rfl rfl rfl rfl rfl rfl)).drew⟩
 have HGB1 : Aside0 (((W.setCell ⟨g, 2 + i * 6, none⟩ (.bool true)).setCell ⟨g, 2 + i * 6 + 3, none⟩ (.bool true)).drew.heap[gb]? = some (.cells #[.pointer (some ⟨g, 0, none⟩)] 40 (0, 0))) := ⟨blk_drew (blk_far (blk_far HGB.out (fun e => HNE.out.1 e.symm) _) (fun e => HNE.out.1 e.symm) _)⟩
 have HGI1 : Aside0 (((W.setCell ⟨g, 2 + i * 6, none⟩ (.bool true)).setCell ⟨g, 2 + i * 6 + 3, none⟩ (.bool true)).drew.heap[gi]? = some (.cells #[.int .i64 i] 3 (0, 0))) := ⟨blk_drew (blk_far (blk_far HGI.out (fun e => HNE.out.2 e.symm) _) (fun e => HNE.out.2 e.symm) _)⟩
 clear HB HG HGB HGI
 generalize ((W.setCell ⟨g, 2 + i * 6, none⟩ (.bool true)).setCell ⟨g, 2 + i * 6 + 3, none⟩ (.bool true)).drew = W1 at HB1 HG1 HGB1 HGI1 ⊢
 refine (first_walk 45 E2.out (fun y => !y.cl) dirty_walk p Ap cp lv _ W1 g gb gi i n (Kd.C_below HR.out HB1.out) HG1.out HGB1.out HGI1.out HIP.out H64.out HN.out HN4.out).mono ?_
 rintro e w2 ⟨rfl, hb2⟩
 have HB2 := Aside0.mk (HB1.out.trans (hb2.mono HB1.out.size))
 have HG2 : Aside0 (BoardAt w2 g (.slice Ap p.length cp) lv (s.setIt i ⟨true, (s.it i).tc, (s.it i).dn, true, (s.it i).ha, (s.it i).at_⟩)) := ⟨blk_below HG1.out hb2⟩
 have HGB2 := Aside0.mk (blk_below HGB1.out hb2)
 have HGI2 := Aside0.mk (blk_below HGI1.out hb2)
 clear HB1 HG1 HGB1 HGI1 hb2
 show (_ : Act → World → Prop) _ _
 have z0 := HG2.out.cell (2 + i * 6) (by omega)
 have y0 := HG2.out.free (2 + i * 6)
 obtain ⟨n1, hn1⟩ : ∃ n1, firstF (fun y => !y.cl) (s.bo i) 0 n = n1 := ⟨_, rfl⟩
 have HN1 := Aside0.mk hn1
 have hx : firstF (fun y => !y.cl) ((s.setIt i ⟨true, (s.it i).tc, (s.it i).dn, true, (s.it i).ha, (s.it i).at_⟩).bo i) 0 n = n1 := hn1
 rw [hx]
 clear hx hn1
 go_wp2_with (fail)
 generalize hb1 : decide (n1 < 0) = b1
 have HBD1 := Aside0.mk hb1
 clear hb1
 have HB3 : Aside0 (Below w0.heap.size w0 (w2.setCell ⟨g, 2 + i * 6, none⟩ (.bool b1))) := ⟨HB2.out.setCell hg _⟩
 have HG3 : Aside0 (BoardAt (w2.setCell ⟨g, 2 + i * 6, none⟩ (.bool b1)) g (.slice Ap p.length cp) lv (s.setIt i ⟨b1, (s.it i).tc, (s.it i).dn, true, (s.it i).ha, (s.it i).at_⟩)) := ⟨HG2.out.reIt 0 h64 (by omega) (.bool b1) ⟨b1, (s.it i).tc, (s.it i).dn, true, (s.it i).ha, (s.it i).at_⟩ (by exact fl6_ rfl rfl rfl rfl rfl rfl)⟩
 have HGB3 := Aside0.mk (blk_far (p := ⟨g, 2 + i * 6, none⟩) HGB2.out (fun e => HNE.out.1 e.symm) (.bool b1))
 have HGI3 := Aside0.mk (blk_far (p := ⟨g, 2 + i * 6, none⟩) HGI2.out (fun e => HNE.out.2 e.symm) (.bool b1))
 clear HB2 HG2 HGB2 HGI2 z0 y0
 generalize w2.setCell ⟨g, 2 + i * 6, none⟩ (.bool b1) = W3 at HB3 HG3 HGB3 HGI3 ⊢
 refine (first_walk 46 E3.out (fun y => !y.fa || !y.cl) stays_walk p Ap cp lv _ W3 g gb gi i n (Kd.C_below HR.out HB3.out) HG3.out HGB3.out HGI3.out HIP.out H64.out HN.out HN4.out).mono ?_
 rintro e w4 ⟨rfl, hb4⟩
 have HB4 := Aside0.mk (HB3.out.trans (hb4.mono HB3.out.size))
 have HG4 : Aside0 (BoardAt w4 g (.slice Ap p.length cp) lv (s.setIt i ⟨b1, (s.it i).tc, (s.it i).dn, true, (s.it i).ha, (s.it i).at_⟩)) := ⟨blk_below HG3.out hb4⟩
 have HGB4 := Aside0.mk (blk_below HGB3.out hb4)
 have HGI4 := Aside0.mk (blk_below HGI3.out hb4)
 clear HB3 HG3 HGB3 HGI3 hb4
 show (_ : Act → World → Prop) _ _
 have z5 := HG4.out.cell (2 + i * 6 + 5) (by omega)
 have y5 := HG4.out.free (2 + i * 6 + 5)
 have z3 := HG4.out.cell (2 + i * 6 + 3) (by omega)
 have y3 := HG4.out.free (2 + i * 6 + 3)
 obtain ⟨n2, hn2⟩ : ∃ n2, firstF (fun y => !y.fa || !y.cl) (s.bo i) 0 n = n2 := ⟨_, rfl⟩
 have HN2 := Aside0.mk hn2
 have hx : firstF (fun y => !y.fa || !y.cl) ((s.setIt i ⟨b1, (s.it i).tc, (s.it i).dn, true, (s.it i).ha, (s.it i).at_⟩).bo i) 0 n = n2 := hn2
 rw [hx]
 have HL2 := Aside0.mk (hn2 ▸ firstF_lt (fun y => !y.fa || !y.cl) (s.bo i) n 0)
 clear hx hn2
 by_cases hneg : n2 < 0
 ·have HNEG := Aside0.mk hneg
  go_wp2
  refine at_letter_ (fun W => Aside0 (Below w0.heap.size w0 W) ∧ Aside0 (BoardAt W g (.slice Ap p.length cp) lv (s.setIt i ⟨b1, (s.it i).tc, (s.it i).dn, true, (s.it i).ha, n2⟩)) ∧ Aside0 (W.heap[gb]? = some (.cells #[.pointer (some ⟨g, 0, none⟩)] 40 (0, 0))) ∧ Aside0 (W.heap[gi]? = some (.cells #[.int .i64 i] 3 (0, 0))))
   ⟨⟨(HB4.out.setCell hg _).setCell hg _⟩, ⟨(HG4.out.reIt 5 h64 (by omega) (.int .i64 n2) ⟨b1, (s.it i).tc, (s.it i).dn, true, (s.it i).ha, n2⟩ (by exact fl6_ rfl rfl rfl rfl rfl rfl)).reIt 3 h64 (by omega) (.bool true) ⟨b1, (s.it i).tc, (s.it i).dn, true, (s.it i).ha, n2⟩ (by exact fl6_ rfl rfl rfl rfl rfl rfl)⟩, ⟨blk_far (blk_far HGB4.out (fun e => HNE.out.1 e.symm) _) (fun e => HNE.out.1 e.symm) _⟩, ⟨blk_far (blk_far HGI4.out (fun e => HNE.out.2 e.symm) _) (fun e => HNE.out.2 e.symm) _⟩⟩ (fun W5 ⟨HB5, HG5, HGB5, HGI5⟩ => ?_)
  clear HB4 HG4 HGB4 HGI4 z5 y5 z3 y3 HNE
  have yb : W5.cell? ⟨gb, 0, none⟩ = some (.pointer (some ⟨g, 0, none⟩)) := (blk_cell HGB5.out 0).trans rfl
  have yi : W5.cell? ⟨gi, 0, none⟩ = some (.int .i64 i) := (blk_cell HGI5.out 0).trans rfl
  have hip := HIP.out
  obtain ⟨ad, A7, c7, e0, x0, x1, x2, x3, x4, x5, x6, x7, _, _⟩ := at_T37 (Kd.C_below HR.out HB5.out) (i : Int) (by omega) (by omega)
  subst e0
  rw [Int.toNat_natCast, HN.out] at x4
  clear x0 x1 x2 x3 x5 x6 x7
  have y0 : W5.cell? ⟨g, 0, none⟩ = some (.slice (some ad) p.length cp) := HG5.out.cell 0 (by omega)
  have z5 := HG5.out.cell (2 + i * 6 + 5) (by omega)
  have y5 := HG5.out.free (2 + i * 6 + 5)
  have hlt : (i : Int) < (p.length : Int) := by omega
  have hn4 : (n : Int) ≤ 4 := by have := HN4.out; omega
  have hn0 : (0 : Int) ≤ n := by omega
  go_region
  go_wp2
  refine bodyPost_ret (results_none rfl _ _ _) rfl ?_
  have hx : sagaS n (s.bo i) (s.it i) = ⟨b1, (s.it i).tc, (s.it i).dn, true, (s.it i).ha, (n : Int) - 1⟩ := by
   unfold sagaS
   rw [HN2.out, if_pos HNEG.out, HN1.out, HBD1.out]
  rw [hx]
  exact ⟨rfl, below_drewN (HB5.out.setCell hg _) 1, (HG5.out.reIt 5 h64 (by omega) (.int .i64 ((n : Int) - 1)) ⟨b1, (s.it i).tc, (s.it i).dn, true, (s.it i).ha, (n : Int) - 1⟩ (by exact fl6_ rfl rfl rfl rfl rfl rfl)).drew⟩
 ·have HNEG := Aside0.mk hneg
  obtain ⟨k, rfl⟩ := Int.eq_ofNat_of_zero_le (Int.not_lt.1 hneg)
  go_wp2
  refine at_letter_ (fun W => Aside0 (Below w0.heap.size w0 W) ∧ Aside0 (BoardAt W g (.slice Ap p.length cp) lv (s.setIt i ⟨b1, (s.it i).tc, (s.it i).dn, false, (s.it i).ha, (k : Int)⟩)) ∧ Aside0 (W.heap[gb]? = some (.cells #[.pointer (some ⟨g, 0, none⟩)] 40 (0, 0))) ∧ Aside0 (W.heap[gi]? = some (.cells #[.int .i64 i] 3 (0, 0))))
   ⟨⟨(HB4.out.setCell hg _).setCell hg _⟩, ⟨(HG4.out.reIt 5 h64 (by omega) (.int .i64 (k : Int)) ⟨b1, (s.it i).tc, (s.it i).dn, true, (s.it i).ha, (k : Int)⟩ (by exact fl6_ rfl rfl rfl rfl rfl rfl)).reIt 3 h64 (by omega) (.bool false) ⟨b1, (s.it i).tc, (s.it i).dn, false, (s.it i).ha, (k : Int)⟩ (by exact fl6_ rfl rfl rfl rfl rfl rfl)⟩, ⟨blk_far (blk_far HGB4.out (fun e => HNE.out.1 e.symm) _) (fun e => HNE.out.1 e.symm) _⟩, ⟨blk_far (blk_far HGI4.out (fun e => HNE.out.2 e.symm) _) (fun e => HNE.out.2 e.symm) _⟩⟩ (fun W5 ⟨HB5, HG5, HGB5, HGI5⟩ => ?_)
  clear HB4 HG4 HGB4 HGI4 z5 y5 z3 y3 HNE
  have yb : W5.cell? ⟨gb, 0, none⟩ = some (.pointer (some ⟨g, 0, none⟩)) := (blk_cell HGB5.out 0).trans rfl
  have yi : W5.cell? ⟨gi, 0, none⟩ = some (.int .i64 i) := (blk_cell HGI5.out 0).trans rfl
  have hk4 : k < 4 := by have := HL2.out; have := HN4.out; omega
  have y0 : W5.cell? ⟨g, 2 + i * 6 + 5, none⟩ = some (.int .i64 k) := HG5.out.it i 5 h64 (by omega) |>.trans (by simp [St.setIt, Fl.v])
  have yw : W5.cell? ⟨g, 386 + i * 12 + k * 3 + 1, none⟩ = some (.bool (s.bo i k).wh) := HG5.out.bo i k 1 h64 hk4 (by omega)
  have z2 := HG5.out.cell (2 + i * 6 + 2) (by omega)
  have y2 := HG5.out.free (2 + i * 6 + 2)
  have hk0 : (0 : Int) ≤ k := by omega
  have hk5 : (k : Int) < 4 := by omega
  go_region
  refine bodyPost_end (results_none rfl _ _ _) rfl ?_
  have hx : sagaS n (s.bo i) (s.it i) = ⟨b1, (s.it i).tc, (s.bo i k).wh, false, (s.it i).ha, k⟩ := by
   unfold sagaS
   rw [HN2.out, if_neg (by have := HNEG.out; omega), HN1.out, HBD1.out, Int.toNat_natCast]
  rw [hx]
  exact ⟨rfl, below_drewN (HB5.out.setCell hg _) 1, (HG5.out.reIt 2 h64 (by omega) (.bool (s.bo i k).wh) ⟨b1, (s.it i).tc, (s.bo i k).wh, false, (s.it i).ha, k⟩ (by exact fl6_ rfl rfl rfl rfl rfl rfl)).drew⟩
end Go.Proofs.Ytihpndignekheaa.F
end

section
namespace Go.Proofs.Ytihpndignekheaa.F
open Go.RowKit Go.Proofs.YtihpndignekheaaW.PrintWords Go.Proofs.YtihpndignekheaaW.PrintLast Go.Proofs.YtihpndignekheaaW.PrintMore
attribute [local go_sem] max2_int min2_int max_two min_two max_three min_three max_four min_four
set_option linter.unusedVariables false
set_option linter.unusedSimpArgs false
def handB (vi : Bool) (run : Int) (f : Fl) (y : By) : By := ⟨y.fa || (run == 3 || (vi && f.sp)), y.wh && (f.dn || (f.sp && !vi)), y.cl && f.cl⟩
def Fl.touch (x : Fl) (t : Bool) : Fl := ⟨x.cl, x.tc || t, x.dn, x.sp, x.ha, x.at_⟩
def handS (vi : Bool) (run : Int) (f : Fl) (s : St) (j k : Nat) : St := (s.setBo j k (handB vi run f (s.bo j k))).setIt j ((s.it j).touch f.tc)
theorem BoardAt.reBo {w : World} {g : Nat} {pv lv : Value} {s : St} {i k : Nat} {b : By} (h : BoardAt w g pv lv (s.setBo i k b)) (q : Nat) (hi : i < 64) (hk : k < 4) (hq : q < 3) (v : Value) (b' : By) (hf : ∀ r, r < 3 → b'.v r = if r = q then v else b.v r) : BoardAt (w.setCell ⟨g, 386 + i * 12 + k * 3 + q, none⟩ v) g pv lv (s.setBo i k b') := by
 have h2 := h.putBo i k q hi hk hq v b' (fun r hr => by rw [show (s.setBo i k b).bo i k = b from by simp [St.setBo]]; exact hf r hr)
 have e : (s.setBo i k b).setBo i k b' = s.setBo i k b' := by
  unfold St.setBo
  dsimp only
  congr 1
  funext j r
  by_cases h : j = i ∧ r = k
  ·rw [if_pos h, if_pos h]
  ·rw [if_neg h, if_neg h, if_neg h]
 rwa [e] at h2
theorem by3_ {p : Nat → Prop} (h0 : p 0) (h1 : p 1) (h2 : p 2) : ∀ q, q < 3 → p q := fun q hq => by
 match q, hq with
 | 0, _ => exact h0
 | 1, _ => exact h1
 | 2, _ => exact h2
 | q + 3, h => omega
theorem blkB_ (w : World) (o1 o2 : Obj) : ((w.alloc o1).alloc o2).heap[w.heap.size + 1]? = some o2 := by
 have h := blk_new (w.alloc o1) o2
 rwa [show (w.alloc o1).heap.size = w.heap.size + 1 from by simp] at h
def HandI (w0 W : World) (g g4 g5 : Nat) (pv lv : Value) (s : St) (ci cf : Array Value) : Prop := Below w0.heap.size w0 W ∧ BoardAt W g pv lv s ∧ W.heap[g4]? = some (.cells ci 37 (0, 0)) ∧ W.heap[g5]? = some (.cells cf 42 (0, 0)) ∧ g ≠ g4 ∧ g ≠ g5
theorem HandI.put {w0 W : World} {g g4 g5 : Nat} {pv lv : Value} {s s' : St} {ci cf : Array Value} (h : HandI w0 W g g4 g5 pv lv s ci cf) (hg : w0.heap.size ≤ g) (j : Nat) (v : Value) (hs : BoardAt (W.setCell ⟨g, j, none⟩ v) g pv lv s') : HandI w0 (W.setCell ⟨g, j, none⟩ v) g g4 g5 pv lv s' ci cf :=
 ⟨h.1.setCell hg _, hs, blk_far h.2.2.1 (fun e => h.2.2.2.2.1 e.symm) _, blk_far h.2.2.2.1 (fun e => h.2.2.2.2.2 e.symm) _, h.2.2.2.2⟩
theorem HandI.drew {w0 W : World} {g g4 g5 : Nat} {pv lv : Value} {s : St} {ci cf : Array Value} (h : HandI w0 W g g4 g5 pv lv s ci cf) : HandI w0 W.drew g g4 g5 pv lv s ci cf :=
 ⟨below_drewN h.1 1, h.2.1.drew, blk_drew h.2.2.1, blk_drew h.2.2.2.1, h.2.2.2.2⟩
set_option maxHeartbeats 8000000 in
set_option maxRecDepth 100000 in
theorem hand_walk (p : List S37) (Ap : Option Addr) (cp : Nat) (l : List S59) (Al : Option Addr) (cl : Nat) (s : St) (w0 w : World) (g i j k : Nat) (hr : Kd.C k37 w0 Ap p.length p) (hl : Kd.C k59 w0 Al l.length l) (hpl : l.length = p.length) (hb : Below w0.heap.size w0 w) (hg : w0.heap.size ≤ g) (hG : BoardAt w g (.slice Ap p.length cp) (.slice Al l.length cl) s)
  (hip : i < p.length) (h64 : p.length ≤ 64) (hj : (rd_T37 p (i : Int)).f5 = j) (hk : (rd_T37 p (i : Int)).f6 = k) (hj64 : j < 64) (hk4 : k < 4) :
  Calls Try.prog 38 #[.pointer (some ⟨g, 0, none⟩), .int .i64 i] w fun e w' => e = .returned (.tuple #[]) ∧ BoardP w0.heap.size w0 w' g (.slice Ap p.length cp) (.slice Al l.length cl) (handS (rd_T37 p (i : Int)).f3 (rd_T59 l (i : Int)).f0 (s.it i) s j k) := by
 obtain ⟨ad, A7, c7, e0, x0, x1, x2, x3, x4, x5, x6, x7, _, _⟩ := at_T37 (Kd.C_below hr hb) (i : Int) (by omega) (by omega)
 obtain ⟨al, e1, _⟩ := at_T59 hl (i : Int) (by omega) (by omega)
 subst e0
 subst e1
 rw [Int.toNat_natCast] at x0 x1 x2 x3 x4 x5 x6 x7
 rw [hj] at x5
 rw [hk] at x6
 obtain ⟨⟨p0, p1, p2, vi, p4, p5, p6, p7⟩, hx⟩ : ∃ x, rd_T37 p (i : Int) = x := ⟨_, rfl⟩
 rw [hx] at x0 x1 x2 x3 x4 x7 ⊢
 dsimp only at x0 x1 x2 x3 x4 x7 ⊢
 clear hj hk hx
 obtain ⟨⟨fcl, ftc, fdn, fsp, fha, fat⟩, hf⟩ : ∃ f, s.it i = f := ⟨_, rfl⟩
 have hi64 : i < 64 := by omega
 have z0 : w.cell? ⟨g, 2 + i * 6, none⟩ = some (.bool fcl) := (hG.it i 0 hi64 (by omega)).trans (by rw [hf]; rfl)
 have z1 : w.cell? ⟨g, 2 + i * 6 + 1, none⟩ = some (.bool ftc) := (hG.it i 1 hi64 (by omega)).trans (by rw [hf]; rfl)
 have z2 : w.cell? ⟨g, 2 + i * 6 + 2, none⟩ = some (.bool fdn) := (hG.it i 2 hi64 (by omega)).trans (by rw [hf]; rfl)
 have z3 : w.cell? ⟨g, 2 + i * 6 + 3, none⟩ = some (.bool fsp) := (hG.it i 3 hi64 (by omega)).trans (by rw [hf]; rfl)
 have z4 : w.cell? ⟨g, 2 + i * 6 + 4, none⟩ = some (.bool fha) := (hG.it i 4 hi64 (by omega)).trans (by rw [hf]; rfl)
 have z5 : w.cell? ⟨g, 2 + i * 6 + 5, none⟩ = some (.int .i64 fat) := (hG.it i 5 hi64 (by omega)).trans (by rw [hf]; rfl)
 have y0 : w.cell? ⟨g, 0, none⟩ = some (.slice (some ad) p.length cp) := hG.cell 0 (by omega)
 rw [hf]
 have HB := Aside0.mk hb
 have HG := Aside0.mk hG
 have HL := Aside0.mk hl
 have HPL := Aside0.mk hpl
 have hlt : (i : Int) < (p.length : Int) := by omega
 have h0 : (0 : Int) ≤ i := by omega
 have h6 : (i : Int) < 64 := by omega
 clear hr hl hb hG hf hpl
 go_enter Try.func38, Try.ntmps38
 go_wp2_with (fail)
 go_cut [4, 5] (fun v4 v5 wc => ∃ g4 g5, v4 = .pointer (some ⟨g4, 0, none⟩) ∧ v5 = .pointer (some ⟨g5, 0, none⟩) ∧ Aside0 (HandI w0 wc g g4 g5 (.slice (some ad) p.length cp) (.slice (some al) l.length cl) s #[.string p0, .string p1, .bool p2, .bool vi, .int .i64 p4, .int .i64 j, .int .i64 k, .slice A7 p7.length c7] #[.bool fcl, .bool ftc, .bool fdn, .bool fsp, .bool fha, .int .i64 fat]))
 case first =>
  go_region_held2 (fun w' => w'.cell? (ad.add (i * 8)) = some (.string p0) ∧ w'.cell? ⟨(ad.add (i * 8)).block, (ad.add (i * 8)).off + 1, none⟩ = some (.string p1) ∧ w'.cell? ⟨(ad.add (i * 8)).block, (ad.add (i * 8)).off + 2, none⟩ = some (.bool p2) ∧ w'.cell? ⟨(ad.add (i * 8)).block, (ad.add (i * 8)).off + 3, none⟩ = some (.bool vi) ∧ w'.cell? ⟨(ad.add (i * 8)).block, (ad.add (i * 8)).off + 4, none⟩ = some (.int .i64 p4) ∧ w'.cell? ⟨(ad.add (i * 8)).block, (ad.add (i * 8)).off + 5, none⟩ = some (.int .i64 j) ∧ w'.cell? ⟨(ad.add (i * 8)).block, (ad.add (i * 8)).off + 6, none⟩ = some (.int .i64 k) ∧ w'.cell? ⟨(ad.add (i * 8)).block, (ad.add (i * 8)).off + 7, none⟩ = some (.slice A7 p7.length c7) ∧ w'.cell? ⟨g, 2 + i * 6, none⟩ = some (.bool fcl) ∧ w'.cell? ⟨g, 2 + i * 6 + 1, none⟩ = some (.bool ftc) ∧ w'.cell? ⟨g, 2 + i * 6 + 2, none⟩ = some (.bool fdn) ∧ w'.cell? ⟨g, 2 + i * 6 + 3, none⟩ = some (.bool fsp) ∧ w'.cell? ⟨g, 2 + i * 6 + 4, none⟩ = some (.bool fha) ∧ w'.cell? ⟨g, 2 + i * 6 + 5, none⟩ = some (.int .i64 fat) ∧ w'.cell? ⟨g, 0, none⟩ = some (.slice (some ad) p.length cp)) (go_keep) (fail)
  all_goals
   go_wp2
   go_meet
   case rel =>
    have hlt := blk_lt HG.out
    first
    | exact ⟨_, _, rfl, rfl, ⟨⟨below_drewN (below_step HB.out (below_alloc (below_alloc (Below.refl _ _) _) _)) 1, (show BoardAt _ _ _ _ _ from blk_alloc (blk_alloc HG.out _) _).drew, blk_drew (blk_alloc (blk_new _ _) _), blk_drew (blkB_ _ _ _), by omega, by omega⟩⟩⟩
    | exact ⟨_, _, rfl, rfl, ⟨⟨below_drewN (below_step HB.out (below_alloc (below_alloc (Below.refl _ _) _) _)) 1, (show BoardAt _ _ _ _ _ from blk_alloc (blk_alloc HG.out _) _).drew, blk_drew (blkB_ _ _ _), blk_drew (blk_alloc (blk_new _ _) _), by omega, by omega⟩⟩⟩
 case rest =>
  obtain ⟨g4, g5, rfl, rfl, HI⟩ := hcut
  clear x0 x1 x2 x3 x4 x5 x6 x7 z0 z1 z2 z3 z4 z5 y0
  obtain ⟨⟨yfa, ywh, ycl⟩, hy⟩ : ∃ y, s.bo j k = y := ⟨_, rfl⟩
  have HY := Aside0.mk hy
  have HYY := Aside0.mk hy
  have hj6 : (j : Int) < 64 := by omega
  have hj0 : (0 : Int) ≤ j := by omega
  have hk6 : (k : Int) < 4 := by omega
  have hk0 : (0 : Int) ≤ k := by omega
  have x5 : wc.cell? ⟨g4, 5, none⟩ = some (.int .i64 j) := (blk_cell HI.out.2.2.1 5).trans rfl
  have x6 : wc.cell? ⟨g4, 6, none⟩ = some (.int .i64 k) := (blk_cell HI.out.2.2.1 6).trans rfl
  clear hy
  go_wp2_with (fail)
  go_region
  go_upto_region 2 with (fail)
  clear x5 x6
  have y2 : wc.cell? ⟨g, 386 + j * 12 + k * 3 + 2, none⟩ = some (.bool ycl) := (HI.out.2.1.bo j k 2 hj64 hk4 (by omega)).trans (by rw [HY.out]; rfl)
  have ww2 := HI.out.2.1.free (386 + j * 12 + k * 3 + 2)
  have f0 : wc.cell? ⟨g5, 0, none⟩ = some (.bool fcl) := (blk_cell HI.out.2.2.2.1 0).trans rfl
  go_cut [] (fun wc => Aside0 (HandI w0 wc g g4 g5 (.slice (some ad) p.length cp) (.slice (some al) l.length cl) (s.setBo j k ⟨yfa, ywh, ycl && fcl⟩) #[.string p0, .string p1, .bool p2, .bool vi, .int .i64 p4, .int .i64 j, .int .i64 k, .slice A7 p7.length c7] #[.bool fcl, .bool ftc, .bool fdn, .bool fsp, .bool fha, .int .i64 fat]))
  case first =>
   cases ycl
   all_goals
    go_wp2
    go_meet
    case rel => exact ⟨(HI.out.put hg _ _ (HI.out.2.1.putBo j k 2 hj64 hk4 (by omega) (.bool _) ⟨yfa, ywh, _⟩ (by rw [HY.out]; exact by3_ rfl rfl rfl))).drew⟩
  case rest =>
   clear HI y2 ww2 f0 HY
   have HI := hcut
   clear hcut
   have y0 : wc.cell? ⟨g, 386 + j * 12 + k * 3, none⟩ = some (.bool yfa) := (HI.out.2.1.bo j k 0 hj64 hk4 (by omega)).trans (by simp [St.setBo, By.v])
   have ww0 := HI.out.2.1.free (386 + j * 12 + k * 3)
   have f3 : wc.cell? ⟨g5, 3, none⟩ = some (.bool fsp) := (blk_cell HI.out.2.2.2.1 3).trans rfl
   have x3 : wc.cell? ⟨g4, 3, none⟩ = some (.bool vi) := (blk_cell HI.out.2.2.1 3).trans rfl
   have z1 : wc.cell? ⟨g, 1, none⟩ = some (.slice (some al) l.length cl) := HI.out.2.1.cell 1 (by omega)
   have hli : (i : Int) < (l.length : Int) := by have := HPL.out; omega
   obtain ⟨al2, e1, q0, q1, q2, q3⟩ := at_T59 (Kd.C_below HL.out HI.out.1) (i : Int) h0 hli
   obtain rfl := Option.some.inj e1
   rw [Int.toNat_natCast] at q0
   clear q1 q2 q3 e1
   obtain ⟨run, hrun⟩ : ∃ r, (rd_T59 l (i : Int)).f0 = r := ⟨_, rfl⟩
   rw [hrun] at q0
   have HRUN := Aside0.mk hrun
   clear hrun
   go_upto_region 3 with (fail)
   go_cut [] (fun wc => Aside0 (HandI w0 wc g g4 g5 (.slice (some ad) p.length cp) (.slice (some al) l.length cl) (s.setBo j k ⟨yfa || (run == 3 || (vi && fsp)), ywh, ycl && fcl⟩) #[.string p0, .string p1, .bool p2, .bool vi, .int .i64 p4, .int .i64 j, .int .i64 k, .slice A7 p7.length c7] #[.bool fcl, .bool ftc, .bool fdn, .bool fsp, .bool fha, .int .i64 fat]))
   case first =>
    cases yfa
    case' false =>
     cases c3 : run == 3
     case' false => cases vi
    all_goals
     go_wp2
     go_meet
     case rel =>
      (try rw [c3])
      exact ⟨HI.out.put hg _ _ (HI.out.2.1.reBo 0 hj64 hk4 (by omega) (.bool _) ⟨_, ywh, _⟩ (by exact by3_ rfl rfl rfl))⟩
   case rest =>
    clear HI y0 ww0 f3 x3 z1 q0
    have HI := hcut
    clear hcut
    have y1 : wc.cell? ⟨g, 386 + j * 12 + k * 3 + 1, none⟩ = some (.bool ywh) := (HI.out.2.1.bo j k 1 hj64 hk4 (by omega)).trans (by simp [St.setBo, By.v])
    have ww1 := HI.out.2.1.free (386 + j * 12 + k * 3 + 1)
    have f2 : wc.cell? ⟨g5, 2, none⟩ = some (.bool fdn) := (blk_cell HI.out.2.2.2.1 2).trans rfl
    have f3 : wc.cell? ⟨g5, 3, none⟩ = some (.bool fsp) := (blk_cell HI.out.2.2.2.1 3).trans rfl
    have x3 : wc.cell? ⟨g4, 3, none⟩ = some (.bool vi) := (blk_cell HI.out.2.2.1 3).trans rfl
    go_upto_region 4 with (fail)
    go_cut [] (fun wc => Aside0 (HandI w0 wc g g4 g5 (.slice (some ad) p.length cp) (.slice (some al) l.length cl) (s.setBo j k ⟨yfa || (run == 3 || (vi && fsp)), ywh && (fdn || (fsp && !vi)), ycl && fcl⟩) #[.string p0, .string p1, .bool p2, .bool vi, .int .i64 p4, .int .i64 j, .int .i64 k, .slice A7 p7.length c7] #[.bool fcl, .bool ftc, .bool fdn, .bool fsp, .bool fha, .int .i64 fat]))
    case first =>
     cases ywh
     case' true =>
      cases fdn
      case' false => cases fsp
     all_goals
      go_wp2
      go_meet
      case rel => exact ⟨HI.out.put hg _ _ (HI.out.2.1.reBo 1 hj64 hk4 (by omega) (.bool _) ⟨_, _, _⟩ (by exact by3_ rfl rfl rfl))⟩
    case rest =>
     clear HI y1 ww1 f2 f3 x3
     have HI := hcut
     clear hcut
     have x5 : wc.cell? ⟨g4, 5, none⟩ = some (.int .i64 j) := (blk_cell HI.out.2.2.1 5).trans rfl
     have f1 : wc.cell? ⟨g5, 1, none⟩ = some (.bool ftc) := (blk_cell HI.out.2.2.2.1 1).trans rfl
     go_wp2_with (fail)
     go_region
     have v1 : wc.cell? ⟨g, 2 + j * 6 + 1, none⟩ = some (.bool (s.it j).tc) := (HI.out.2.1.it j 1 hj64 (by omega)).trans (by simp [St.setBo, Fl.v])
     have ww1 := HI.out.2.1.free (2 + j * 6 + 1)
     obtain ⟨⟨tcl, ttc, tdn, tsp, tha, tat⟩, ht⟩ : ∃ x, s.it j = x := ⟨_, rfl⟩
     have HT := Aside0.mk ht
     rw [ht] at v1
     clear ht
     have HX : Aside0 (handS vi (rd_T59 l (i : Int)).f0 ⟨fcl, ftc, fdn, fsp, fha, fat⟩ s j k = (s.setBo j k ⟨yfa || (run == 3 || (vi && fsp)), ywh && (fdn || (fsp && !vi)), ycl && fcl⟩).setIt j ⟨tcl, ttc || ftc, tdn, tsp, tha, tat⟩) := ⟨by
      unfold handS handB
      rw [HRUN.out, HYY.out, HT.out]
      rfl⟩
     cases ttc
     all_goals
      go_wp2
      refine bodyPost_end (results_none rfl _ _ _) rfl ?_
      rw [HX.out]
      exact ⟨rfl, below_drewN (HI.out.1.setCell hg _) 1, (HI.out.2.1.putIt j 1 hj64 (by omega) (.bool _) ⟨tcl, _, tdn, tsp, tha, tat⟩ (by rw [show (s.setBo j k _).it j = s.it j from rfl, HT.out]; exact fl6_ rfl rfl rfl rfl rfl rfl)).drew⟩
end Go.Proofs.Ytihpndignekheaa.F
end

section
namespace Go.Proofs.Ytihpndignekheaa.F
open Go.RowKit Go.Proofs.YtihpndignekheaaW.PrintWords Go.Proofs.YtihpndignekheaaW.PrintLast Go.Proofs.YtihpndignekheaaW.PrintMore
attribute [local go_sem] max2_int min2_int max_two min_two max_three min_three max_four min_four
set_option linter.unusedVariables false
set_option linter.unusedSimpArgs false
set_option maxHeartbeats 4000000 in
set_option maxRecDepth 100000 in
theorem index_func_inv (gf : Nat) (lb : Array Value) (eg : ∀ args w, (callFunc gf args).run Try.prog w = .ok (.enter gf args) w) (p : Int → Bool) (A0 : Option Addr) (c0 : Nat) (l0 : List Int) (I : World → Prop) (hrow : ∀ W, I W → Kd.C (Kd.int .i64) W A0 l0.length l0) (w : World) (hw : I w)
  (hp : ∀ (i : Nat) (h : i < l0.length) (W : World), I W → Calls Try.prog gf (#[.int .i64 l0[i]] ++ lb) W fun e W' => e = .returned (.bool (p l0[i])) ∧ I W') :
  Calls Try.prog 76 #[.slice A0 l0.length c0, .func (.func gf) #[] lb] w fun e w' => e = .returned (.int .i64 (idxF p l0 0)) ∧ I w' := by
 have HR := Aside0.mk hrow
 have HB := Aside0.mk hw
 have HM := Aside0.mk (Kd.C_max (hrow w hw))
 have HL := Aside0.mk (idxF_drop p l0)
 have HP := Aside0.mk hp
 clear hrow hp hw
 go_enter Try.func76, Try.ntmps76
 go_wp2
 go_loopg [5, 8] l0.length (fun kq v5 v8 w' => ∃ i : Nat, i + kq = l0.length ∧ v8 = .int .i64 i ∧ Aside0 (idxF p l0 0 = idxF p (l0.drop i) i) ∧ Aside0 (I w'))
 case atStart => exact ⟨0, by omega, rfl, ⟨rfl⟩, HB⟩
 case round =>
  obtain ⟨i, hi, rfl, HI, HB⟩ := hrel
  have hm := HM.out
  cases gk with
  | zero =>
   obtain rfl : i = l0.length := by omega
   have HE : Aside0 (idxF p l0 0 = -1) := ⟨by rw [HI.out, List.drop_eq_nil_of_le (Nat.le_refl _)]; rfl⟩
   clear eg
   go_wp2
   go_ret
   exact ⟨by rw [HE.out]; rfl, HB.out⟩
  | succ k =>
   have hlt : i < l0.length := by omega
   obtain ⟨ad, e0, x0⟩ := Kd.at_int (HR.out _ HB.out) (i : Int) (by omega) (by omega)
   rw [Int.toNat_natCast] at x0
   have hrd : rd l0 (i : Int) = l0[i] := by unfold rd; rw [Int.toNat_natCast, List.getD_eq_getElem?_getD, List.getElem?_eq_getElem hlt]; rfl
   rw [hrd] at x0
   subst e0
   have hcall := HP.out i hlt wr HB.out
   obtain ⟨x, hx⟩ : ∃ x, l0[i] = x := ⟨_, rfl⟩
   have HD := Aside0.mk (HL.out i hlt (i : Int))
   rw [hx] at x0 HD hcall
   have hlt' : (i : Int) < (l0.length : Int) := by omega
   have h0 : (0 : Int) ≤ i := by omega
   have HI2 := Aside0.mk hi
   have HC := Aside0.mk hcall
   clear hx hrd hi hcall
   obtain ⟨v, hv⟩ : ∃ v, p x = v := ⟨_, rfl⟩
   have HV := Aside0.mk hv
   clear hv
   cases v
   all_goals
    go_wp2_with (go_at_fn gf; refine HC.out.mono ?_; rintro e w2 ⟨rfl, hB2⟩; rw [HV.out]; have HB2 := Aside0.mk hB2; clear hB2)
   ·go_roundg k
    case measure => omega
    case rel => exact ⟨i + 1, by have := HI2.out; omega, by go_num, ⟨by rw [HI.out, HD.out, HV.out]; simp⟩, HB2⟩
   ·go_ret
    exact ⟨by rw [HI.out, HD.out, HV.out]; rfl, HB2.out⟩
set_option maxHeartbeats 4000000 in
set_option maxRecDepth 100000 in
theorem contains_func_inv (gf : Nat) (lb : Array Value) (eg : ∀ args w, (callFunc gf args).run Try.prog w = .ok (.enter gf args) w) (p : Int → Bool) (A0 : Option Addr) (c0 : Nat) (l0 : List Int) (I : World → Prop) (hrow : ∀ W, I W → Kd.C (Kd.int .i64) W A0 l0.length l0) (w : World) (hw : I w)
  (hp : ∀ (i : Nat) (h : i < l0.length) (W : World), I W → Calls Try.prog gf (#[.int .i64 l0[i]] ++ lb) W fun e W' => e = .returned (.bool (p l0[i])) ∧ I W') :
  Calls Try.prog 64 #[.slice A0 l0.length c0, .func (.func gf) #[] lb] w fun e w' => e = .returned (.bool (l0.any p)) ∧ I w' := by
 have hc := Aside0.mk (index_func_inv gf lb eg p A0 c0 l0 I hrow w hw hp)
 have HA := Aside0.mk (idxF_any p l0 0 (by omega))
 clear hp eg hrow hw
 go_enter Try.func64, Try.ntmps64
 go_wp2_with (go_at_call 76; refine hc.out.mono ?_; rintro e w2 ⟨rfl, hB2⟩; have HB2 := Aside0.mk hB2; clear hB2)
 go_ret
 exact ⟨by rw [HA.out]; rfl, HB2.out⟩
theorem contains_func_int (gf : Nat) (lb : Array Value) (eg : ∀ args w, (callFunc gf args).run Try.prog w = .ok (.enter gf args) w) (p : Int → Bool) (A0 : Option Addr) (c0 : Nat) (l0 : List Int) (w : World) (hr0 : Kd.C (Kd.int .i64) w A0 l0.length l0)
  (hp : ∀ (i : Nat) (h : i < l0.length) (W : World), Below w.heap.size w W → Calls Try.prog gf (#[.int .i64 l0[i]] ++ lb) W fun e W' => e = .returned (.bool (p l0[i])) ∧ Below W.heap.size W W') :
  Calls Try.prog 64 #[.slice A0 l0.length c0, .func (.func gf) #[] lb] w fun e w' => e = .returned (.bool (l0.any p)) ∧ Below w.heap.size w w' :=
 contains_func_inv gf lb eg p A0 c0 l0 (Below w.heap.size w) (fun W hW => Kd.C_below hr0 hW) w (Below.refl _ _) (fun i h W hW => (hp i h W hW).mono fun e w' q => ⟨q.1, hW.trans (q.2.mono hW.size)⟩)
end Go.Proofs.Ytihpndignekheaa.F
end

section
namespace Go.Proofs.Ytihpndignekheaa.F
open Go.RowKit Go.Proofs.YtihpndignekheaaW.PrintWords Go.Proofs.YtihpndignekheaaW.PrintLast Go.Proofs.YtihpndignekheaaW.PrintMore
attribute [local go_sem] max2_int min2_int max_two min_two max_three min_three max_four min_four
set_option linter.unusedVariables false
set_option linter.unusedSimpArgs false
def strayB (n : Nat) (k : Int) : Bool := decide (k < 1) || decide (k ≥ (n : Int))
set_option maxHeartbeats 4000000 in
set_option maxRecDepth 100000 in
theorem stray_lit (g : Nat) (A : Option Addr) (n c : Nat) (k : Int) (w : World) (hg : w.heap[g]? = some (.cells #[.slice A n c] 24 (0, 0))) :
  Calls Try.prog 63 #[.int .i64 k, .pointer (some ⟨g, 0, none⟩)] w fun e w' => e = .returned (.bool (strayB n k)) ∧ Below w.heap.size w w' := by
 have hc : w.cell? ⟨g, 0, none⟩ = some (.slice A n c) := (blk_cell hg 0).trans rfl
 clear hg
 by_cases h1 : k < 1
 ·have hd : decide (k < 1) = true := decide_eq_true h1
  go_enter Try.func63, Try.ntmps63
  go_wp2
  go_ret
  exact ⟨by simp [strayB, h1], Below.refl _ _⟩
 ·have hd : decide (k < 1) = false := decide_eq_false h1
  go_enter Try.func63, Try.ntmps63
  go_wp2
  go_ret
  exact ⟨by rw [show strayB n k = decide (k ≥ (n : Int)) from by unfold strayB; rw [hd]; rfl]; rfl, Below.refl _ _⟩
def itemB (p : List S37) (i : Nat) (x : S37) : Bool :=
 if x.f4 < 0 then false else if 4 < x.f4 then false else if x.f7.any (strayB p.length) then false
 else if i = 0 then decide (x.f5 = -1)
 else if x.f5 < 0 then false else if (i : Int) ≤ x.f5 then false else if x.f6 < 0 then false else decide (x.f6 < (rd_T37 p x.f5).f4)
def shapedL (p : List S37) : Nat → List S37 → Bool
 | _, [] => true
 | i, x :: l => itemB p i x && shapedL p (i + 1) l
def shapedB (p : List S37) : Bool := shapedL p 0 p && (decide (0 < p.length) && decide (p.length ≤ 64))
set_option maxHeartbeats 16000000 in
set_option maxRecDepth 100000 in
theorem shaped_walk (A : Option Addr) (c : Nat) (p : List S37) (w : World) (hC : k37.C w A p.length p) (hc : p.length ≤ c) :
  Calls Try.prog 47 #[.agg #[.slice A p.length c]] w fun e w' => e = .returned (.bool (shapedB p)) ∧ Below w.heap.size w w' := by
 have hmf : ∀ (fn : Fn) (first cap : Array Value) (w : World), (Instr.makeFunc fn first cap).run Try.prog w = .ok (.func fn first cap) w := fun _ _ _ _ => rfl
 have HE := Aside0.mk (enters_of Try.func63 (P := Try.prog) (f := 63) (by kernel_rfl) rfl)
 have HC := Aside0.mk hC
 have HM := Aside0.mk (Kd.C_max hC)
 have HG0 := Aside0.mk (blk_new w (.cells #[.slice A p.length c] 24 (0, 0)))
 have HB0 := Aside0.mk ((Below.refl w.heap.size w).alloc (Nat.le_refl _) (.cells #[.slice A p.length c] 24 (0, 0)))
 clear hC hc
 go_enter Try.func47, Try.ntmps47
 go_wp2
 go_loopg [9] p.length (fun kq v9 w' => ∃ i : Nat, i + kq = p.length ∧ v9 = .int .i64 i ∧ Aside0 (shapedL p 0 p = shapedL p i (p.drop i)) ∧ Aside0 (Below w.heap.size w w') ∧ Aside0 (w'.heap[w.heap.size]? = some (.cells #[.slice A p.length c] 24 (0, 0))))
 case atStart => exact ⟨0, by omega, rfl, ⟨rfl⟩, HB0, HG0⟩
 case round =>
  obtain ⟨i, hi, rfl, HI, HB, HG⟩ := hrel
  have hm := HM.out
  cases gk with
  | zero =>
   obtain rfl : i = p.length := by omega
   have HV : Aside0 (shapedB p = (decide (0 < p.length) && decide (p.length ≤ 64))) := ⟨by unfold shapedB; rw [HI.out, List.drop_eq_nil_of_le (Nat.le_refl _)]; rfl⟩
   have cg : wr.cell? ⟨w.heap.size, 0, none⟩ = some (.slice A p.length c) := (blk_cell HG.out 0).trans rfl
   by_cases h0 : 0 < p.length
   ·have hd : decide ((p.length : Int) > 0) = true := decide_eq_true (by omega)
    by_cases h64 : p.length ≤ 64
    all_goals
     go_wp2
     go_ret
     exact ⟨by rw [HV.out]; simp [h0, h64]; try omega, HB.out⟩
   ·have hd : decide ((p.length : Int) > 0) = false := decide_eq_false (by omega)
    go_wp2
    go_ret
    exact ⟨by rw [HV.out]; simp [h0]; try omega, HB.out⟩
  | succ k =>
   have hlt : i < p.length := by omega
   obtain ⟨ad, A7, c7, e0, x0, x1, x2, x3, x4, x5, x6, x7, l7, g7⟩ := at_T37 (Kd.C_below HC.out HB.out) (i : Int) (by omega) (by omega)
   rw [Int.toNat_natCast] at x0 x1 x2 x3 x4 x5 x6 x7
   have hrd : rd_T37 p (i : Int) = p[i] := by unfold rd_T37; rw [Int.toNat_natCast, List.getD_eq_getElem?_getD, List.getElem?_eq_getElem hlt]; rfl
   rw [hrd] at x0 x1 x2 x3 x4 x5 x6 x7 l7 g7
   subst e0
   obtain ⟨x, hx⟩ : ∃ x, p[i] = x := ⟨_, rfl⟩
   rw [hx] at x0 x1 x2 x3 x4 x5 x6 x7 l7 g7
   have HD : Aside0 (shapedL p i (p.drop i) = (itemB p i x && shapedL p (i + 1) (p.drop (i + 1)))) := ⟨by rw [List.drop_eq_getElem_cons hlt, hx]; rfl⟩
   have HFALSE : Aside0 (itemB p i x = false → shapedB p = false) := ⟨fun h => by unfold shapedB; rw [HI.out, HD.out, h]; rfl⟩
   have HTRUE : Aside0 (itemB p i x = true → shapedL p 0 p = shapedL p (i + 1) (p.drop (i + 1))) := ⟨fun h => by rw [HI.out, HD.out, h]; rfl⟩
   have HG7 := Aside0.mk (Kd.C_alloc g7 (.cells #[.string x.f0, .string x.f1, .bool x.f2, .bool x.f3, .int .i64 x.f4, .int .i64 x.f5, .int .i64 x.f6, .slice A7 x.f7.length c7] 37 (0, 0)))
   have HGA := Aside0.mk (blk_alloc HG.out (.cells #[.string x.f0, .string x.f1, .bool x.f2, .bool x.f3, .int .i64 x.f4, .int .i64 x.f5, .int .i64 x.f6, .slice A7 x.f7.length c7] 37 (0, 0)))
   have HBA := Aside0.mk (HB.out.alloc HB.out.size (.cells #[.string x.f0, .string x.f1, .bool x.f2, .bool x.f3, .int .i64 x.f4, .int .i64 x.f5, .int .i64 x.f6, .slice A7 x.f7.length c7] 37 (0, 0)))
   have HIDX : Aside0 (∀ W, Below w.heap.size w W → 0 ≤ x.f5 → x.f5 < p.length → W.cell? ⟨(ad.add (x.f5.toNat * 8)).block, (ad.add (x.f5.toNat * 8)).off + 4, none⟩ = some (.int .i64 (rd_T37 p x.f5).f4)) := ⟨fun W hW h0 h1 => by
    obtain ⟨ad', A7', c7', e', z0, z1, z2, z3, z4, z5⟩ := at_T37 (Kd.C_below HC.out hW) x.f5 h0 h1
    obtain rfl := Option.some.inj e'
    exact z4⟩
   have HNX : Aside0 (Value.int .i64 (wrap64 ((i : Int) + 1)) = .int .i64 ((i + 1 : Nat) : Int)) := ⟨by rw [show wrap64 ((i : Int) + 1) = ((i + 1 : Nat) : Int) from by unfold wrap64; omega]⟩
   have HI2 := Aside0.mk hi
   have hlt' : (i : Int) < (p.length : Int) := by omega
   have h0i : (0 : Int) ≤ i := by omega
   obtain ⟨an, han⟩ : ∃ an, x.f7.any (strayB p.length) = an := ⟨_, rfl⟩
   have HAN := Aside0.mk han
   clear hrd hx hi g7 l7 han hm
   by_cases h4 : x.f4 < 0
   ·have hd4 : decide (x.f4 < 0) = true := decide_eq_true h4
    have HF := Aside0.mk (HFALSE.out (by unfold itemB; simp [h4]))
    go_wp2
    go_ret
    exact ⟨by rw [HF.out]; rfl, HBA.out⟩
   ·have hd4 : decide (x.f4 < 0) = false := decide_eq_false h4
    by_cases h44 : x.f4 > 4
    ·have hd44 : decide (x.f4 > 4) = true := decide_eq_true h44
     have HF := Aside0.mk (HFALSE.out (by unfold itemB; simp [h4]; omega))
     go_wp2
     go_ret
     exact ⟨by rw [HF.out]; rfl, HBA.out⟩
    ·have hd44 : decide (x.f4 > 4) = false := decide_eq_false h44
     cases an with
     | true =>
      have HF := Aside0.mk (HFALSE.out (by unfold itemB; simp [h4, HAN.out]))
      go_wp2_with (go_at_call 64; refine (contains_func_int 63 #[.pointer (some ⟨w.heap.size, 0, none⟩)] HE.out (strayB p.length) A7 c7 x.f7 _ HG7.out ?hp).mono ?_; (case hp => intro j hj W hW; exact stray_lit w.heap.size _ p.length c _ W (blk_below HGA.out hW)); rintro e w2 ⟨rfl, hb⟩; rw [HAN.out]; have HB2 := Aside0.mk (HBA.out.trans (hb.mono HBA.out.size)); have HG2 := Aside0.mk (blk_below HGA.out hb); have HX2 := Aside0.mk (blk_below (blk_new wr (.cells #[.string x.f0, .string x.f1, .bool x.f2, .bool x.f3, .int .i64 x.f4, .int .i64 x.f5, .int .i64 x.f6, .slice A7 x.f7.length c7] 37 (0, 0))) hb); have y4 : w2.cell? ⟨wr.heap.size, 4, none⟩ = some (.int .i64 x.f4) := (blk_cell HX2.out 4).trans rfl; have y5 : w2.cell? ⟨wr.heap.size, 5, none⟩ = some (.int .i64 x.f5) := (blk_cell HX2.out 5).trans rfl; have y6 : w2.cell? ⟨wr.heap.size, 6, none⟩ = some (.int .i64 x.f6) := (blk_cell HX2.out 6).trans rfl; have cg2 : w2.cell? ⟨w.heap.size, 0, none⟩ = some (.slice (some ad) p.length c) := (blk_cell HG2.out 0).trans rfl; clear hb)
      go_ret
      exact ⟨by rw [HF.out]; rfl, HB2.out⟩
     | false =>
      by_cases hz : i = 0
      ·have hz1 : ((i : Int) == 0) = true := by simp [hz]
       have hz2 : decide ((i : Int) > 0) = false := decide_eq_false (by omega)
       have hz3 : decide ((i : Int) = 0) = true := decide_eq_true (by omega)
       have hz4 : decide ((0 : Int) < (i : Int)) = false := decide_eq_false (by omega)
       have hz5 : ¬ ((0 : Int) < (i : Int)) := by omega
       have hz6 : decide (0 < i) = false := decide_eq_false (by omega)
       have hz7 : ¬ (0 < i) := by omega
       have HZ := Aside0.mk hz
       clear hz
       by_cases h5 : x.f5 = -1
       ·have HT := Aside0.mk (HTRUE.out (by unfold itemB; simp [h4, HAN.out, HZ.out, h5]; omega))
        have h51 : (x.f5 != -1) = false := by simp [h5]
        have h52 : decide (x.f5 = -1) = true := decide_eq_true h5
        have h53 : (x.f5 == -1) = true := by simp [h5]
        clear h5
        go_wp2_with (go_at_call 64; refine (contains_func_int 63 #[.pointer (some ⟨w.heap.size, 0, none⟩)] HE.out (strayB p.length) A7 c7 x.f7 _ HG7.out ?hp).mono ?_; (case hp => intro j hj W hW; exact stray_lit w.heap.size _ p.length c _ W (blk_below HGA.out hW)); rintro e w2 ⟨rfl, hb⟩; rw [HAN.out]; have HB2 := Aside0.mk (HBA.out.trans (hb.mono HBA.out.size)); have HG2 := Aside0.mk (blk_below HGA.out hb); have HX2 := Aside0.mk (blk_below (blk_new wr (.cells #[.string x.f0, .string x.f1, .bool x.f2, .bool x.f3, .int .i64 x.f4, .int .i64 x.f5, .int .i64 x.f6, .slice A7 x.f7.length c7] 37 (0, 0))) hb); have y4 : w2.cell? ⟨wr.heap.size, 4, none⟩ = some (.int .i64 x.f4) := (blk_cell HX2.out 4).trans rfl; have y5 : w2.cell? ⟨wr.heap.size, 5, none⟩ = some (.int .i64 x.f5) := (blk_cell HX2.out 5).trans rfl; have y6 : w2.cell? ⟨wr.heap.size, 6, none⟩ = some (.int .i64 x.f6) := (blk_cell HX2.out 6).trans rfl; have cg2 : w2.cell? ⟨w.heap.size, 0, none⟩ = some (.slice (some ad) p.length c) := (blk_cell HG2.out 0).trans rfl; clear hb)
        go_region
        go_wp2
        go_roundg k
        case measure => omega
        case rel => exact ⟨i + 1, by have := HI2.out; omega, by first | exact HNX.out | go_num, HT, ⟨HB2.out.drew⟩, ⟨HG2.out⟩⟩
       ·have h51 : (x.f5 == -1) = false := by simpa using h5
        have h52 : decide (x.f5 = -1) = false := decide_eq_false h5
        have HF := Aside0.mk (HFALSE.out (by unfold itemB; simp [h4, HAN.out, HZ.out, h5]))
        go_wp2_with (go_at_call 64; refine (contains_func_int 63 #[.pointer (some ⟨w.heap.size, 0, none⟩)] HE.out (strayB p.length) A7 c7 x.f7 _ HG7.out ?hp).mono ?_; (case hp => intro j hj W hW; exact stray_lit w.heap.size _ p.length c _ W (blk_below HGA.out hW)); rintro e w2 ⟨rfl, hb⟩; rw [HAN.out]; have HB2 := Aside0.mk (HBA.out.trans (hb.mono HBA.out.size)); have HG2 := Aside0.mk (blk_below HGA.out hb); have HX2 := Aside0.mk (blk_below (blk_new wr (.cells #[.string x.f0, .string x.f1, .bool x.f2, .bool x.f3, .int .i64 x.f4, .int .i64 x.f5, .int .i64 x.f6, .slice A7 x.f7.length c7] 37 (0, 0))) hb); have y4 : w2.cell? ⟨wr.heap.size, 4, none⟩ = some (.int .i64 x.f4) := (blk_cell HX2.out 4).trans rfl; have y5 : w2.cell? ⟨wr.heap.size, 5, none⟩ = some (.int .i64 x.f5) := (blk_cell HX2.out 5).trans rfl; have y6 : w2.cell? ⟨wr.heap.size, 6, none⟩ = some (.int .i64 x.f6) := (blk_cell HX2.out 6).trans rfl; have cg2 : w2.cell? ⟨w.heap.size, 0, none⟩ = some (.slice (some ad) p.length c) := (blk_cell HG2.out 0).trans rfl; clear hb)
        go_ret
        exact ⟨by rw [HF.out]; rfl, HB2.out⟩
      ·have hz1 : ((i : Int) == 0) = false := by simpa using hz
       have hz3 : decide ((i : Int) = 0) = false := decide_eq_false (by omega)
       have hz6 : decide (0 < i) = true := decide_eq_true (by omega)
       have hz8 : (i == 0) = false := by simpa using hz
       have hz9 : decide (i = 0) = false := decide_eq_false hz
       have HZ := Aside0.mk hz
       by_cases h5 : x.f5 < 0
       ·have hd5 : decide (x.f5 < 0) = true := decide_eq_true h5
        have HF := Aside0.mk (HFALSE.out (by unfold itemB; simp [h4, HAN.out, HZ.out, h5]; try omega))
        go_wp2_with (go_at_call 64; refine (contains_func_int 63 #[.pointer (some ⟨w.heap.size, 0, none⟩)] HE.out (strayB p.length) A7 c7 x.f7 _ HG7.out ?hp).mono ?_; (case hp => intro j hj W hW; exact stray_lit w.heap.size _ p.length c _ W (blk_below HGA.out hW)); rintro e w2 ⟨rfl, hb⟩; rw [HAN.out]; have HB2 := Aside0.mk (HBA.out.trans (hb.mono HBA.out.size)); have HG2 := Aside0.mk (blk_below HGA.out hb); have HX2 := Aside0.mk (blk_below (blk_new wr (.cells #[.string x.f0, .string x.f1, .bool x.f2, .bool x.f3, .int .i64 x.f4, .int .i64 x.f5, .int .i64 x.f6, .slice A7 x.f7.length c7] 37 (0, 0))) hb); have y4 : w2.cell? ⟨wr.heap.size, 4, none⟩ = some (.int .i64 x.f4) := (blk_cell HX2.out 4).trans rfl; have y5 : w2.cell? ⟨wr.heap.size, 5, none⟩ = some (.int .i64 x.f5) := (blk_cell HX2.out 5).trans rfl; have y6 : w2.cell? ⟨wr.heap.size, 6, none⟩ = some (.int .i64 x.f6) := (blk_cell HX2.out 6).trans rfl; have cg2 : w2.cell? ⟨w.heap.size, 0, none⟩ = some (.slice (some ad) p.length c) := (blk_cell HG2.out 0).trans rfl; clear hb)
        go_region
        go_wp2
        go_ret
        exact ⟨by rw [HF.out]; rfl, HB2.out.drew⟩
       ·have hd5 : decide (x.f5 < 0) = false := decide_eq_false h5
        by_cases h6 : (i : Int) ≤ x.f5
        ·have hd6 : decide (x.f5 ≥ (i : Int)) = true := decide_eq_true h6
         have HF := Aside0.mk (HFALSE.out (by unfold itemB; simp [h4, HAN.out, HZ.out, h5, h6]; try omega))
         go_wp2_with (go_at_call 64; refine (contains_func_int 63 #[.pointer (some ⟨w.heap.size, 0, none⟩)] HE.out (strayB p.length) A7 c7 x.f7 _ HG7.out ?hp).mono ?_; (case hp => intro j hj W hW; exact stray_lit w.heap.size _ p.length c _ W (blk_below HGA.out hW)); rintro e w2 ⟨rfl, hb⟩; rw [HAN.out]; have HB2 := Aside0.mk (HBA.out.trans (hb.mono HBA.out.size)); have HG2 := Aside0.mk (blk_below HGA.out hb); have HX2 := Aside0.mk (blk_below (blk_new wr (.cells #[.string x.f0, .string x.f1, .bool x.f2, .bool x.f3, .int .i64 x.f4, .int .i64 x.f5, .int .i64 x.f6, .slice A7 x.f7.length c7] 37 (0, 0))) hb); have y4 : w2.cell? ⟨wr.heap.size, 4, none⟩ = some (.int .i64 x.f4) := (blk_cell HX2.out 4).trans rfl; have y5 : w2.cell? ⟨wr.heap.size, 5, none⟩ = some (.int .i64 x.f5) := (blk_cell HX2.out 5).trans rfl; have y6 : w2.cell? ⟨wr.heap.size, 6, none⟩ = some (.int .i64 x.f6) := (blk_cell HX2.out 6).trans rfl; have cg2 : w2.cell? ⟨w.heap.size, 0, none⟩ = some (.slice (some ad) p.length c) := (blk_cell HG2.out 0).trans rfl; clear hb)
         go_region
         go_wp2
         go_ret
         exact ⟨by rw [HF.out]; rfl, HB2.out.drew⟩
        ·have hd6 : decide (x.f5 ≥ (i : Int)) = false := decide_eq_false h6
         by_cases h7 : x.f6 < 0
         ·have hd7 : decide (x.f6 < 0) = true := decide_eq_true h7
          have HF := Aside0.mk (HFALSE.out (by unfold itemB; simp [h4, HAN.out, HZ.out, h5, h6, h7]; try omega))
          go_wp2_with (go_at_call 64; refine (contains_func_int 63 #[.pointer (some ⟨w.heap.size, 0, none⟩)] HE.out (strayB p.length) A7 c7 x.f7 _ HG7.out ?hp).mono ?_; (case hp => intro j hj W hW; exact stray_lit w.heap.size _ p.length c _ W (blk_below HGA.out hW)); rintro e w2 ⟨rfl, hb⟩; rw [HAN.out]; have HB2 := Aside0.mk (HBA.out.trans (hb.mono HBA.out.size)); have HG2 := Aside0.mk (blk_below HGA.out hb); have HX2 := Aside0.mk (blk_below (blk_new wr (.cells #[.string x.f0, .string x.f1, .bool x.f2, .bool x.f3, .int .i64 x.f4, .int .i64 x.f5, .int .i64 x.f6, .slice A7 x.f7.length c7] 37 (0, 0))) hb); have y4 : w2.cell? ⟨wr.heap.size, 4, none⟩ = some (.int .i64 x.f4) := (blk_cell HX2.out 4).trans rfl; have y5 : w2.cell? ⟨wr.heap.size, 5, none⟩ = some (.int .i64 x.f5) := (blk_cell HX2.out 5).trans rfl; have y6 : w2.cell? ⟨wr.heap.size, 6, none⟩ = some (.int .i64 x.f6) := (blk_cell HX2.out 6).trans rfl; have cg2 : w2.cell? ⟨w.heap.size, 0, none⟩ = some (.slice (some ad) p.length c) := (blk_cell HG2.out 0).trans rfl; clear hb)
          go_region
          go_wp2
          go_ret
          exact ⟨by rw [HF.out]; rfl, HB2.out.drew⟩
         ·have hd7 : decide (x.f6 < 0) = false := decide_eq_false h7
          by_cases h8 : x.f6 < (rd_T37 p x.f5).f4
          ·have hd8 : decide (x.f6 ≥ (rd_T37 p x.f5).f4) = false := decide_eq_false (by omega)
           have hp1 : x.f5 < (p.length : Int) := by omega
           have hp0 : 0 ≤ x.f5 := by omega
           have HT := Aside0.mk (HTRUE.out (by unfold itemB; simp [h4, HAN.out, HZ.out, h5, h6, h7, h8]; try omega))
           go_wp2_with (go_at_call 64; refine (contains_func_int 63 #[.pointer (some ⟨w.heap.size, 0, none⟩)] HE.out (strayB p.length) A7 c7 x.f7 _ HG7.out ?hp).mono ?_; (case hp => intro j hj W hW; exact stray_lit w.heap.size _ p.length c _ W (blk_below HGA.out hW)); rintro e w2 ⟨rfl, hb⟩; rw [HAN.out]; have HB2 := Aside0.mk (HBA.out.trans (hb.mono HBA.out.size)); have HG2 := Aside0.mk (blk_below HGA.out hb); have HX2 := Aside0.mk (blk_below (blk_new wr (.cells #[.string x.f0, .string x.f1, .bool x.f2, .bool x.f3, .int .i64 x.f4, .int .i64 x.f5, .int .i64 x.f6, .slice A7 x.f7.length c7] 37 (0, 0))) hb); have y4 : w2.cell? ⟨wr.heap.size, 4, none⟩ = some (.int .i64 x.f4) := (blk_cell HX2.out 4).trans rfl; have y5 : w2.cell? ⟨wr.heap.size, 5, none⟩ = some (.int .i64 x.f5) := (blk_cell HX2.out 5).trans rfl; have y6 : w2.cell? ⟨wr.heap.size, 6, none⟩ = some (.int .i64 x.f6) := (blk_cell HX2.out 6).trans rfl; have cg2 : w2.cell? ⟨w.heap.size, 0, none⟩ = some (.slice (some ad) p.length c) := (blk_cell HG2.out 0).trans rfl; clear hb)
           have z4 := HIDX.out _ HB2.out (by omega) (by omega)
           go_region
           go_wp2
           go_roundg k
           case measure => omega
           case rel => exact ⟨i + 1, by have := HI2.out; omega, by first | exact HNX.out | go_num, HT, ⟨HB2.out.drew⟩, ⟨HG2.out⟩⟩
          ·have hd8 : decide (x.f6 ≥ (rd_T37 p x.f5).f4) = true := decide_eq_true (by omega)
           have hp1 : x.f5 < (p.length : Int) := by omega
           have hp0 : 0 ≤ x.f5 := by omega
           have HF := Aside0.mk (HFALSE.out (by unfold itemB; simp [h4, HAN.out, HZ.out, h5, h6, h7, h8]; try omega))
           go_wp2_with (go_at_call 64; refine (contains_func_int 63 #[.pointer (some ⟨w.heap.size, 0, none⟩)] HE.out (strayB p.length) A7 c7 x.f7 _ HG7.out ?hp).mono ?_; (case hp => intro j hj W hW; exact stray_lit w.heap.size _ p.length c _ W (blk_below HGA.out hW)); rintro e w2 ⟨rfl, hb⟩; rw [HAN.out]; have HB2 := Aside0.mk (HBA.out.trans (hb.mono HBA.out.size)); have HG2 := Aside0.mk (blk_below HGA.out hb); have HX2 := Aside0.mk (blk_below (blk_new wr (.cells #[.string x.f0, .string x.f1, .bool x.f2, .bool x.f3, .int .i64 x.f4, .int .i64 x.f5, .int .i64 x.f6, .slice A7 x.f7.length c7] 37 (0, 0))) hb); have y4 : w2.cell? ⟨wr.heap.size, 4, none⟩ = some (.int .i64 x.f4) := (blk_cell HX2.out 4).trans rfl; have y5 : w2.cell? ⟨wr.heap.size, 5, none⟩ = some (.int .i64 x.f5) := (blk_cell HX2.out 5).trans rfl; have y6 : w2.cell? ⟨wr.heap.size, 6, none⟩ = some (.int .i64 x.f6) := (blk_cell HX2.out 6).trans rfl; have cg2 : w2.cell? ⟨w.heap.size, 0, none⟩ = some (.slice (some ad) p.length c) := (blk_cell HG2.out 0).trans rfl; clear hb)
           have z4 := HIDX.out _ HB2.out (by omega) (by omega)
           go_region
           go_wp2
           go_ret
           exact ⟨by rw [HF.out]; rfl, HB2.out.drew⟩
end Go.Proofs.Ytihpndignekheaa.F
end

section
namespace Go.Proofs.Ytihpndignekheaa.F
open Go.RowKit Go.Proofs.YtihpndignekheaaW.PrintWords Go.Proofs.YtihpndignekheaaW.PrintLast Go.Proofs.YtihpndignekheaaW.PrintMore
attribute [local go_sem] max2_int min2_int max_two min_two max_three min_three max_four min_four
set_option linter.unusedVariables false
set_option linter.unusedSimpArgs false
abbrev BodyK := S82
abbrev NodeK := S79
abbrev ItemK := S37
theorem info93_ : (Try.prog.info? 79).map (fun i => (i.zero, i.size, i.bytes)) = some (some (.agg #[.string ⟨#[]⟩, .string ⟨#[]⟩, .slice none 0 0, .bool false, .bool false, .slice none 0 0]), 6, 88) := by kernel_rfl
theorem info9_ : (Try.prog.info? 9).map (fun i => (i.zero, i.size, i.bytes)) = some (some (.string ⟨#[]⟩), 1, 16) := by kernel_rfl
def setNode (os : List BodyK) (j : Nat) (x : NodeK) : List BodyK := os.set j ⟨(os.getD j ⟨[]⟩).f0 ++ [x]⟩
def nodeOf (p : List ItemK) (x : ItemK) (kids : List BodyK) : NodeK := ⟨x.f0, x.f1, x.f7.map (fun k => (rd_T37 p k).f0), x.f2, x.f3, kids⟩
def addL (p : List ItemK) (i : Nat) (rec : Nat → List BodyK) : Nat → List ItemK → List BodyK → List BodyK
 | _, [], out => out
 | j, x :: l, out => addL p i rec (j + 1) l (if j = 0 ∨ x.f5 ≠ (i : Int) then out else setNode out x.f6.toNat (nodeOf p x (rec j)))
def bodiesF (p : List ItemK) : Nat → Nat → List BodyK
 | 0, _ => []
 | d + 1, i => addL p i (fun j => bodiesF p d j) 0 p (List.replicate (rd_T37 p (i : Int)).f4.toNat ⟨[]⟩)
theorem shapedL_at (p : List ItemK) : ∀ (l : List ItemK) (i : Nat), shapedL p i l = true → ∀ (k : Nat) (h : k < l.length), itemB p (i + k) l[k] = true
 | [], _, _, k, h => by simp at h
 | x :: l, i, hs, k, h => by
  simp only [shapedL, Bool.and_eq_true] at hs
  cases k with
  | zero => exact hs.1
  | succ k =>
   have := shapedL_at p l (i + 1) hs.2 k (by simpa using h)
   rw [show i + 1 + k = i + (k + 1) by omega] at this
   exact this
theorem shaped_at {p : List ItemK} (hs : shapedB p = true) {k : Nat} (h : k < p.length) : itemB p k p[k] = true := by
 unfold shapedB at hs
 rw [Bool.and_eq_true] at hs
 have := shapedL_at p p 0 hs.1 k h
 rwa [Nat.zero_add] at this
theorem shaped_len {p : List ItemK} (hs : shapedB p = true) : 0 < p.length ∧ p.length ≤ 64 := by
 unfold shapedB at hs
 simp only [Bool.and_eq_true, decide_eq_true_eq] at hs
 exact hs.2
theorem itemB_alts {p : List ItemK} {k : Nat} {x : ItemK} (h : itemB p k x = true) : 0 ≤ x.f4 ∧ x.f4 ≤ 4 ∧ (∀ q ∈ x.f7, 1 ≤ q ∧ q < (p.length : Int)) := by
 unfold itemB at h
 split at h
 ·cases h
 ·rename_i h1
  split at h
  ·cases h
  ·rename_i h2
   split at h
   ·cases h
   ·rename_i h3
    refine ⟨by omega, by omega, fun q hq => ?_⟩
    have h4 : x.f7.any (strayB p.length) = false := by simpa using h3
    rw [List.any_eq_false] at h4
    have h5 := h4 q hq
    simp [strayB] at h5
    omega
theorem itemB_in {p : List ItemK} {k : Nat} {x : ItemK} (h : itemB p k x = true) (hk : k ≠ 0) : 0 ≤ x.f5 ∧ x.f5 < (k : Int) ∧ 0 ≤ x.f6 ∧ x.f6 < (rd_T37 p x.f5).f4 := by
 unfold itemB at h
 split at h
 ·cases h
 ·split at h
  ·cases h
  ·split at h
   ·cases h
   ·try rw [if_neg hk] at h
    split at h
    ·cases h
    ·split at h
     ·cases h
     ·split at h
      ·cases h
      ·have := of_decide_eq_true h
       refine ⟨by omega, by omega, by omega, this⟩
theorem push_get {W : World} {base b0 s0 g n cap : Nat} {os : List BodyK} {j : Nat} (HS : Kd.S k82 82 W base (fun k => b0 < k ∧ k < s0) (.slice (some ⟨g, 0, none⟩) n cap) os) (hj : j < n) :
  ∃ (oki : Nat → Prop) (ve : Value), W.cell? ⟨g, j, none⟩ = some ve ∧ W.frozen? ⟨g, j, none⟩ = false ∧ Kd.R k79 79 W base oki ve (os.getD j ⟨[]⟩).f0 ∧ (∀ k, oki k → (b0 < k ∧ k < s0) ∧ k ≠ g) ∧ Kd.H k82 82 W base (fun k => b0 < k ∧ k < s0) (.slice (some ⟨g, 0, none⟩) n cap) os (j : Int) oki [ve] := by
 obtain ⟨oki, c, hcl, hM, hcc, hfr, hoki, hH⟩ := Kd.S_elem HS ⟨[]⟩ (j : Int) (by omega) (by omega)
 obtain ⟨ve, rfl, hR⟩ := k82_openM hM
 have h1 := hcc 0 ve rfl
 have h2 := hfr 0
 rw [Int.toNat_natCast] at h1 hR h2
 refine ⟨oki, ve, ?_, ?_, hR, hoki, hH⟩
 ·simpa [show (k82).sz = 1 from rfl] using h1
 ·simpa [show (k82).sz = 1 from rfl] using h2
theorem push_back {W w1 : World} {base b0 s0 g n cap : Nat} {os : List BodyK} {j : Nat} {oki : Nat → Prop} {ve v1 : Value} {l : List NodeK} (hj : j < n) (hb0 : b0 < s0)
  (hH : Kd.H k82 82 W base (fun k => b0 < k ∧ k < s0) (.slice (some ⟨g, 0, none⟩) n cap) os (j : Int) oki [ve]) (hg : W.grownBy w1 ve.ownBlock) (hve : ∀ k, ve.ownBlock = some k → oki k)
  (hR : Kd.R k79 79 w1 base (fun k => oki k ∨ s0 ≤ k) v1 l) :
  Kd.S k82 82 (w1.setCell ⟨g, j, none⟩ v1) base (fun k => b0 < k) (.slice (some ⟨g, 0, none⟩) n cap) (os.set j ⟨l⟩) ∧ w1.grownBy (w1.setCell ⟨g, j, none⟩ v1) (some g) := by
 have h1 : Kd.H k82 82 W base (fun k => b0 < k ∧ ¬ s0 ≤ k) (.slice (some ⟨g, 0, none⟩) n cap) os (j : Int) oki [ve] := Kd.H_mono hH (fun k hk => ⟨hk.1, by omega⟩)
 have h2 := Kd.H_more (ok := fun k => b0 < k) (okg := fun k => s0 ≤ k) h1 (fun k hk => by show b0 < k; omega)
 have h3 := Kd.H_grown h2 hg (fun k hk => .inl (hve k hk))
 have h4 := Kd.S_seg0 h3 (by omega) (by omega) (seg := [v1]) (j := 0) (Nat.le_refl 1) (x' := (⟨l⟩ : BodyK)) (okp := fun k => oki k ∨ s0 ≤ k) (k82_mkM _ _ _ _ hR) (fun _ hk => hk)
 rw [Int.toNat_natCast] at h4
 simpa [show (k82).sz = 1 from rfl, World.setCells] using h4
theorem out_form {w : World} {base n : Nat} {v : Value} {z : BodyK} {ok : Nat → Prop} (h : Kd.S k82 82 w base ok v (List.replicate n z)) {N : Nat} (hb : ∃ b, v.ownBlock = some b ∧ N ≤ b) : ∃ g c, v = .slice (some ⟨g, 0, none⟩) n c ∧ Aside0 (N ≤ g) := by
 obtain ⟨A, c, e⟩ := Kd.S_slice h
 rw [List.length_replicate] at e
 subst e
 obtain ⟨b, hb, hN⟩ := hb
 cases A with
 | none => simp [Value.ownBlock] at hb
 | some a =>
  obtain ⟨g, rfl⟩ := Kd.R_head (Kd.S_R h)
  have : g = b := by simpa [Value.ownBlock] using hb
  exact ⟨g, c, rfl, ⟨by omega⟩⟩
structure KidsP (W1 w' : World) (vk : Value) (g8 : Nat) (kids : List BodyK) : Prop where
 below : Below W1.heap.size W1 w'
 node : w'.heap[g8]? = some (.cells #[.string ⟨#[]⟩, .string ⟨#[]⟩, .slice none 0 0, .bool false, .bool false, .slice none 0 0] 79 (0, 0))
 old : W1.heap.size ≤ g8
 rows : Kd.R k82 82 w' W1.heap.size (fun k => k ≠ g8) vk kids
theorem kids_after {W1 w2 : World} {vk : Value} {kids : List BodyK} (hb : Below W1.drew.heap.size W1.drew w2) (hk : Kd.R k82 82 w2 W1.drew.heap.size (fun _ => True) vk kids) :
  KidsP W1 (w2.alloc (.cells #[.string ⟨#[]⟩, .string ⟨#[]⟩, .slice none 0 0, .bool false, .bool false, .slice none 0 0] 79)) vk w2.heap.size kids where
 below := ((below_drew (Below.refl W1.heap.size W1)).trans hb).alloc hb.size _
 node := blk_new _ _
 old := hb.size
 rows := Kd.R_alloc (Kd.R_mono (Kd.R_bound hk) (fun k hk => by have := hk.2.2.1; omega)) _
theorem kids_ahead {W1 w2 : World} {vk : Value} {kids : List BodyK} (hb : Below (W1.alloc (.cells #[.string ⟨#[]⟩, .string ⟨#[]⟩, .slice none 0 0, .bool false, .bool false, .slice none 0 0] 79)).drew.heap.size (W1.alloc (.cells #[.string ⟨#[]⟩, .string ⟨#[]⟩, .slice none 0 0, .bool false, .bool false, .slice none 0 0] 79)).drew w2)
  (hk : Kd.R k82 82 w2 (W1.alloc (.cells #[.string ⟨#[]⟩, .string ⟨#[]⟩, .slice none 0 0, .bool false, .bool false, .slice none 0 0] 79)).drew.heap.size (fun _ => True) vk kids) : KidsP W1 w2 vk W1.heap.size kids where
 below := (below_drew ((Below.refl W1.heap.size W1).alloc (Nat.le_refl _) _)).trans (hb.mono (by simp))
 node := blk_below (blk_drew (blk_new W1 _)) hb
 old := Nat.le_refl _
 rows := Kd.R_lower (Kd.R_mono (Kd.R_bound hk) (fun k hk => by have h1 := hk.2.1; simp at h1; omega)) (by simp)
structure NodeP (W1 W7 : World) (N g8 : Nat) (vk : Value) (kids : List BodyK) (nm un : ByteArray) (va : Value) (sb vi : Bool) : Prop where
 below : Below W1.heap.size W1 W7
 node : W7.heap[g8]? = some (.cells #[.string nm, .string un, va, .bool sb, .bool vi, vk] 79 (0, 0))
 old : W1.heap.size ≤ g8
 lt : g8 < N
 size : N ≤ W7.heap.size
 rows : Kd.R k82 82 W7 W1.heap.size (fun k => k ≠ g8 ∧ k < N) vk kids
theorem node_stored {W1 W6 : World} {vk : Value} {g8 : Nat} {kids : List BodyK} (h : KidsP W1 W6 vk g8 kids) (nm un : ByteArray) (sb vi : Bool) :
  NodeP W1 ((((((W6.setCell ⟨g8, 0, none⟩ (.string nm)).setCell ⟨g8, 1, none⟩ (.string un)).setCell ⟨g8, 2, none⟩ (.slice none 0 0)).setCell ⟨g8, 3, none⟩ (.bool sb)).setCell ⟨g8, 4, none⟩ (.bool vi)).setCell ⟨g8, 5, none⟩ vk) W6.heap.size g8 vk kids nm un (.slice none 0 0) sb vi where
 below := (((((h.below.setCell (p := ⟨g8, 0, none⟩) h.old _).setCell (p := ⟨g8, 1, none⟩) h.old _).setCell (p := ⟨g8, 2, none⟩) h.old _).setCell (p := ⟨g8, 3, none⟩) h.old _).setCell (p := ⟨g8, 4, none⟩) h.old _).setCell (p := ⟨g8, 5, none⟩) h.old _
 node := blk_put (blk_put (blk_put (blk_put (blk_put (blk_put h.node 0 _ rfl) 1 _ rfl) 2 _ rfl) 3 _ rfl) 4 _ rfl) 5 _ rfl
 old := h.old
 lt := blk_lt h.node
 size := by simp [World.setCell]
 rows := by
  have hk : ∀ (W : World) (i : Nat) (u : Value), Kd.R k82 82 W W1.heap.size (fun k => k ≠ g8 ∧ k < W6.heap.size) vk kids → Kd.R k82 82 (W.setCell ⟨g8, i, none⟩ u) W1.heap.size (fun k => k ≠ g8 ∧ k < W6.heap.size) vk kids := fun W i u hh => Kd.R_far (p := ⟨g8, i, none⟩) hh (fun _ hk => hk.1) u
  exact hk _ _ _ (hk _ _ _ (hk _ _ _ (hk _ _ _ (hk _ _ _ (hk _ _ _ (Kd.R_mono (Kd.R_bound h.rows) (fun _ hk => ⟨hk.1, hk.2.2.1⟩)))))))
theorem node_step {W1 W Wd w1 : World} {N g8 : Nat} {vk va v1 : Value} {kids : List BodyK} {nm un : ByteArray} {sb vi : Bool} (h : NodeP W1 W N g8 vk kids nm un va sb vi) (hd : Below W.heap.size W Wd) (hb : Below N Wd w1) :
  NodeP W1 (w1.setCell ⟨g8, 2, none⟩ v1) N g8 vk kids nm un v1 sb vi where
 below := (((h.below.trans (hd.mono h.below.size)).trans (hb.mono (Nat.le_trans h.old (Nat.le_of_lt h.lt))))).setCell (p := ⟨g8, 2, none⟩) h.old _
 node := blk_put ((hb.block g8 h.lt).trans (blk_below h.node hd)) 2 _ rfl
 old := h.old
 lt := h.lt
 size := by have h1 := hb.size; have h2 := hd.size; have h3 := h.size; simp [World.setCell]; omega
 rows := Kd.R_far (p := ⟨g8, 2, none⟩) (Kd.R_step (Kd.R_below h.rows hd) (fun k hk _ => hb.block k hk.2)) (fun _ hk => hk.1) _
theorem cell_al {W : World} {a : Addr} {v : Value} {o : Obj} (h : W.cell? a = some v) : (W.alloc o).cell? a = some v := (World.cell?_alloc_lt _ _ _ (World.block_lt_of_cell? W a h)).trans h
theorem frozen_grown {W w1 : World} {row : Option Nat} (hg : W.grownBy w1 row) {a : Addr} {v : Value} (h : W.cell? a = some v) (hf : W.frozen? a = false) (hne : some a.block ≠ row) : w1.frozen? a = false := by
 have := hg.block a.block (World.block_lt_of_cell? W a h) hne
 simpa [World.frozen?, this] using hf
theorem node_made {W1 W : World} {N g8 : Nat} {vk va : Value} {kids : List BodyK} {nms : List ByteArray} {nm un : ByteArray} {sb vi : Bool} {base : Nat} (h : NodeP W1 W N g8 vk kids nm un va sb vi) (ha : Kd.R Kd.string 9 W N (fun k => k ≠ g8) va nms) (hb : base ≤ W1.heap.size) :
  (k79).M W.drew base (fun k => W1.heap.size ≤ k) ⟨nm, un, nms, sb, vi, kids⟩ [.string nm, .string un, va, .bool sb, .bool vi, vk] := by
 have h1 := h.old
 have h2 := h.lt
 refine k79_mkM _ _ _ _ (Kd.R_drew (Kd.R_mono (Kd.R_bound (Kd.R_lower (Kd.R_mono (Kd.R_bound ha) (fun k hk => (⟨hk.1, hk.2.1⟩ : k ≠ g8 ∧ N ≤ k))) (by omega))) (fun k hk => by have := hk.1.2; omega))) (Kd.R_drew (Kd.R_mono (Kd.R_bound (Kd.R_lower (Kd.R_mono (Kd.R_bound h.rows) (fun k hk => hk.2.1)) hb)) (fun k hk => hk.1)))
def BodiesP (p : List ItemK) (d i : Nat) (w : World) (e : Ending) (w' : World) : Prop := Below w.heap.size w w' ∧ ∃ v, e = .returned v ∧ Kd.R k82 82 w' w.heap.size (fun _ => True) v (bodiesF p d i)
set_option maxHeartbeats 16000000 in
set_option maxRecDepth 100000 in
theorem planBodies_walk (p : List ItemK) (hsh : shapedB p = true) (hbig : ∀ x ∈ p, x.f7.length ≤ 1000000) (d : Nat) : ∀ (A : Option Addr) (c : Nat) (i : Nat) (w : World), Kd.C k37 w A p.length p → p.length ≤ c → i < p.length → p.length ≤ i + d →
  Calls Try.prog 48 #[.agg #[.slice A p.length c], .int .i64 i] w (BodiesP p d i w) := by
 induction d with
 | zero => intro A c i w _ _ h1 h2; omega
 | succ d ih =>
  intro A c i w hC hc hi hd
  have IH := Aside0.mk ih
  have HC := Aside0.mk hC
  have HM := Aside0.mk (shaped_len hsh)
  have HSH := Aside0.mk hsh
  have HG0 := Aside0.mk (blk_new w (.cells #[.slice A p.length c] 24 (0, 0)))
  have HB0 := Aside0.mk ((Below.refl w.heap.size w).alloc (Nat.le_refl _) (.cells #[.slice A p.length c] 24 (0, 0)))
  have HBIG := Aside0.mk hbig
  obtain ⟨ad, A7, c7, e0, z0, z1, z2, z3, z4, z5, z6, z7, l7, g7⟩ := at_T37 (Kd.C_below HC.out HB0.out) (i : Int) (by omega) (by omega)
  subst e0
  clear z0 z1 z2 z3 z5 z6 z7 l7 g7 ih hC hsh hbig
  obtain ⟨pi, hpi⟩ : ∃ x, rd_T37 p (i : Int) = x := ⟨_, rfl⟩
  have HPI := Aside0.mk hpi
  rw [hpi] at z4
  clear hpi
  have h0i : (0 : Int) ≤ (i : Int) := by omega
  have hii : (i : Int) < (p.length : Int) := by omega
  rw [Int.toNat_natCast] at z4
  have hit : itemB p i pi = true := by
   have := shaped_at HSH.out hi
   rwa [← show rd_T37 p (i : Int) = p[i] from by unfold rd_T37; rw [Int.toNat_natCast, List.getD_eq_getElem?_getD, List.getElem?_eq_getElem hi]; rfl, HPI.out] at this
  obtain ⟨ha0, ha4, _⟩ := itemB_alts hit
  clear hit
  have HA0 := Aside0.mk ha0
  have HA4 := Aside0.mk ha4
  go_enter Try.func48, Try.ntmps48
  go_wp2_with ((with_reducible refine gate_dst (N := 17) rfl ?_); refine Kd.S_make k82 (w0 := w) w.heap.size 82 rfl (N := 17) rfl 77 _ _ rfl pi.f4 rfl rfl Try.underlying77 (.agg #[.slice none 0 0]) 24 info82 rfl (by decide) (by omega) (⟨[]⟩ : BodyK) (ok := fun k => w.heap.size < k) (okp := fun k => w.heap.size < k) ⟨_, rfl, Kd.R_nil _ _ _ _ _⟩ (fun _ hk => hk) (by simp) HA0.out (by have := HA4.out; omega) HB0.out (by simp) ?_; intro vO wO hO hb hg hbk; obtain ⟨gO, cO, rfl, HbO⟩ := out_form hO hbk; have HO := Aside0.mk hO; have HBO := Aside0.mk hb; have HGO := Aside0.mk ((hg.block _ (blk_lt HG0.out) (by simp)).trans HG0.out); have x0 : wO.cell? ⟨w.heap.size, 0, none⟩ = some (.slice (some ad) p.length c) := (blk_cell HGO.out 0).trans rfl; clear hO hb hg hbk z4)
  have HbO' := Aside0.mk HbO
  obtain ⟨na, hna⟩ : ∃ n, pi.f4.toNat = n := ⟨_, rfl⟩
  have HNA := Aside0.mk hna
  rw [hna] at HO ⊢
  clear hna
  clear HbO
  go_loopg [21] p.length (fun kq v21 w' => ∃ (j : Nat) (os : List BodyK), j + kq = p.length ∧ v21 = .int .i64 j ∧ Aside0 (os.length = na) ∧ Aside0 (∀ b ∈ os, b.f0.length ≤ j) ∧ Aside0 (bodiesF p (d + 1) i = addL p i (fun j => bodiesF p d j) j (p.drop j) os) ∧ Aside0 (Kd.S k82 82 w' w.heap.size (fun k => w.heap.size < k) (.slice (some ⟨gO, 0, none⟩) na cO) os) ∧ Aside0 (w'.heap[w.heap.size]? = some (.cells #[.slice (some ad) p.length c] 24 (0, 0))) ∧ Aside0 (Below w.heap.size w w'))
  case atStart => exact ⟨0, _, by omega, rfl, ⟨by simp⟩, ⟨by intro b hb; rw [List.eq_of_mem_replicate hb]; simp⟩, ⟨by rw [← HNA.out, ← HPI.out]; rfl⟩, HO, HGO, HBO⟩
  case round =>
   obtain ⟨wo, hwo⟩ : ∃ x, x = wr := ⟨_, rfl⟩
   subst hwo
   obtain ⟨j, os, hj, rfl, HOL, HON, HI, HS, HG, HB⟩ := hrel
   cases gk with
   | zero =>
    obtain rfl : j = p.length := by omega
    have HE : Aside0 (bodiesF p (d + 1) i = os) := ⟨by rw [HI.out, List.drop_eq_nil_of_le (Nat.le_refl _)]; rfl⟩
    go_wp2
    go_ret
    refine ⟨HB.out, _, rfl, ?_⟩
    rw [HE.out]
    exact Kd.R_mono (Kd.S_R HS.out) (fun _ _ => trivial)
   | succ k =>
    have hlt : j < p.length := by omega
    obtain ⟨ad', A8, c8, e0, x0, x1, x2, x3, x4, x5, x6, x7, l7, g7⟩ := at_T37 (Kd.C_below HC.out HB.out) (j : Int) (by omega) (by omega)
    obtain rfl := Option.some.inj e0
    rw [Int.toNat_natCast] at x0 x1 x2 x3 x4 x5 x6 x7
    have hrd : rd_T37 p (j : Int) = p[j] := by unfold rd_T37; rw [Int.toNat_natCast, List.getD_eq_getElem?_getD, List.getElem?_eq_getElem hlt]; rfl
    rw [hrd] at x0 x1 x2 x3 x4 x5 x6 x7 l7 g7
    obtain ⟨x, hx⟩ : ∃ x, p[j] = x := ⟨_, rfl⟩
    rw [hx] at x0 x1 x2 x3 x4 x5 x6 x7 l7 g7
    have HIT : Aside0 (itemB p j x = true) := ⟨by have := shaped_at HSH.out hlt; rwa [hx] at this⟩
    have HXB : Aside0 (x.f7.length ≤ 1000000) := ⟨by have := HBIG.out p[j] (List.getElem_mem hlt); rwa [hx] at this⟩
    have HD : Aside0 (addL p i (fun j => bodiesF p d j) j (p.drop j) os = addL p i (fun j => bodiesF p d j) (j + 1) (p.drop (j + 1)) (if j = 0 ∨ x.f5 ≠ (i : Int) then os else setNode os x.f6.toNat (nodeOf p x (bodiesF p d j)))) := ⟨by rw [List.drop_eq_getElem_cons hlt, hx]; rfl⟩
    have hlt' : (j : Int) < (p.length : Int) := by omega
    have h0 : (0 : Int) ≤ j := by omega
    have HJ := Aside0.mk hj
    have HJL := Aside0.mk hlt
    have HX := Aside0.mk (blk_new wo (.cells #[.string x.f0, .string x.f1, .bool x.f2, .bool x.f3, .int .i64 x.f4, .int .i64 x.f5, .int .i64 x.f6, .slice A8 x.f7.length c8] 37 (0, 0)))
    have HGX := Aside0.mk (blk_alloc HG.out (.cells #[.string x.f0, .string x.f1, .bool x.f2, .bool x.f3, .int .i64 x.f4, .int .i64 x.f5, .int .i64 x.f6, .slice A8 x.f7.length c8] 37 (0, 0)))
    have HBX := Aside0.mk (HB.out.alloc HB.out.size (.cells #[.string x.f0, .string x.f1, .bool x.f2, .bool x.f3, .int .i64 x.f4, .int .i64 x.f5, .int .i64 x.f6, .slice A8 x.f7.length c8] 37 (0, 0)))
    have HSX := Aside0.mk (Kd.S_alloc HS.out (.cells #[.string x.f0, .string x.f1, .bool x.f2, .bool x.f3, .int .i64 x.f4, .int .i64 x.f5, .int .i64 x.f6, .slice A8 x.f7.length c8] 37 (0, 0)))
    have HF7 := Aside0.mk (Kd.C_alloc g7 (.cells #[.string x.f0, .string x.f1, .bool x.f2, .bool x.f3, .int .i64 x.f4, .int .i64 x.f5, .int .i64 x.f6, .slice A8 x.f7.length c8] 37 (0, 0)))
    have HL7 := Aside0.mk l7
    have HX0 := Aside0.mk hx
    have HNX : Aside0 (Value.int .i64 (wrap64 ((j : Int) + 1)) = .int .i64 ((j + 1 : Nat) : Int)) := ⟨by rw [show wrap64 ((j : Int) + 1) = ((j + 1 : Nat) : Int) from by unfold wrap64; have := HM.out.2; omega]⟩
    clear hx hrd hj g7 l7
    by_cases hz : j = 0
    ·have hz1 : ((j : Int) == 0) = true := by simp [hz]
     have hz2 : decide ((j : Int) = 0) = true := decide_eq_true (by omega)
     have hz3 : decide (j = 0) = true := decide_eq_true hz
     have hz4 : (j == 0) = true := by simp [hz]
     have HZ := Aside0.mk hz
     clear hz
     go_wp2
     go_roundg k
     case measure => omega
     case rel => exact ⟨j + 1, os, by have := HJ.out; omega, by first | exact HNX.out | go_num, HOL, ⟨fun b hb => Nat.le_succ_of_le (HON.out b hb)⟩, ⟨by rw [HI.out, HD.out, if_pos (Or.inl HZ.out)]⟩, HSX, HGX, HBX⟩
    ·have hz1 : ((j : Int) == 0) = false := by simpa using hz
     have hz2 : decide ((j : Int) = 0) = false := decide_eq_false (by omega)
     have hz3 : decide (j = 0) = false := decide_eq_false hz
     have hz4 : (j == 0) = false := by simpa using hz
     have HZ := Aside0.mk hz
     by_cases h5 : x.f5 = (i : Int)
     ·have h51 : (x.f5 != (i : Int)) = false := by simp [h5]
      have h52 : decide (x.f5 = (i : Int)) = true := decide_eq_true h5
      have h53 : (x.f5 == (i : Int)) = true := by simp [h5]
      have H5 := Aside0.mk h5
      clear h5 hz
      go_wp2
      have HC1 := Aside0.mk (Kd.C_below HC.out HBX.out)
      have HLC := Aside0.mk hc
      obtain ⟨kids, hkids⟩ : ∃ l, bodiesF p d j = l := ⟨_, rfl⟩
      have HKI := Aside0.mk hkids
      clear hkids
      have HJD : Aside0 (p.length ≤ j + d) := ⟨by have h1 := (itemB_in HIT.out HZ.out).2.1; have h2 := H5.out; omega⟩
      have HSZ : Aside0 ((wo.alloc (.cells #[.string x.f0, .string x.f1, .bool x.f2, .bool x.f3, .int .i64 x.f4, .int .i64 x.f5, .int .i64 x.f6, .slice A8 x.f7.length c8] 37)).heap.size = wo.heap.size + 1) := ⟨by simp⟩
      generalize wo.alloc (.cells #[.string x.f0, .string x.f1, .bool x.f2, .bool x.f3, .int .i64 x.f4, .int .i64 x.f5, .int .i64 x.f6, .slice A8 x.f7.length c8] 37) = W1 at HX HGX HBX HSX HF7 HC1 HSZ ⊢
      --MARK6
      refine start_ (n := 14) (S := fun w' => w'.cell? ⟨wo.heap.size, 0, none⟩ = some (.string x.f0) ∧ w'.cell? ⟨wo.heap.size, 1, none⟩ = some (.string x.f1) ∧ w'.cell? ⟨wo.heap.size, 2, none⟩ = some (.bool x.f2) ∧ w'.cell? ⟨wo.heap.size, 3, none⟩ = some (.bool x.f3) ∧ w'.cell? ⟨w.heap.size, 0, none⟩ = some (.slice (some ad) p.length c)) (ds := [13]) #[false, false, false, false, false, false, false, false, false, false, false, false, false, false] (by kernel_rfl) rfl rfl ⟨((blk_cell (blk_drew HX.out) 0).trans rfl), ((blk_cell (blk_drew HX.out) 1).trans rfl), ((blk_cell (blk_drew HX.out) 2).trans rfl), ((blk_cell (blk_drew HX.out) 3).trans rfl), ((blk_cell (blk_drew HGX.out) 0).trans rfl)⟩ (fun hHeld => ?_)
      refine pure_ (i := 0) (N := some 34) (v := ?_) (a' := ?_) #[true, false, false, false, false, false, false, false, false, false, false, false, false, false] rfl rfl (by kernel_rfl) (fun _ _ _ h => h) (Or.inl ⟨by rfl, ?_⟩) ?_ ?_
      rotate_left
      ·intro w'
       go_simp
       with_reducible rfl
      rotate_left
      ·simp only [Act.put, List.setIfInBounds_toArray, List.set_cons_zero, List.set_cons_succ, i64_w, i32_w]
       rfl
      refine pure_ (i := 2) (N := some 36) (v := ?_) (a' := ?_) #[true, false, true, false, false, false, false, false, false, false, false, false, false, false] rfl rfl (by kernel_rfl) (fun _ _ _ h => h) (Or.inl ⟨by rfl, ?_⟩) ?_ ?_
      rotate_left
      ·intro w'
       go_simp
       with_reducible rfl
      rotate_left
      ·simp only [Act.put, List.setIfInBounds_toArray, List.set_cons_zero, List.set_cons_succ, i64_w, i32_w]
       rfl
      refine pure_ (i := 4) (N := some 38) (v := ?_) (a' := ?_) #[true, false, true, false, true, false, false, false, false, false, false, false, false, false] rfl rfl (by kernel_rfl) (fun _ _ _ h => h) (Or.inl ⟨by rfl, ?_⟩) ?_ ?_
      rotate_left
      ·intro w'
       go_simp
       with_reducible rfl
      rotate_left
      ·simp only [Act.put, List.setIfInBounds_toArray, List.set_cons_zero, List.set_cons_succ, i64_w, i32_w]
       rfl
      refine pure_ (i := 6) (N := some 40) (v := ?_) (a' := ?_) #[true, false, true, false, true, false, true, false, false, false, false, false, false, false] rfl rfl (by kernel_rfl) (fun _ _ _ h => h) (Or.inl ⟨by rfl, ?_⟩) ?_ ?_
      rotate_left
      ·intro w'
       go_simp
       with_reducible rfl
      rotate_left
      ·simp only [Act.put, List.setIfInBounds_toArray, List.set_cons_zero, List.set_cons_succ, i64_w, i32_w]
       rfl
      refine pure_ (i := 9) (N := some 43) (v := ?_) (a' := ?_) #[true, false, true, false, true, false, true, false, false, true, false, false, false, false] rfl rfl (by kernel_rfl) (fun _ _ _ h => h) (Or.inl ⟨by rfl, ?_⟩) ?_ ?_
      rotate_left
      ·intro w'
       go_simp
       with_reducible rfl
      rotate_left
      ·simp only [Act.put, List.setIfInBounds_toArray, List.set_cons_zero, List.set_cons_succ, i64_w, i32_w]
       rfl
      refine take_ (i := 1) (N := some 35) (v := ?_) (a' := ?_) #[true, true, true, false, true, false, true, false, false, true, false, false, false, false] rfl rfl (by kernel_rfl) (fun _ _ _ h => h) (Or.inl ⟨by rfl, ?_⟩) hHeld ?_ ?_
      rotate_left
      ·rintro w' ⟨s0, s1, s2, s3, s4⟩
       go_simp
       with_reducible rfl
      rotate_left
      ·simp only [Act.put, List.setIfInBounds_toArray, List.set_cons_zero, List.set_cons_succ, i64_w, i32_w]
       rfl
      refine take_ (i := 3) (N := some 37) (v := ?_) (a' := ?_) #[true, true, true, true, true, false, true, false, false, true, false, false, false, false] rfl rfl (by kernel_rfl) (fun _ _ _ h => h) (Or.inl ⟨by rfl, ?_⟩) hHeld ?_ ?_
      rotate_left
      ·rintro w' ⟨s0, s1, s2, s3, s4⟩
       go_simp
       with_reducible rfl
      rotate_left
      ·simp only [Act.put, List.setIfInBounds_toArray, List.set_cons_zero, List.set_cons_succ, i64_w, i32_w]
       rfl
      refine take_ (i := 5) (N := some 39) (v := ?_) (a' := ?_) #[true, true, true, true, true, true, true, false, false, true, false, false, false, false] rfl rfl (by kernel_rfl) (fun _ _ _ h => h) (Or.inl ⟨by rfl, ?_⟩) hHeld ?_ ?_
      rotate_left
      ·rintro w' ⟨s0, s1, s2, s3, s4⟩
       go_simp
       with_reducible rfl
      rotate_left
      ·simp only [Act.put, List.setIfInBounds_toArray, List.set_cons_zero, List.set_cons_succ, i64_w, i32_w]
       rfl
      refine take_ (i := 7) (N := some 41) (v := ?_) (a' := ?_) #[true, true, true, true, true, true, true, true, false, true, false, false, false, false] rfl rfl (by kernel_rfl) (fun _ _ _ h => h) (Or.inl ⟨by rfl, ?_⟩) hHeld ?_ ?_
      rotate_left
      ·rintro w' ⟨s0, s1, s2, s3, s4⟩
       go_simp
       with_reducible rfl
      rotate_left
      ·simp only [Act.put, List.setIfInBounds_toArray, List.set_cons_zero, List.set_cons_succ, i64_w, i32_w]
       rfl
      refine take_ (i := 8) (N := some 42) (v := ?_) (a' := ?_) #[true, true, true, true, true, true, true, true, true, true, false, false, false, false] rfl rfl (by kernel_rfl) (fun _ _ _ h => h) (Or.inl ⟨by rfl, ?_⟩) hHeld ?_ ?_
      rotate_left
      ·rintro w' ⟨s0, s1, s2, s3, s4⟩
       go_simp
       with_reducible rfl
      rotate_left
      ·simp only [Act.put, List.setIfInBounds_toArray, List.set_cons_zero, List.set_cons_succ, i64_w, i32_w]
       rfl
      refine join_ (σ := Option Addr × Nat × Nat) 1 #[true, true, true, true, true, true, true, true, true, true, true, true, true, false] (fun s => [(44, .slice s.1 kids.length s.2.1), (8, .pointer (some ⟨s.2.2, 0, none⟩)), (45, .agg #[.string x.f0, .string x.f1, .slice none 0 0, .bool x.f2, .bool x.f3, .slice s.1 kids.length s.2.1])]) (fun s w' => KidsP W1 w' (.slice s.1 kids.length s.2.1) s.2.2 kids) ?_ ?_
      rotate_left
      ·intro hCont
       refine two_ (i := 10) (j := 12) (Ni := some 44) (Nj := some 8) #[true, true, true, true, true, true, true, true, true, true, true, false, false, false] #[true, true, true, true, true, true, true, true, true, true, false, false, true, false] rfl rfl rfl rfl (by kernel_rfl) (by decide) (by decide) (fun K hK => ?_) (fun K hK => ?_)
       ·skip
        refine goes_ Try.func48 (by kernel_rfl) rfl #[.agg #[.slice (some ad) p.length c], .int .i64 j] (by rfl) rfl rfl (by first | rfl | (simp only [List.map_toArray, List.map_cons, List.map_nil]; rfl)) ?_
        with_reducible refine ((IH.out (some ad) c j W1.drew (Kd.C_drew HC1.out) HLC.out HJL.out HJD.out)).mono ?_
        rintro e w2 ⟨hb, vk, rfl, hK2⟩
        refine ⟨_, rfl, ?_⟩
        rw [HKI.out] at hK2
        obtain ⟨Ak, ck, rfl⟩ := Kd.R_slice hK2
        have HBK := Aside0.mk hb
        have HK2 := Aside0.mk hK2
        clear hb hK2
        refine hK.out _ _ ⟨((blk_cell (blk_below (blk_drew HX.out) HBK.out) 0).trans rfl), ((blk_cell (blk_below (blk_drew HX.out) HBK.out) 1).trans rfl), ((blk_cell (blk_below (blk_drew HX.out) HBK.out) 2).trans rfl), ((blk_cell (blk_below (blk_drew HX.out) HBK.out) 3).trans rfl), ((blk_cell (blk_below (blk_drew HGX.out) HBK.out) 0).trans rfl)⟩ (fun hHeld => ?_)
        clear hK K
        refine norm_ (a' := ?_) ?_ ?_
        rotate_left
        ·show Act.put _ (some 44) _ = _
         simp only [Act.put, List.setIfInBounds_toArray, List.set_cons_zero, List.set_cons_succ, i64_w, i32_w]
         rfl
        refine pure_ (i := 11) (N := some 45) (v := ?_) (a' := ?_) #[true, true, true, true, true, true, true, true, true, true, true, true, false, false] rfl rfl (by kernel_rfl) (fun _ _ _ h => h) (Or.inl ⟨by rfl, ?_⟩) ?_ ?_
        rotate_left
        ·intro w'
         go_simp
         with_reducible rfl
        rotate_left
        ·simp only [Act.put, List.setIfInBounds_toArray, List.set_cons_zero, List.set_cons_succ, i64_w, i32_w]
         rfl
        refine one_ (i := 12) (N := some 8) #[true, true, true, true, true, true, true, true, true, true, true, true, true, false] rfl rfl (by kernel_rfl) (by decide) (fun K hK => ?_)
        refine value_ (w1 := ?_) (v := ?_) (by rfl) rfl ?_ ?_
        rotate_left 2
        ·go_simp
         constructor
         ·rfl
         ·rfl
        refine hK.out _ _ ⟨((blk_cell (blk_alloc (blk_below (blk_drew HX.out) HBK.out) _) 0).trans rfl), ((blk_cell (blk_alloc (blk_below (blk_drew HX.out) HBK.out) _) 1).trans rfl), ((blk_cell (blk_alloc (blk_below (blk_drew HX.out) HBK.out) _) 2).trans rfl), ((blk_cell (blk_alloc (blk_below (blk_drew HX.out) HBK.out) _) 3).trans rfl), ((blk_cell (blk_alloc (blk_below (blk_drew HGX.out) HBK.out) _) 0).trans rfl)⟩ (fun hHeld => ?_)
        clear hK K
        refine norm_ (a' := ?_) ?_ ?_
        rotate_left
        ·show Act.put _ (some 8) _ = _
         simp only [Act.put, List.setIfInBounds_toArray, List.set_cons_zero, List.set_cons_succ, i64_w, i32_w]
         rfl
        exact norm_ (by simp only [putAll, Act.put, List.setIfInBounds_toArray, List.set_cons_zero, List.set_cons_succ]) (hCont (Ak, ck, w2.heap.size) _ (kids_after HBK.out HK2.out))
       ·skip
        refine value_ (w1 := ?_) (v := ?_) (by rfl) rfl ?_ ?_
        rotate_left 2
        ·go_simp
         constructor
         ·rfl
         ·rfl
        refine hK.out _ _ ⟨((blk_cell (blk_drew (blk_alloc HX.out _)) 0).trans rfl), ((blk_cell (blk_drew (blk_alloc HX.out _)) 1).trans rfl), ((blk_cell (blk_drew (blk_alloc HX.out _)) 2).trans rfl), ((blk_cell (blk_drew (blk_alloc HX.out _)) 3).trans rfl), ((blk_cell (blk_drew (blk_alloc HGX.out _)) 0).trans rfl)⟩ (fun hHeld => ?_)
        clear hK K
        refine norm_ (a' := ?_) ?_ ?_
        rotate_left
        ·show Act.put _ (some 8) _ = _
         simp only [Act.put, List.setIfInBounds_toArray, List.set_cons_zero, List.set_cons_succ, i64_w, i32_w]
         rfl
        refine one_ (i := 10) (N := some 44) #[true, true, true, true, true, true, true, true, true, true, true, false, true, false] rfl rfl (by kernel_rfl) (by decide) (fun K hK => ?_)
        refine goes_ Try.func48 (by kernel_rfl) rfl #[.agg #[.slice (some ad) p.length c], .int .i64 j] (by rfl) rfl rfl (by first | rfl | (simp only [List.map_toArray, List.map_cons, List.map_nil]; rfl)) ?_
        with_reducible refine ((IH.out (some ad) c j _ (Kd.C_drew (Kd.C_alloc HC1.out _)) HLC.out HJL.out HJD.out)).mono ?_
        rintro e w2 ⟨hb, vk, rfl, hK2⟩
        refine ⟨_, rfl, ?_⟩
        rw [HKI.out] at hK2
        obtain ⟨Ak, ck, rfl⟩ := Kd.R_slice hK2
        have HBK := Aside0.mk hb
        have HK2 := Aside0.mk hK2
        clear hb hK2
        refine hK.out _ _ ⟨((blk_cell (blk_below (blk_drew (blk_alloc HX.out _)) HBK.out) 0).trans rfl), ((blk_cell (blk_below (blk_drew (blk_alloc HX.out _)) HBK.out) 1).trans rfl), ((blk_cell (blk_below (blk_drew (blk_alloc HX.out _)) HBK.out) 2).trans rfl), ((blk_cell (blk_below (blk_drew (blk_alloc HX.out _)) HBK.out) 3).trans rfl), ((blk_cell (blk_below (blk_drew (blk_alloc HGX.out _)) HBK.out) 0).trans rfl)⟩ (fun hHeld => ?_)
        clear hK K
        refine norm_ (a' := ?_) ?_ ?_
        rotate_left
        ·show Act.put _ (some 44) _ = _
         simp only [Act.put, List.setIfInBounds_toArray, List.set_cons_zero, List.set_cons_succ, i64_w, i32_w]
         rfl
        refine pure_ (i := 11) (N := some 45) (v := ?_) (a' := ?_) #[true, true, true, true, true, true, true, true, true, true, true, true, true, false] rfl rfl (by kernel_rfl) (fun _ _ _ h => h) (Or.inl ⟨by rfl, ?_⟩) ?_ ?_
        rotate_left
        ·intro w'
         go_simp
         with_reducible rfl
        rotate_left
        ·simp only [Act.put, List.setIfInBounds_toArray, List.set_cons_zero, List.set_cons_succ, i64_w, i32_w]
         rfl
        exact norm_ (by simp only [putAll, Act.put, List.setIfInBounds_toArray, List.set_cons_zero, List.set_cons_succ]) (hCont (Ak, ck, W1.heap.size) _ (kids_ahead HBK.out HK2.out))
      rintro ⟨Ak, ck, g8⟩ W6 HF6
      have HKP := Aside0.mk HF6
      have q0 := (blk_cell HF6.node 0).trans rfl
      have q1 := (blk_cell HF6.node 1).trans rfl
      have q2 := (blk_cell HF6.node 2).trans rfl
      have q3 := (blk_cell HF6.node 3).trans rfl
      have q4 := (blk_cell HF6.node 4).trans rfl
      have q5 := (blk_cell HF6.node 5).trans rfl
      have y0 := blk_frozen HF6.node 0
      have y1 := blk_frozen HF6.node 1
      have y2 := blk_frozen HF6.node 2
      have y3 := blk_frozen HF6.node 3
      have y4 := blk_frozen HF6.node 4
      have y5 := blk_frozen HF6.node 5
      clear HF6
      refine norm_ (a' := ?_) ?_ ?_
      rotate_left
      ·simp only [putAll, Act.put, List.setIfInBounds_toArray, List.set_cons_zero, List.set_cons_succ]
       rfl
      refine last_ (i := 13) (N := none) #[true, true, true, true, true, true, true, true, true, true, true, true, true, true] rfl rfl (by kernel_rfl) (by decide) (fun K hK => ?_)
      refine skip_ (w1 := ?_) (by rfl) rfl ?_ ?_
      rotate_left
      ·go_simp
       rfl
      refine hK.out _ _ ?_
      clear hK K
      refine done_ (by kernel_rfl) ?_
      --END6
      have HNP := Aside0.mk (node_stored HKP.out x.f0 x.f1 x.f2 x.f3)
      have HNN : Aside0 (W6.heap.size ≤ W6.heap.size) := ⟨Nat.le_refl _⟩
      clear q0 q1 q2 q3 q4 q5 y0 y1 y2 y3 y4 y5 hHeld
      generalize ((((((W6.setCell ⟨g8, 0, none⟩ (.string x.f0)).setCell ⟨g8, 1, none⟩ (.string x.f1)).setCell ⟨g8, 2, none⟩ (.slice none 0 0)).setCell ⟨g8, 3, none⟩ (.bool x.f2)).setCell ⟨g8, 4, none⟩ (.bool x.f3)).setCell ⟨g8, 5, none⟩ (.slice Ak kids.length ck)) = W7 at HNP ⊢
      generalize W6.heap.size = N at HNP
      clear HKP HNN
      have HX7 := Aside0.mk (blk_below HX.out HNP.out.below)
      have c7 := (blk_cell HX7.out 7).trans rfl
      have HIN := Aside0.mk (itemB_in HIT.out HZ.out)
      have H7 := Aside0.mk (itemB_alts HIT.out).2.2
      have HAF0 := Aside0.mk (Kd.R_nil Kd.string 9 W7 N (fun k => k ≠ g8))
      have HW1 : Aside0 (w.heap.size < W1.heap.size) := ⟨by have h1 := HSZ.out; have h2 := blk_lt HG.out; omega⟩
      have HGX7 : Aside0 (∀ W, Below W1.heap.size W1 W → W.heap[w.heap.size]? = some (.cells #[.slice (some ad) p.length c] 24 (0, 0))) := ⟨fun W h => blk_below HGX.out h⟩
      have HXX7 : Aside0 (∀ W, Below W1.heap.size W1 W → W.heap[wo.heap.size]? = some (.cells #[.string x.f0, .string x.f1, .bool x.f2, .bool x.f3, .int .i64 x.f4, .int .i64 x.f5, .int .i64 x.f6, .slice A8 x.f7.length c8] 37 (0, 0))) := ⟨fun W h => blk_below HX.out h⟩
      have hm7 := HXB.out
      go_wp2
      clear c7
      go_loopg [49] x.f7.length (fun kq v49 w' => ∃ (q : Nat) (va : Value), q + kq = x.f7.length ∧ v49 = .int .i64 q ∧ Aside0 (NodeP W1 w' N g8 (.slice Ak kids.length ck) kids x.f0 x.f1 va x.f2 x.f3) ∧ Aside0 (Kd.R Kd.string 9 w' N (fun k => k ≠ g8) va ((x.f7.take q).map fun k => (rd_T37 p k).f0)))
      case atStart => exact ⟨0, _, by omega, rfl, HNP, HAF0⟩
      case round =>
       obtain ⟨q, va, hq, rfl, HNQ, HAQ⟩ := hrel
       cases gk with
       | zero =>
        obtain rfl : q = x.f7.length := by omega
        have hal0 := HIN.out.2.2.1
        obtain ⟨al, hal⟩ : ∃ a : Nat, x.f6 = (a : Int) := ⟨x.f6.toNat, by omega⟩
        have HAL := Aside0.mk hal
        have HALN : Aside0 (al < na) := ⟨by have h1 := HIN.out.2.2.2; rw [H5.out, HPI.out, hal] at h1; have h2 := HNA.out; omega⟩
        obtain ⟨nms, hnms⟩ : ∃ l, (x.f7.map fun k => (rd_T37 p k).f0) = l := ⟨_, rfl⟩
        have HNMS := Aside0.mk hnms
        rw [List.take_length, hnms] at HAQ
        clear hnms
        obtain ⟨Aa, ca, rfl⟩ := Kd.R_slice HAQ.out
        have HS8 := Aside0.mk (Kd.S_mono (Kd.S_below (Kd.S_bound HSX.out) HNQ.out.below) (fun k hk => (⟨hk.1, hk.2.2.1⟩ : w.heap.size < k ∧ k < W1.heap.size)))
        obtain ⟨oki, ve, hc8, hf8, hR8, hoki, hH8⟩ := push_get HS8.out HALN.out
        obtain ⟨nds, hnds⟩ : ∃ l, (os.getD al ⟨[]⟩).f0 = l := ⟨_, rfl⟩
        have HNDS := Aside0.mk hnds
        rw [hnds] at hR8
        have HNJ : Aside0 (nds.length ≤ j) := ⟨by have h1 := HOL.out; have h2 := HALN.out; have h3 := HON.out (os[al]'(by omega)) (List.getElem_mem (by omega)); rw [← hnds, List.getD_eq_getElem?_getD, List.getElem?_eq_getElem (by omega)]; simpa using h3⟩
        have HNL : Aside0 (nds.length ≤ 64) := ⟨by have h3 := HNJ.out; have h4 := HM.out.2; have h5 := HJL.out; omega⟩
        clear hnds
        obtain ⟨Ae, ce, rfl⟩ := Kd.R_slice hR8
        have HR8 := Aside0.mk hR8
        have HH8 := Aside0.mk hH8
        have HK8 := Aside0.mk hoki
        have HC8 := Aside0.mk hc8
        have HF8 := Aside0.mk hf8
        have HX8 := Aside0.mk (HXX7.out wr HNQ.out.below)
        rw [hal] at HX8
        have hb1 : (al : Int) < (na : Int) := by have := HALN.out; omega
        have hb2 : (0 : Int) ≤ (al : Int) := by omega
        clear hR8 hH8 hoki hc8 hf8 hal
        go_wp2
        --MARK12
        refine start_ (n := 15) (S := fun w' => w'.cell? ⟨wo.heap.size, 6, none⟩ = some (.int .i64 al) ∧ w'.cell? ⟨gO, al, none⟩ = some (.slice Ae nds.length ce) ∧ w'.cell? ⟨g8, 0, none⟩ = some (.string x.f0) ∧ w'.cell? ⟨g8, 1, none⟩ = some (.string x.f1) ∧ w'.cell? ⟨g8, 2, none⟩ = some (.slice Aa nms.length ca) ∧ w'.cell? ⟨g8, 3, none⟩ = some (.bool x.f2) ∧ w'.cell? ⟨g8, 4, none⟩ = some (.bool x.f3) ∧ w'.cell? ⟨g8, 5, none⟩ = some (.slice Ak kids.length ck)) (ds := [14]) #[false, false, false, false, false, false, false, false, false, false, false, false, false, false, false] (by kernel_rfl) rfl rfl ⟨((blk_cell (blk_drew HX8.out) 6).trans rfl), HC8.out, ((blk_cell (blk_drew HNQ.out.node) 0).trans rfl), ((blk_cell (blk_drew HNQ.out.node) 1).trans rfl), ((blk_cell (blk_drew HNQ.out.node) 2).trans rfl), ((blk_cell (blk_drew HNQ.out.node) 3).trans rfl), ((blk_cell (blk_drew HNQ.out.node) 4).trans rfl), ((blk_cell (blk_drew HNQ.out.node) 5).trans rfl)⟩ (fun hHeld => ?_)
        refine pure_ (i := 0) (N := some 65) (v := ?_) (a' := ?_) #[true, false, false, false, false, false, false, false, false, false, false, false, false, false, false] rfl rfl (by kernel_rfl) (fun _ _ _ h => h) (Or.inl ⟨by rfl, ?_⟩) ?_ ?_
        rotate_left
        ·intro w'
         go_simp
         with_reducible rfl
        rotate_left
        ·simp only [Act.put, List.setIfInBounds_toArray, List.set_cons_zero, List.set_cons_succ, i64_w, i32_w]
         rfl
        refine pure_ (i := 1) (N := some 66) (v := ?_) (a' := ?_) #[true, true, false, false, false, false, false, false, false, false, false, false, false, false, false] rfl rfl (by kernel_rfl) (fun _ _ _ h => h) (Or.inl ⟨by rfl, ?_⟩) ?_ ?_
        rotate_left
        ·intro w'
         go_simp
         with_reducible rfl
        rotate_left
        ·simp only [Act.put, List.setIfInBounds_toArray, List.set_cons_zero, List.set_cons_succ, i64_w, i32_w]
         rfl
        refine pure_ (i := 3) (N := some 68) (v := ?_) (a' := ?_) #[true, true, false, true, false, false, false, false, false, false, false, false, false, false, false] rfl rfl (by kernel_rfl) (fun _ _ _ h => h) (Or.inl ⟨by rfl, ?_⟩) ?_ ?_
        rotate_left
        ·intro w'
         go_simp
         with_reducible rfl
        rotate_left
        ·simp only [Act.put, List.setIfInBounds_toArray, List.set_cons_zero, List.set_cons_succ, i64_w, i32_w]
         rfl
        refine pure_ (i := 4) (N := some 69) (v := ?_) (a' := ?_) #[true, true, false, true, true, false, false, false, false, false, false, false, false, false, false] rfl rfl (by kernel_rfl) (fun _ _ _ h => h) (Or.inl ⟨by rfl, ?_⟩) ?_ ?_
        rotate_left
        ·intro w'
         go_simp
         with_reducible rfl
        rotate_left
        ·simp only [Act.put, List.setIfInBounds_toArray, List.set_cons_zero, List.set_cons_succ, i64_w, i32_w]
         rfl
        refine take_ (i := 2) (N := some 67) (v := ?_) (a' := ?_) #[true, true, true, true, true, false, false, false, false, false, false, false, false, false, false] rfl rfl (by kernel_rfl) (fun _ _ _ h => h) (Or.inl ⟨by rfl, ?_⟩) hHeld ?_ ?_
        rotate_left
        ·rintro w' ⟨s0, s1, s2, s3, s4, s5, s6, s7⟩
         go_simp
         with_reducible rfl
        rotate_left
        ·simp only [Act.put, List.setIfInBounds_toArray, List.set_cons_zero, List.set_cons_succ, i64_w, i32_w]
         rfl
        refine take_ (i := 5) (N := some 70) (v := ?_) (a' := ?_) #[true, true, true, true, true, true, false, false, false, false, false, false, false, false, false] rfl rfl (by kernel_rfl) (fun _ _ _ h => h) (Or.inl ⟨by rfl, ?_⟩) hHeld ?_ ?_
        rotate_left
        ·rintro w' ⟨s0, s1, s2, s3, s4, s5, s6, s7⟩
         go_simp
         with_reducible rfl
        rotate_left
        ·simp only [Act.put, List.setIfInBounds_toArray, List.set_cons_zero, List.set_cons_succ, i64_w, i32_w]
         rfl
        refine pure_ (i := 6) (N := some 71) (v := ?_) (a' := ?_) #[true, true, true, true, true, true, true, false, false, false, false, false, false, false, false] rfl rfl (by kernel_rfl) (fun _ _ _ h => h) (Or.inl ⟨by rfl, ?_⟩) ?_ ?_
        rotate_left
        ·intro w'
         go_simp
         with_reducible rfl
        rotate_left
        ·simp only [Act.put, List.setIfInBounds_toArray, List.set_cons_zero, List.set_cons_succ, i64_w, i32_w]
         rfl
        refine pure_ (i := 7) (N := some 72) (v := ?_) (a' := ?_) #[true, true, true, true, true, true, true, true, false, false, false, false, false, false, false] rfl rfl (by kernel_rfl) (fun _ _ _ h => h) (Or.inl ⟨by rfl, ?_⟩) ?_ ?_
        rotate_left
        ·intro w'
         go_simp
         with_reducible rfl
        rotate_left
        ·simp only [Act.put, List.setIfInBounds_toArray, List.set_cons_zero, List.set_cons_succ, i64_w, i32_w]
         rfl
        refine take_ (i := 8) (N := some 73) (v := ?_) (a' := ?_) #[true, true, true, true, true, true, true, true, true, false, false, false, false, false, false] rfl rfl (by kernel_rfl) (fun _ _ _ h => h) (Or.inl ⟨by rfl, ?_⟩) hHeld ?_ ?_
        rotate_left
        ·rintro w' ⟨s0, s1, s2, s3, s4, s5, s6, s7⟩
         go_simp
         with_reducible rfl
        rotate_left
        ·simp only [Act.put, List.setIfInBounds_toArray, List.set_cons_zero, List.set_cons_succ, i64_w, i32_w]
         rfl
        refine take_ (i := 9) (N := some 74) (v := ?_) (a' := ?_) #[true, true, true, true, true, true, true, true, true, true, false, false, false, false, false] rfl rfl (by kernel_rfl) (fun _ _ _ h => h) (Or.inl ⟨by rfl, ?_⟩) hHeld ?_ ?_
        rotate_left
        ·rintro w' ⟨s0, s1, s2, s3, s4, s5, s6, s7⟩
         go_simp
         with_reducible rfl
        rotate_left
        ·simp only [Act.put, List.setIfInBounds_toArray, List.set_cons_zero, List.set_cons_succ, i64_w, i32_w]
         rfl
        refine one_ (i := 10) (N := some 75) #[true, true, true, true, true, true, true, true, true, true, true, false, false, false, false] rfl rfl (by kernel_rfl) (by decide) (fun K hK => ?_)
        refine value_ (w1 := ?_) (v := ?_) (by rfl) rfl ?_ ?_
        rotate_left 2
        ·go_simp
         constructor
         ·rfl
         ·rfl
        refine hK.out _ _ ⟨(cell_al hHeld.1), (cell_al hHeld.2.1), (cell_al hHeld.2.2.1), (cell_al hHeld.2.2.2.1), (cell_al hHeld.2.2.2.2.1), (cell_al hHeld.2.2.2.2.2.1), (cell_al hHeld.2.2.2.2.2.2.1), (cell_al hHeld.2.2.2.2.2.2.2)⟩ (fun hHeld => ?_)
        clear hK K
        refine norm_ (a' := ?_) ?_ ?_
        rotate_left
        ·show Act.put _ (some 75) _ = _
         simp only [Act.put, List.setIfInBounds_toArray, List.set_cons_zero, List.set_cons_succ, i64_w, i32_w]
         rfl
        refine one_ (i := 11) (N := some 76) #[true, true, true, true, true, true, true, true, true, true, true, true, false, false, false] rfl rfl (by kernel_rfl) (by decide) (fun K hK => ?_)
        refine Kd.R_append_step k79 (w0 := w) w.heap.size (by rfl) (.tmp 73) (.tmp 75) 80 79 (.agg #[.string ⟨#[]⟩, .string ⟨#[]⟩, .slice none 0 0, .bool false, .bool false, .slice none 0 0]) 88 rfl Try.underlying80 info93_ rfl (by decide) (by omega) (.slice Ae nds.length ce) nds ⟨x.f0, x.f1, nms, x.f2, x.f3, kids⟩ [.string x.f0, .string x.f1, .slice Aa nms.length ca, .bool x.f2, .bool x.f3, .slice Ak kids.length ck] (fun k => oki k ∨ W1.heap.size ≤ k) (fun k => W1.heap.size ≤ k) rfl rfl (node_made HNQ.out HAQ.out (Nat.le_of_lt HW1.out)) (fun k hk => ⟨.inr hk, fun e => by have h1 := (HK8.out k (HR8.out.1 k e.symm)).1.2; omega⟩) (fun k hk => .inr (Nat.le_trans HNQ.out.below.size hk)) (Kd.R_drew (Kd.R_mono HR8.out (fun _ hk => .inl hk))) ((HBX.out.trans (HNQ.out.below.mono (Nat.le_of_lt HW1.out))).drew) (Nat.le_trans (Nat.le_of_lt HW1.out) HNQ.out.below.size) (by have := HNL.out; omega) ?_
        intro v1 w9 hR9 hb9 hg9 hat9
        obtain ⟨A9, c9, rfl⟩ := Kd.R_slice hR9
        have HB9 := Aside0.mk hb9
        have HR9 := Aside0.mk hR9
        have HG9 := Aside0.mk hg9
        have q9 : w9.cell? ⟨gO, al, none⟩ = some (.slice Ae nds.length ce) := cell_grown hg9 HC8.out (fun e => (HK8.out gO (HR8.out.1 gO e.symm)).2 rfl)
        have f9 : w9.frozen? ⟨gO, al, none⟩ = false := frozen_grown hg9 HC8.out HF8.out (fun e => (HK8.out gO (HR8.out.1 gO e.symm)).2 rfl)
        have hne8 : some g8 ≠ (Value.slice Ae nds.length ce).ownBlock := fun e => by have h1 := (HK8.out g8 (HR8.out.1 g8 e.symm)).1.2; have h2 := HNQ.out.old; omega
        have HNE8 := Aside0.mk hne8
        clear hb9 hg9 hat9 hR9 hne8
        refine hK.out _ _ ⟨(cell_grown HG9.out ((blk_cell (blk_drew HX8.out) 6).trans rfl) (Kd.R_ne HR8.out HX8.out (by decide))), q9, (cell_grown HG9.out ((blk_cell (blk_drew HNQ.out.node) 0).trans rfl) HNE8.out), (cell_grown HG9.out ((blk_cell (blk_drew HNQ.out.node) 1).trans rfl) HNE8.out), (cell_grown HG9.out ((blk_cell (blk_drew HNQ.out.node) 2).trans rfl) HNE8.out), (cell_grown HG9.out ((blk_cell (blk_drew HNQ.out.node) 3).trans rfl) HNE8.out), (cell_grown HG9.out ((blk_cell (blk_drew HNQ.out.node) 4).trans rfl) HNE8.out), (cell_grown HG9.out ((blk_cell (blk_drew HNQ.out.node) 5).trans rfl) HNE8.out)⟩ (fun hHeld => ?_)
        clear hK K
        refine norm_ (a' := ?_) ?_ ?_
        rotate_left
        ·show Act.put _ (some 76) _ = _
         simp only [Act.put, List.setIfInBounds_toArray, List.set_cons_zero, List.set_cons_succ, i64_w, i32_w]
         rfl
        refine pure_ (i := 12) (N := some 77) (v := ?_) (a' := ?_) #[true, true, true, true, true, true, true, true, true, true, true, true, true, false, false] rfl rfl (by kernel_rfl) (fun _ _ _ h => h) (Or.inl ⟨by rfl, ?_⟩) ?_ ?_
        rotate_left
        ·intro w'
         go_simp
         with_reducible rfl
        rotate_left
        ·simp only [Act.put, List.setIfInBounds_toArray, List.set_cons_zero, List.set_cons_succ, i64_w, i32_w]
         rfl
        refine pure_ (i := 13) (N := some 78) (v := ?_) (a' := ?_) #[true, true, true, true, true, true, true, true, true, true, true, true, true, true, false] rfl rfl (by kernel_rfl) (fun _ _ _ h => h) (Or.inl ⟨by rfl, ?_⟩) ?_ ?_
        rotate_left
        ·intro w'
         go_simp
         with_reducible rfl
        rotate_left
        ·simp only [Act.put, List.setIfInBounds_toArray, List.set_cons_zero, List.set_cons_succ, i64_w, i32_w]
         rfl
        refine last_ (i := 14) (N := none) #[true, true, true, true, true, true, true, true, true, true, true, true, true, true, true] rfl rfl (by kernel_rfl) (by decide) (fun K hK => ?_)
        refine skip_ (w1 := ?_) (by rfl) rfl ?_ ?_
        rotate_left
        ·go_simp
         rfl
        refine hK.out _ _ ?_
        clear hK K
        refine done_ (by kernel_rfl) ?_
        --END12
        go_wp2
        go_roundg k
        case measure => omega
        case rel =>
         have hGO : w.heap.size < gO := by have h1 := HbO'.out.out; simp at h1; omega
         refine ⟨j + 1, os.set al ⟨nds ++ [⟨x.f0, x.f1, nms, x.f2, x.f3, kids⟩]⟩, by have := HJ.out; omega, by first | exact HNX.out | go_num, ⟨by rw [List.length_set]; exact HOL.out⟩, ⟨fun b hb => ?_⟩, ⟨?_⟩, ⟨by have hS := (push_back HALN.out HW1.out (Kd.H_drew HH8.out) HG9.out HR8.out.1 HR9.out).1; rw [List.length_append] at hS; exact hS⟩, ⟨?_⟩, ⟨HB9.out.setCell (p := ⟨gO, al, none⟩) (Nat.le_of_lt hGO) _⟩⟩
         ·rcases List.mem_or_eq_of_mem_set hb with hb | rfl
          ·exact Nat.le_succ_of_le (HON.out b hb)
          ·simp only [List.length_append, List.length_singleton]; exact Nat.succ_le_succ HNJ.out
         ·rw [HI.out, HD.out, if_neg (fun h => h.elim HZ.out (fun h => h H5.out))]
          unfold setNode nodeOf
          rw [HAL.out, Int.toNat_natCast, HNDS.out, HNMS.out, HKI.out]
         ·exact (Below.heap_setCell _ _ _ _ (by show w.heap.size ≠ gO; omega)).trans (blk_grown (blk_drew (HGX7.out wr HNQ.out.below)) HG9.out (fun e => by have := (HK8.out _ (HR8.out.1 _ e.symm)).1.1; omega))
       | succ k2 =>
        have hlt2 : q < x.f7.length := by omega
        obtain ⟨ad2, e2, y0⟩ := Kd.at_int (Kd.C_below HF7.out HNQ.out.below) (q : Int) (by omega) (by omega)
        subst e2
        rw [Int.toNat_natCast] at y0
        have hrd2 : rd x.f7 (q : Int) = x.f7[q] := by unfold rd; rw [Int.toNat_natCast, List.getD_eq_getElem?_getD, List.getElem?_eq_getElem hlt2]; rfl
        rw [hrd2] at y0
        obtain ⟨m, hm⟩ : ∃ m, x.f7[q] = m := ⟨_, rfl⟩
        rw [hm] at y0
        have HMB : Aside0 (1 ≤ m ∧ m < (p.length : Int)) := ⟨by have := H7.out m (hm ▸ List.getElem_mem hlt2); exact this⟩
        have HNS : Aside0 (((x.f7.take (q + 1)).map fun k => (rd_T37 p k).f0) = ((x.f7.take q).map fun k => (rd_T37 p k).f0) ++ [(rd_T37 p m).f0]) := ⟨by rw [List.take_succ_eq_append_getElem hlt2, hm, List.map_append]; rfl⟩
        obtain ⟨ad9, A9, c9, e9, u0, _⟩ := at_T37 (Kd.C_below HC1.out HNQ.out.below) m (by have := HMB.out; omega) (by have := HMB.out; omega)
        obtain rfl := Option.some.inj e9
        have HU0 := Aside0.mk u0
        obtain ⟨nms, hnms⟩ : ∃ l, ((x.f7.take q).map fun k => (rd_T37 p k).f0) = l := ⟨_, rfl⟩
        have HNLL : Aside0 (nms.length ≤ 1000000) := ⟨by rw [← hnms, List.length_map, List.length_take]; have := HXB.out; omega⟩
        rw [hnms] at HAQ HNS
        clear hnms
        obtain ⟨Aa, ca, rfl⟩ := Kd.R_slice HAQ.out
        have hm0 : (0 : Int) ≤ m := by have := HMB.out; omega
        have hm1 : m < (p.length : Int) := by have := HMB.out; omega
        have hqq : (q : Int) < (x.f7.length : Int) := by omega
        have hq0 : (0 : Int) ≤ (q : Int) := by omega
        have HQ2 := Aside0.mk hq
        clear hm hrd2 u0 hq
        go_wp2
        --MARK10
        refine start_ (n := 12) (S := fun w' => w'.cell? ⟨g8, 2, none⟩ = some (.slice Aa nms.length ca) ∧ w'.cell? ⟨w.heap.size, 0, none⟩ = some (.slice (some ad) p.length c) ∧ w'.cell? (ad.add (m.toNat * 8)) = some (.string (rd_T37 p m).f0)) (ds := [9, 11]) #[false, false, false, false, false, false, false, false, false, false, false, false] (by kernel_rfl) rfl rfl ⟨((blk_cell (blk_drew HNQ.out.node) 2).trans rfl), ((blk_cell (blk_drew (HGX7.out wr HNQ.out.below)) 0).trans rfl), HU0.out⟩ (fun hHeld => ?_)
        refine pure_ (i := 0) (N := some 53) (v := ?_) (a' := ?_) #[true, false, false, false, false, false, false, false, false, false, false, false] rfl rfl (by kernel_rfl) (fun _ _ _ h => h) (Or.inl ⟨by rfl, ?_⟩) ?_ ?_
        rotate_left
        ·intro w'
         go_simp
         with_reducible rfl
        rotate_left
        ·simp only [Act.put, List.setIfInBounds_toArray, List.set_cons_zero, List.set_cons_succ, i64_w, i32_w]
         rfl
        refine pure_ (i := 2) (N := some 55) (v := ?_) (a' := ?_) #[true, false, true, false, false, false, false, false, false, false, false, false] rfl rfl (by kernel_rfl) (fun _ _ _ h => h) (Or.inl ⟨by rfl, ?_⟩) ?_ ?_
        rotate_left
        ·intro w'
         go_simp
         with_reducible rfl
        rotate_left
        ·simp only [Act.put, List.setIfInBounds_toArray, List.set_cons_zero, List.set_cons_succ, i64_w, i32_w]
         rfl
        refine pure_ (i := 4) (N := some 57) (v := ?_) (a' := ?_) #[true, false, true, false, true, false, false, false, false, false, false, false] rfl rfl (by kernel_rfl) (fun _ _ _ h => h) (Or.inl ⟨by rfl, ?_⟩) ?_ ?_
        rotate_left
        ·intro w'
         go_simp
         with_reducible rfl
        rotate_left
        ·simp only [Act.put, List.setIfInBounds_toArray, List.set_cons_zero, List.set_cons_succ, i64_w, i32_w]
         rfl
        refine take_ (i := 1) (N := some 54) (v := ?_) (a' := ?_) #[true, true, true, false, true, false, false, false, false, false, false, false] rfl rfl (by kernel_rfl) (fun _ _ _ h => h) (Or.inl ⟨by rfl, ?_⟩) hHeld ?_ ?_
        rotate_left
        ·rintro w' ⟨s0, s1, s2⟩
         go_simp
         with_reducible rfl
        rotate_left
        ·simp only [Act.put, List.setIfInBounds_toArray, List.set_cons_zero, List.set_cons_succ, i64_w, i32_w]
         rfl
        refine take_ (i := 3) (N := some 56) (v := ?_) (a' := ?_) #[true, true, true, true, true, false, false, false, false, false, false, false] rfl rfl (by kernel_rfl) (fun _ _ _ h => h) (Or.inl ⟨by rfl, ?_⟩) hHeld ?_ ?_
        rotate_left
        ·rintro w' ⟨s0, s1, s2⟩
         go_simp
         with_reducible rfl
        rotate_left
        ·simp only [Act.put, List.setIfInBounds_toArray, List.set_cons_zero, List.set_cons_succ, i64_w, i32_w]
         rfl
        refine pure_ (i := 5) (N := some 58) (v := ?_) (a' := ?_) #[true, true, true, true, true, true, false, false, false, false, false, false] rfl rfl (by kernel_rfl) (fun _ _ _ h => h) (Or.inl ⟨by rfl, ?_⟩) ?_ ?_
        rotate_left
        ·intro w'
         go_simp
         with_reducible rfl
        rotate_left
        ·simp only [Act.put, List.setIfInBounds_toArray, List.set_cons_zero, List.set_cons_succ, i64_w, i32_w]
         rfl
        refine pure_ (i := 6) (N := some 59) (v := ?_) (a' := ?_) #[true, true, true, true, true, true, true, false, false, false, false, false] rfl rfl (by kernel_rfl) (fun _ _ _ h => h) (Or.inl ⟨by rfl, ?_⟩) ?_ ?_
        rotate_left
        ·intro w'
         go_simp
         with_reducible rfl
        rotate_left
        ·simp only [Act.put, List.setIfInBounds_toArray, List.set_cons_zero, List.set_cons_succ, i64_w, i32_w]
         rfl
        refine take_ (i := 7) (N := some 60) (v := ?_) (a' := ?_) #[true, true, true, true, true, true, true, true, false, false, false, false] rfl rfl (by kernel_rfl) (fun _ _ _ h => h) (Or.inl ⟨by rfl, ?_⟩) hHeld ?_ ?_
        rotate_left
        ·rintro w' ⟨s0, s1, s2⟩
         go_simp
         with_reducible rfl
        rotate_left
        ·simp only [Act.put, List.setIfInBounds_toArray, List.set_cons_zero, List.set_cons_succ, i64_w, i32_w]
         rfl
        refine one_ (i := 8) (N := some 61) #[true, true, true, true, true, true, true, true, true, false, false, false] rfl rfl (by kernel_rfl) (by decide) (fun K hK => ?_)
        refine value_ (w1 := ?_) (v := ?_) (by rfl) rfl ?_ ?_
        rotate_left 2
        ·go_simp
         constructor
         ·rfl
         ·rfl
        refine hK.out _ _ ⟨(cell_al hHeld.1), (cell_al hHeld.2.1), (cell_al hHeld.2.2)⟩ (fun hHeld => ?_)
        clear hK K
        refine norm_ (a' := ?_) ?_ ?_
        rotate_left
        ·show Act.put _ (some 61) _ = _
         simp only [Act.put, List.setIfInBounds_toArray, List.set_cons_zero, List.set_cons_succ, i64_w, i32_w]
         rfl
        refine last_ (i := 9) (N := some 62) #[true, true, true, true, true, true, true, true, true, true, false, false] rfl rfl (by kernel_rfl) (by decide) (fun K hK => ?_)
        refine Kd.R_append_step Kd.string (w0 := wr.drew) N (by rfl) (.tmp 54) (.tmp 61) 76 9 (.string ⟨#[]⟩) 16 rfl Try.underlying76 info9_ rfl (by decide) (by omega) (.slice Aa nms.length ca) nms (rd_T37 p m).f0 [.string (rd_T37 p m).f0] (fun k => k ≠ g8) (fun _ => False) rfl rfl rfl (fun _ hk => hk.elim) (fun k hk => by have h1 := HNQ.out.lt; have h2 := HNQ.out.size; simp at hk; omega) (Kd.R_drew HAQ.out) (Below.refl _ _) HNQ.out.size (by have := HNLL.out; omega) ?_
        intro v1 w9 hR9 hb9 hg9 hat9
        obtain ⟨A9, c9, rfl⟩ := Kd.R_slice hR9
        have HB9 := Aside0.mk hb9
        have HR9 := Aside0.mk hR9
        have hz9 := (hb9.block g8 HNQ.out.lt).trans (blk_drew HNQ.out.node)
        have q9 : w9.cell? ⟨g8, 2, none⟩ = some (.slice Aa nms.length ca) := (blk_cell hz9 2).trans rfl
        have f9 := blk_frozen hz9 2
        clear hb9 hg9 hat9 hR9 hz9
        refine hK.out _ _ ?_
        clear hK K
        refine norm_ (a' := ?_) ?_ ?_
        rotate_left
        ·show Act.put _ (some 62) _ = _
         simp only [Act.put, List.setIfInBounds_toArray, List.set_cons_zero, List.set_cons_succ, i64_w, i32_w]
         rfl
        refine pure_ (i := 10) (N := some 63) (v := ?_) (a' := ?_) #[true, true, true, true, true, true, true, true, true, true, true, false] rfl rfl (by kernel_rfl) (fun _ _ _ h => h) (Or.inl ⟨by rfl, ?_⟩) ?_ ?_
        rotate_left
        ·intro w'
         go_simp
         with_reducible rfl
        rotate_left
        ·simp only [Act.put, List.setIfInBounds_toArray, List.set_cons_zero, List.set_cons_succ, i64_w, i32_w]
         rfl
        refine last_ (i := 11) (N := none) #[true, true, true, true, true, true, true, true, true, true, true, true] rfl rfl (by kernel_rfl) (by decide) (fun K hK => ?_)
        refine skip_ (w1 := ?_) (by rfl) rfl ?_ ?_
        rotate_left
        ·go_simp
         rfl
        refine hK.out _ _ ?_
        clear hK K
        refine done_ (by kernel_rfl) ?_
        --END10
        go_wp2
        go_roundg k2
        case measure => omega
        case rel => exact ⟨q + 1, _, by have := HQ2.out; omega, by go_num, ⟨node_step HNQ.out (below_drew (Below.refl _ _)) HB9.out⟩, ⟨by rw [HNS.out]; have hS := HR9.out; rw [List.length_append] at hS; exact Kd.R_far (p := ⟨g8, 2, none⟩) hS (fun _ hk => hk) _⟩⟩
     ·have h51 : (x.f5 != (i : Int)) = true := by simpa using h5
      have h52 : decide (x.f5 = (i : Int)) = false := decide_eq_false h5
      have h53 : (x.f5 == (i : Int)) = false := by simpa using h5
      have H5 := Aside0.mk h5
      clear h5 hz
      go_wp2
      go_roundg k
      case measure => omega
      case rel => exact ⟨j + 1, os, by have := HJ.out; omega, by first | exact HNX.out | go_num, HOL, ⟨fun b hb => Nat.le_succ_of_le (HON.out b hb)⟩, ⟨by rw [HI.out, HD.out, if_pos (Or.inr H5.out)]⟩, HSX, HGX, HBX⟩
end Go.Proofs.Ytihpndignekheaa.F
end

section
namespace Go.Proofs.Ytihpndignekheaa.F
open Go.RowKit Go.Proofs.YtihpndignekheaaW.PrintWords Go.Proofs.YtihpndignekheaaW.PrintLast Go.Proofs.YtihpndignekheaaW.PrintMore
attribute [local go_sem] max2_int min2_int max_two min_two max_three min_three max_four min_four
set_option linter.unusedVariables false
set_option linter.unusedSimpArgs false
set_option maxHeartbeats 4000000 in
set_option maxRecDepth 100000 in
theorem index_func_node (gf : Nat) (lb : Array Value) (eg : ∀ args w, (callFunc gf args).run Try.prog w = .ok (.enter gf args) w) (p : S79 → Bool) (A0 : Option Addr) (c0 : Nat) (l0 : List S79) (w : World) (hr0 : Kd.C k79 w A0 l0.length l0)
  (hp : ∀ (i : Nat) (h : i < l0.length) (W : World), Below w.heap.size w W → ∀ cs, k79.K W l0[i] cs → Calls Try.prog gf (#[.agg cs.toArray] ++ lb) W fun e W' => e = .returned (.bool (p l0[i])) ∧ Below W.heap.size W W') :
  Calls Try.prog 74 #[.slice A0 l0.length c0, .func (.func gf) #[] lb] w fun e w' => e = .returned (.int .i64 (idxF p l0 0)) ∧ Below w.heap.size w w' := by
 have HR := Aside0.mk hr0
 have HB := Aside0.mk (Below.refl w.heap.size w)
 have HM := Aside0.mk (Kd.C_max hr0)
 have HL := Aside0.mk (idxF_drop p l0)
 have HP := Aside0.mk hp
 clear hr0 hp
 go_enter Try.func74, Try.ntmps74
 go_wp2
 go_loopg [5, 8] l0.length (fun kq v5 v8 w' => ∃ i : Nat, i + kq = l0.length ∧ v8 = .int .i64 i ∧ Aside0 (idxF p l0 0 = idxF p (l0.drop i) i) ∧ Aside0 (Below w.heap.size w w'))
 case atStart => exact ⟨0, by omega, rfl, ⟨rfl⟩, ⟨Below.refl _ _⟩⟩
 case round =>
  obtain ⟨i, hi, rfl, HI, HB⟩ := hrel
  have hm := HM.out
  cases gk with
  | zero =>
   obtain rfl : i = l0.length := by omega
   have HE : Aside0 (idxF p l0 0 = -1) := ⟨by rw [HI.out, List.drop_eq_nil_of_le (Nat.le_refl _)]; rfl⟩
   clear eg
   go_wp2
   go_ret
   exact ⟨by rw [HE.out]; rfl, HB.out⟩
  | succ k =>
   have hlt : i < l0.length := by omega
   obtain ⟨ad, A2, c2, A5, c5, e0, x0, x1, x2, x3, x4, x5, l2, g2, l5, g5⟩ := at_T79 (Kd.C_below HR.out HB.out) (i : Int) (by omega) (by omega)
   rw [Int.toNat_natCast] at x0 x1 x2 x3 x4 x5
   have hrd : rd_T79 l0 (i : Int) = l0[i] := by unfold rd_T79; rw [Int.toNat_natCast, List.getD_eq_getElem?_getD, List.getElem?_eq_getElem hlt]; rfl
   rw [hrd] at x0 x1 x2 x3 x4 x5 l2 g2 l5 g5
   subst e0
   have hcall := HP.out i hlt wr HB.out _ (k79_mk wr l0[i] l2 g2 l5 g5)
   obtain ⟨x, hx⟩ : ∃ x, l0[i] = x := ⟨_, rfl⟩
   have HD := Aside0.mk (HL.out i hlt (i : Int))
   rw [hx] at x0 x1 x2 x3 x4 x5 HD hcall
   have hlt' : (i : Int) < (l0.length : Int) := by omega
   have h0 : (0 : Int) ≤ i := by omega
   have HI2 := Aside0.mk hi
   have HC := Aside0.mk hcall
   clear hx hrd hi hcall l2 g2 l5 g5
   obtain ⟨v, hv⟩ : ∃ v, p x = v := ⟨_, rfl⟩
   have HV := Aside0.mk hv
   clear hv
   cases v
   all_goals
    go_wp2_with (go_at_fn gf; refine HC.out.mono ?_; rintro e w2 ⟨rfl, hB2⟩; rw [HV.out]; have HB2 := Aside0.mk hB2; clear hB2)
   ·go_roundg k
    case measure => omega
    case rel => exact ⟨i + 1, by have := HI2.out; omega, by go_num, ⟨by rw [HI.out, HD.out, HV.out]; simp⟩, ⟨HB.out.trans (HB2.out.mono HB.out.size)⟩⟩
   ·go_ret
    exact ⟨by rw [HI.out, HD.out, HV.out]; rfl, HB.out.trans (HB2.out.mono HB.out.size)⟩
set_option maxHeartbeats 4000000 in
set_option maxRecDepth 100000 in
theorem contains_func_node (gf : Nat) (lb : Array Value) (eg : ∀ args w, (callFunc gf args).run Try.prog w = .ok (.enter gf args) w) (p : S79 → Bool) (A0 : Option Addr) (c0 : Nat) (l0 : List S79) (w : World) (hr0 : Kd.C k79 w A0 l0.length l0)
  (hp : ∀ (i : Nat) (h : i < l0.length) (W : World), Below w.heap.size w W → ∀ cs, k79.K W l0[i] cs → Calls Try.prog gf (#[.agg cs.toArray] ++ lb) W fun e W' => e = .returned (.bool (p l0[i])) ∧ Below W.heap.size W W') :
  Calls Try.prog 87 #[.slice A0 l0.length c0, .func (.func gf) #[] lb] w fun e w' => e = .returned (.bool (l0.any p)) ∧ Below w.heap.size w w' := by
 have hc := Aside0.mk (index_func_node gf lb eg p A0 c0 l0 w hr0 hp)
 have HA := Aside0.mk (idxF_any p l0 0 (by omega))
 clear hp eg hr0
 go_enter Try.func87, Try.ntmps87
 go_wp2_with (go_at_call 74; refine hc.out.mono ?_; rintro e w2 ⟨rfl, hB2⟩; have HB2 := Aside0.mk hB2; clear hB2)
 go_ret
 exact ⟨by rw [HA.out]; rfl, HB2.out⟩
end Go.Proofs.Ytihpndignekheaa.F
end

section
namespace Go.Proofs.Ytihpndignekheaa.F
open Go.RowKit Go.Proofs.YtihpndignekheaaW.PrintWords Go.Proofs.YtihpndignekheaaW.PrintLast Go.Proofs.YtihpndignekheaaW.PrintMore
attribute [local go_sem] max2_int min2_int max_two min_two max_three min_three max_four min_four
set_option linter.unusedVariables false
set_option linter.unusedSimpArgs false
def badAt (s : ByteArray) (pos : Nat) : Bool := (Utf8.decode s pos).1 == 65533 && (Utf8.decode s pos).2 == 1
def badFrom (s : ByteArray) : Nat → Nat → Int
 | 0, _ => -1
 | f + 1, pos => if pos < s.size then (if badAt s pos then (pos : Int) else badFrom s f (pos + (Utf8.decode s pos).2)) else -1
def badOf (s : ByteArray) : Int := badFrom s s.size 0
def glyph_Bad.f (a0 : ByteArray) : Option Int := some (badOf a0)
theorem width_pos (s : ByteArray) (pos : Nat) (h : pos < s.size) : 1 ≤ (Utf8.decode s pos).2 := by
 by_cases ha : (s[pos]'h).toNat < 128
 ·rw [decode_ascii s pos h ha]
  exact Nat.le_refl _
 ·exact (decode_high s pos h (by omega)).2
theorem badFrom_end (s : ByteArray) (f pos : Nat) (h : ¬ pos < s.size) : badFrom s f pos = -1 := by
 cases f with
 | zero => rfl
 | succ f => simp [badFrom, h]
theorem prefix_of (s : ByteArray) (pos : Nat) (h : pos ≤ s.size) : strings_HasPrefix.f (s.extract pos s.size) (⟨#[239, 191, 189]⟩ : ByteArray) = some (decide (pos + 3 ≤ s.size ∧ (s.get! (pos + 0)).toNat = 239 ∧ (s.get! (pos + 1)).toNat = 191 ∧ (s.get! (pos + 2)).toNat = 189)) := by
 unfold strings_HasPrefix.f stringslite_HasPrefix.f
 have hs : (s.extract pos s.size).size = s.size - pos := by rw [ByteArray.size_extract]; omega
 have h3 : ((⟨#[239, 191, 189]⟩ : ByteArray).size : Int) = 3 := rfl
 rw [hs, h3]
 by_cases hl : pos + 3 ≤ s.size
 ·rw [if_pos (by omega), if_pos (by omega), if_pos (by omega)]
  simp only [Option.bind_some]
  congr 1
  have hL : s.data.toList.length = s.size := data_length s
  have he : ((s.extract pos s.size).extract 0 ((3 : Int)).toNat).toList = [s.get! (pos + 0), s.get! (pos + 1), s.get! (pos + 2)] := by
   rw [Go.ByteArray.toList_eq, ByteArray.data_extract, ByteArray.data_extract, Array.toList_extract, Array.toList_extract]
   rw [← Go.Lib.getD_get!', ← Go.Lib.getD_get!', ← Go.Lib.getD_get!']
   have g : ∀ k, k < 3 → s.data.toList.getD (pos + k) 0 = s.data.toList[pos + k]?.getD 0 := fun k _ => by rw [List.getD_eq_getElem?_getD]
   rw [g 0 (by omega), g 1 (by omega), g 2 (by omega)]
   rw [List.getElem?_eq_getElem (by omega), List.getElem?_eq_getElem (by omega), List.getElem?_eq_getElem (by omega)]
   simp only [Option.getD_some]
   apply List.ext_getElem
   ·simp [List.extract_eq_take_drop]; omega
   ·intro i h1 h2
    simp only [List.length_cons, List.length_nil] at h2
    have : i = 0 ∨ i = 1 ∨ i = 2 := by omega
    rcases this with rfl | rfl | rfl <;> simp [List.extract_eq_take_drop]
  rw [he]
  rw [show (⟨#[239, 191, 189]⟩ : ByteArray).toList = [239, 191, 189] from by rw [Go.ByteArray.toList_eq]]
  rw [Bool.eq_iff_iff]
  simp only [beq_iff_eq, List.cons.injEq, and_true, decide_eq_true_eq, ← UInt8.toNat_inj]
  exact ⟨fun h => ⟨hl, h⟩, fun h => h.2⟩
 ·rw [if_neg (by omega)]
  simp [hl]
def dec4 (m a b c d : Nat) : Nat × Nat :=
 if a < 0x80 then (a, 1)
 else if a / 32 == 6 && (decide (1 < m) && b / 64 == 2) then
  if a % 32 * 64 + b % 64 ≥ 0x80 then (a % 32 * 64 + b % 64, 2) else (65533, 1)
 else if a / 16 == 14 && (decide (1 < m) && b / 64 == 2) && (decide (2 < m) && c / 64 == 2) then
  if decide (a % 16 * 4096 + b % 64 * 64 + c % 64 ≥ 0x800) && Utf8.valid ((a % 16 * 4096 + b % 64 * 64 + c % 64 : Nat) : Int) then (a % 16 * 4096 + b % 64 * 64 + c % 64, 3) else (65533, 1)
 else if a / 8 == 30 && (decide (1 < m) && b / 64 == 2) && (decide (2 < m) && c / 64 == 2) && (decide (3 < m) && d / 64 == 2) then
  if decide (a % 8 * 262144 + b % 64 * 4096 + c % 64 * 64 + d % 64 ≥ 0x10000) && Utf8.valid ((a % 8 * 262144 + b % 64 * 4096 + c % 64 * 64 + d % 64 : Nat) : Int) then (a % 8 * 262144 + b % 64 * 4096 + c % 64 * 64 + d % 64, 4) else (65533, 1)
 else (65533, 1)
theorem decode_eq (s : ByteArray) (pos : Nat) : Utf8.decode s pos = dec4 (s.size - pos) (s.get! (pos + 0)).toNat (s.get! (pos + 1)).toNat (s.get! (pos + 2)).toNat (s.get! (pos + 3)).toNat := by
 have e : ∀ k, decide (pos + k < s.size) = decide (k < s.size - pos) := fun k => decide_eq_decide.2 (by omega)
 unfold Utf8.decode dec4
 simp only [e, Utf8.runeError]
theorem dec4_fffd (m a b c d : Nat) (h0 : a < 256) (h1 : b < 256) (h2 : c < 256) (h3 : d < 256) (hd : (dec4 m a b c d).1 = 65533) : ((dec4 m a b c d).2 = 1) ↔ ¬ (3 ≤ m ∧ a = 239 ∧ b = 191 ∧ c = 189) := by
 by_cases g : 3 ≤ m ∧ a = 239 ∧ b = 191 ∧ c = 189
 ·obtain ⟨g0, rfl, rfl, rfl⟩ := g
  have e1 : 1 < m := by omega
  have e2 : 2 < m := by omega
  simp [dec4, e1, e2, Utf8.valid]
  omega
 ·refine ⟨fun _ => g, fun _ => ?_⟩
  unfold dec4 at hd ⊢
  repeat' split at hd
  all_goals (simp only [Bool.and_eq_true, decide_eq_true_eq, beq_iff_eq] at *)
  all_goals (first | (simp_all; done) | (exfalso; omega) | skip)
  all_goals (repeat' split)
  all_goals (first | rfl | contradiction | (exfalso; omega))
theorem broken_of (s : ByteArray) (pos : Nat) (h : pos < s.size) : glyph_broken.f s pos (Utf8.decode s pos).1 = some (badAt s pos) := by
 unfold glyph_broken.f badAt
 by_cases hd : (Utf8.decode s pos).1 = 65533
 ·rw [if_pos (by omega), if_pos (by omega), if_pos (by omega)]
  rw [Int.toNat_natCast, prefix_of s pos (by omega)]
  simp only [Option.bind_some, hd, beq_self_eq_true, Bool.true_and]
  have := dec4_fffd (s.size - pos) (s.get! (pos + 0)).toNat (s.get! (pos + 1)).toNat (s.get! (pos + 2)).toNat (s.get! (pos + 3)).toNat (UInt8.toNat_lt _) (UInt8.toNat_lt _) (UInt8.toNat_lt _) (UInt8.toNat_lt _) (by rw [← decode_eq]; exact hd)
  rw [← decode_eq] at this
  congr 1
  rw [Bool.eq_iff_iff]
  simp only [Bool.not_eq_true', decide_eq_false_iff_not, beq_iff_eq]
  rw [this]
  constructor
  ·intro h1 h2; exact h1 ⟨by omega, h2.2⟩
  ·intro h1 h2; exact h1 ⟨by omega, h2.2⟩
 ·rw [if_neg (by omega)]
  simp [hd]
set_option maxHeartbeats 4000000 in
set_option maxRecDepth 100000 in
theorem glyph_Bad.calls (a0 : ByteArray) (r : Int) (w : World) (h : glyph_Bad.f a0 = some r) : Calls Try.prog 91 #[.string a0] w fun e w' => e = .returned (.int .i64 r) ∧ Below w.heap.size w w' := by
 obtain rfl := Option.some.inj h
 clear h
 go_enter Try.func91, Try.ntmps91
 go_wp2
 go_loopw [] (fun wr => ∃ (pos fuel : Nat), wr.heap[w.heap.size]? = some (.stringIter a0 pos) ∧ Aside0 (Below w.heap.size w wr) ∧ Aside0 (badFrom a0 fuel pos = badOf a0) ∧ Aside0 (a0.size ≤ pos + fuel)) (fun wr => a0.size - wr.iterPos w.heap.size)
 case atStart => exact ⟨0, a0.size, World.iter_heap w a0 0, ⟨(Below.refl _ w).alloc (Nat.le_refl _) _⟩, ⟨rfl⟩, ⟨by omega⟩⟩
 case round =>
  obtain ⟨pos, fuel, hit, HB, HE, HF⟩ := hrel
  have HIT := Aside0.mk hit
  clear hit
  by_cases hp : pos < a0.size
  ·have hnx : ∀ ty, (Instr.next (.pointer (some ⟨w.heap.size, 0, none⟩)) true ty).run Try.prog wr = _ := fun ty => Go.Lib.run_next_any_at wr w.heap.size a0 pos ty HIT.out hp
   have hbr := broken_of a0 pos hp
   have hwd := Aside0.mk (width_pos a0 pos hp)
   have HIT2 := Aside0.mk (Go.Lib.iterAt_heap wr w.heap.size a0 pos (pos + (Utf8.decode a0 pos).2) HIT.out)
   have HB2 := Aside0.mk (Go.Lib.below_iterAt HB.out (k := w.heap.size) (Nat.le_refl _) a0 (pos + (Utf8.decode a0 pos).2))
   obtain ⟨f, hf⟩ : ∃ f, fuel = f + 1 := ⟨fuel - 1, by have := HF.out; omega⟩
   have HE2 : Aside0 ((if badAt a0 pos then (pos : Int) else badFrom a0 f (pos + (Utf8.decode a0 pos).2)) = badOf a0) := ⟨by have := HE.out; rw [hf] at this; simpa [badFrom, hp] using this⟩
   have HF2 : Aside0 (a0.size ≤ pos + (Utf8.decode a0 pos).2 + f) := ⟨by have := HF.out; have := hwd.out; omega⟩
   have HP := Aside0.mk hp
   have HBR := Aside0.mk hbr
   obtain ⟨b, hb⟩ : ∃ b, badAt a0 pos = b := ⟨_, rfl⟩
   have HV := Aside0.mk hb
   clear hb hf HE HF hp hbr
   generalize (Utf8.decode a0 pos).2 = wd at *
   generalize (Utf8.decode a0 pos).1 = cp at *
   cases b
   all_goals
    go_wp2_with (go_at_call 99; refine (glyph_broken.calls a0 pos cp _ _ HBR.out).mono ?_; rintro e w2 ⟨rfl, ⟨nq, rfl⟩⟩; rw [HV.out])
   ·go_roundw
    case rel => exact ⟨pos + wd, f, HIT2.out, ⟨HB2.out.trans (pw_below_drewN (Below.refl _ _) _)⟩, ⟨by have := HE2.out; rw [HV.out] at this; simpa using this⟩, HF2⟩
    case measure =>
     have h1 := HIT.out
     have h2 := HIT2.out
     have h3 := HP.out
     have h4 := hwd.out
     simp only [World.iterPos, World.heap_drewN, h1, h2]
     omega
   ·go_ret
    exact ⟨by have := HE2.out; rw [HV.out] at this; simp at this; rw [← this]; rfl, HB2.out.trans (pw_below_drewN (Below.refl _ _) _)⟩
  ·have hnx : ∀ ty, (Instr.next (.pointer (some ⟨w.heap.size, 0, none⟩)) true ty).run Try.prog wr = _ := fun ty => Go.Lib.run_next_end_at wr w.heap.size a0 pos ty HIT.out hp
   have HE2 : Aside0 (badOf a0 = -1) := ⟨by rw [← HE.out]; exact badFrom_end a0 fuel pos hp⟩
   clear hp
   go_wp2
   go_ret
   exact ⟨by rw [HE2.out]; rfl, HB.out⟩
end Go.Proofs.Ytihpndignekheaa.F
end

section
namespace Go.Proofs.Ytihpndignekheaa.F
open Go.RowKit Go.Proofs.YtihpndignekheaaW.PrintWords Go.Proofs.YtihpndignekheaaW.PrintLast Go.Proofs.YtihpndignekheaaW.PrintMore
attribute [local go_sem] max2_int min2_int max_two min_two max_three min_three max_four min_four
set_option linter.unusedVariables false
set_option linter.unusedSimpArgs false
def utf8_RuneLen.j0 : Nat → Int → Bool → Option (Int)
 | 0, _, _ => none
 | k + 1, x0, x12 => if x12 = true then (some (-1)) else (if x0 ≤ 65535 then (some 3) else (if x0 ≤ 1114111 then (some 4) else (some (-1))))
def utf8_RuneLen.f (k : Nat) (a0 : Int) : Option (Int) := if a0 < 0 then (some (-1)) else (if a0 ≤ 127 then (some 1) else (if a0 ≤ 2047 then (some 2) else (if 55296 ≤ a0 then (utf8_RuneLen.j0 k a0 (decide (a0 ≤ 57343))) else (utf8_RuneLen.j0 k a0 false))))
set_option maxHeartbeats 8000000 in
set_option maxRecDepth 100000 in
theorem utf8_RuneLen.calls (k : Nat) (a0 : Int) (r : Int) (w : World) (h : utf8_RuneLen.f k a0 = some r) :
  Calls Try.prog 106 #[.int .i32 a0] w fun e w' => e = .returned (.int .i64 r) ∧ Drawn0 w w' := by
 have H : (if a0 < 0 then (some (-1)) else (if a0 ≤ 127 then (some 1) else (if a0 ≤ 2047 then (some 2) else (if 55296 ≤ a0 then (utf8_RuneLen.j0 k a0 (decide (a0 ≤ 57343))) else (utf8_RuneLen.j0 k a0 false))))) = some r := h
 clear h
 by_cases c2 : a0 < 0
 ·rw [if_pos c2] at H
  have c2b0 : decide (a0 < 0) = true := decide_eq_true c2
  clear c2
  obtain rfl := Option.some.inj H
  go_enter Try.func106, Try.ntmps106
  go_wp2
  go_ret
  exact ⟨by first | rfl | (simp; done) | (simp [*]; done), by repeat (first | exact Drawn0.refl _ | apply Drawn0.step)⟩
 ·rw [if_neg c2] at H
  have c2b0 : decide (a0 < 0) = false := decide_eq_false c2
  clear c2
  by_cases c3 : a0 ≤ 127
  ·rw [if_pos c3] at H
   have c3b0 : decide (a0 ≤ 127) = true := decide_eq_true c3
   clear c3
   obtain rfl := Option.some.inj H
   go_enter Try.func106, Try.ntmps106
   go_wp2
   go_ret
   exact ⟨by first | rfl | (simp; done) | (simp [*]; done), by repeat (first | exact Drawn0.refl _ | apply Drawn0.step)⟩
  ·rw [if_neg c3] at H
   have c3b0 : decide (a0 ≤ 127) = false := decide_eq_false c3
   clear c3
   by_cases c4 : a0 ≤ 2047
   ·rw [if_pos c4] at H
    have c4b0 : decide (a0 ≤ 2047) = true := decide_eq_true c4
    clear c4
    obtain rfl := Option.some.inj H
    go_enter Try.func106, Try.ntmps106
    go_wp2
    go_ret
    exact ⟨by first | rfl | (simp; done) | (simp [*]; done), by repeat (first | exact Drawn0.refl _ | apply Drawn0.step)⟩
   ·rw [if_neg c4] at H
    have c4b0 : decide (a0 ≤ 2047) = false := decide_eq_false c4
    clear c4
    have HC5 := Aside0.mk H
    clear H
    go_enter Try.func106, Try.ntmps106
    go_upto_region 7 with (fail)
    go_cut [12] (fun v12 wc => ∃ (kq : Nat) (x12_4 : Bool), v12 = .bool x12_4 ∧ Aside0 (utf8_RuneLen.j0 kq a0 x12_4 = some r) ∧ Aside0 (kq ≤ k) ∧ Drawn0 w wc)
    case first =>
     have H := HC5.out
     clear HC5
     by_cases c6 : 55296 ≤ a0
     ·rw [if_pos c6] at H
      have c6b0 : decide (55296 ≤ a0) = true := decide_eq_true c6
      clear c6
      (first | rw [c6b0] | (simp only [i64_w, i32_w]; rw [c6b0]) | skip)
      have H' := Aside0.mk H
      clear H
      go_wp2
      go_meet
      case rel => exact ⟨_, (decide (a0 ≤ 57343)), (by first | rfl | (simp; done) | (simp [*]; done)), H', ⟨by first | omega | exact Nat.le_refl _⟩, by repeat (first | exact Drawn0.refl _ | apply Drawn0.step)⟩
     ·rw [if_neg c6] at H
      have c6b0 : decide (55296 ≤ a0) = false := decide_eq_false c6
      clear c6
      (first | rw [c6b0] | (simp only [i64_w, i32_w]; rw [c6b0]) | skip)
      have H' := Aside0.mk H
      clear H
      go_wp2
      go_meet
      case rel => exact ⟨_, (false), (by first | rfl | (simp; done) | (simp [*]; done)), H', ⟨by first | omega | exact Nat.le_refl _⟩, by repeat (first | exact Drawn0.refl _ | apply Drawn0.step)⟩
    case rest =>
     clear HC5
     try clear c1
     try clear c2
     try clear c2b0
     try clear p2
     try clear c3
     try clear c3b0
     try clear c4
     try clear c4b0
     try clear c6
     try clear c6b0
     obtain ⟨kq, x12_4, rfl, HA, HJ4, ⟨mc4, rfl⟩⟩ := hcut
     cases kq with
     | zero => exact absurd HA.out (by simp [utf8_RuneLen.j0])
     | succ kj4 =>
      have H := HA.out
      clear HA
      simp only [utf8_RuneLen.j0] at H
      by_cases c7 : x12_4 = true
      ·subst c7
       have H1 : (some (-1)) = some r := by rw [if_pos rfl] at H; exact H
       clear H
       have H := H1
       clear H1
       obtain rfl := Option.some.inj H
       go_wp2
       go_ret
       exact ⟨by first | rfl | (simp; done) | (simp [*]; done), by repeat (first | exact Drawn0.refl _ | apply Drawn0.step)⟩
      ·replace c7 := Bool.eq_false_iff.mpr c7
       subst c7
       have H1 : (if a0 ≤ 65535 then (some 3) else (if a0 ≤ 1114111 then (some 4) else (some (-1)))) = some r := by rw [if_neg (show ¬ (false = true) by decide)] at H; exact H
       clear H
       have H := H1
       clear H1
       by_cases c8 : a0 ≤ 65535
       ·rw [if_pos c8] at H
        have c8b0 : decide (a0 ≤ 65535) = true := decide_eq_true c8
        clear c8
        obtain rfl := Option.some.inj H
        go_wp2
        go_ret
        exact ⟨by first | rfl | (simp; done) | (simp [*]; done), by repeat (first | exact Drawn0.refl _ | apply Drawn0.step)⟩
       ·rw [if_neg c8] at H
        have c8b0 : decide (a0 ≤ 65535) = false := decide_eq_false c8
        clear c8
        by_cases c9 : a0 ≤ 1114111
        ·rw [if_pos c9] at H
         have c9b0 : decide (a0 ≤ 1114111) = true := decide_eq_true c9
         clear c9
         obtain rfl := Option.some.inj H
         go_wp2
         go_ret
         exact ⟨by first | rfl | (simp; done) | (simp [*]; done), by repeat (first | exact Drawn0.refl _ | apply Drawn0.step)⟩
        ·rw [if_neg c9] at H
         have c9b0 : decide (a0 ≤ 1114111) = false := decide_eq_false c9
         clear c9
         obtain rfl := Option.some.inj H
         go_wp2
         go_ret
         exact ⟨by first | rfl | (simp; done) | (simp [*]; done), by repeat (first | exact Drawn0.refl _ | apply Drawn0.step)⟩
def glyph_Width.f (k : Nat) (a0 : Int) : Option (Int) := if a0 < 0 then (some 0) else (if a0 > 1114111 then (some 0) else ((utf8_RuneLen.f k (wrap32 (a0))).bind fun t112 => (some (mx 0 t112))))
set_option maxHeartbeats 8000000 in
set_option maxRecDepth 100000 in
theorem glyph_Width.calls (k : Nat) (a0 : Int) (r : Int) (w : World) (h : glyph_Width.f k a0 = some r) :
  Calls Try.prog 101 #[.int .i64 a0] w fun e w' => e = .returned (.int .i64 r) ∧ Below w.heap.size w w' := by
 have HB := Aside0.mk (Below.refl w.heap.size w)
 have H : (if a0 < 0 then (some 0) else (if a0 > 1114111 then (some 0) else ((utf8_RuneLen.f k (wrap32 (a0))).bind fun t112 => (some (mx 0 t112))))) = some r := h
 clear h
 by_cases c2 : a0 < 0
 ·rw [if_pos c2] at H
  have c2b0 : decide (a0 < 0) = true := decide_eq_true c2
  clear c2
  obtain rfl := Option.some.inj H
  go_enter Try.func101, Try.ntmps101
  go_wp2
  go_ret
  exact ⟨by first | rfl | (simp [errW_none, errW_some] <;> rfl) | (simp [*, errW_none, errW_some] <;> rfl), by repeat (first | (with_reducible first | exact HB.out | apply below_alloc | apply pw_below_drewN | apply below_drew1) | exact HB.out)⟩
 ·rw [if_neg c2] at H
  have c2b0 : decide (a0 < 0) = false := decide_eq_false c2
  clear c2
  by_cases c3 : a0 > 1114111
  ·rw [if_pos c3] at H
   have c3b0 : decide (1114111 < a0) = true := decide_eq_true c3
   clear c3
   obtain rfl := Option.some.inj H
   go_enter Try.func101, Try.ntmps101
   go_wp2
   go_ret
   exact ⟨by first | rfl | (simp [errW_none, errW_some] <;> rfl) | (simp [*, errW_none, errW_some] <;> rfl), by repeat (first | (with_reducible first | exact HB.out | apply below_alloc | apply pw_below_drewN | apply below_drew1) | exact HB.out)⟩
  ·rw [if_neg c3] at H
   have c3b0 : decide (1114111 < a0) = false := decide_eq_false c3
   clear c3
   replace H := Option.bind_eq_some_iff.mp H
   obtain ⟨t112, A40, H⟩ := H
   replace H : (some (mx 0 t112)) = some r := H
   have A4 := Aside0.mk A40
   clear A40
   obtain ⟨ji5, hji5⟩ : ∃ j_ : Int, (mx 0 t112) = j_ := ⟨_, rfl⟩
   replace H : (some ji5) = some r := by first | (rw [hji5] at H; exact H) | (simp only [hji5] at H ⊢; exact H)
   (try rw [hji5] at A4)
   (try (have hji5l : 0 ≤ ji5 := by (rw [← hji5]; unfold mx; (repeat' split) <;> omega)))
   (try (have hji5m : 0 ≤ ji5 := by omega))
   have hji5_ : (if 0 < t112 then t112 else 0) = ji5 := hji5
   obtain rfl := Option.some.inj H
   go_enter Try.func101, Try.ntmps101
   go_wp2_with (first | ((with_reducible refine gate_callee (f := 106) rfl ?_); refine goesL_ (some 11) rfl rfl Try.func106 (by kernel_rfl) rfl #[.int .i32 (wrap32 (a0))] rfl (by (try simp only [List.map_toArray, List.map_cons, List.map_nil]); first | done | rfl | (simp only [List.length_drop, List.length_take]; rfl)) ?_; (with_reducible refine (utf8_RuneLen.calls k (wrap32 (a0)) t112 _ A4.out).mono ?_); rintro e w' ⟨rfl, ⟨nd, rfl⟩⟩; refine ⟨_, rfl, ?_⟩))
   go_ret
   exact ⟨by first | rfl | (simp [errW_none, errW_some] <;> rfl) | (simp only [← hji5]; first | rfl | (simp [errW_none, errW_some] <;> rfl)) | (simp [*, errW_none, errW_some] <;> rfl), by repeat (first | (with_reducible first | exact HB.out | apply below_alloc | apply pw_below_drewN | apply below_drew1) | exact HB.out)⟩
end Go.Proofs.Ytihpndignekheaa.F
end

section
namespace Go.Proofs.Ytihpndignekheaa.F
open Go.RowKit Go.Proofs.YtihpndignekheaaW.PrintWords Go.Proofs.YtihpndignekheaaW.PrintLast Go.Proofs.YtihpndignekheaaW.PrintMore
attribute [local go_sem] max2_int min2_int max_two min_two max_three min_three max_four min_four
set_option linter.unusedVariables false
set_option linter.unusedSimpArgs false
def widthOf (r : Int) : Int := if r < 0 then 0 else if r > 1114111 then 0 else if r ≤ 127 then 1 else if r ≤ 2047 then 2 else if 55296 ≤ r ∧ r ≤ 57343 then 0 else if r ≤ 65535 then 3 else 4
def amongB (r a b : Int) : Bool := decide (r ≥ a) && decide (r ≤ b)
def classOf (r : Int) : Int := if widthOf r = 0 then 0 else if r ≥ 128 || amongB r 97 122 || amongB r 65 90 || r == 95 then 1 else if amongB r 48 57 then 2 else if amongB r 9 10 || r == 13 || r == 32 then 3 else if amongB r 33 126 then 4 else 0
def glyph_Class.f (a0 : Int) : Option Int := some (classOf a0)
theorem runeLen_of (k : Nat) (r : Int) (h0 : 0 ≤ r) (h1 : r ≤ 1114111) : utf8_RuneLen.f (k + 1) r = some (if r ≤ 127 then 1 else if r ≤ 2047 then 2 else if 55296 ≤ r ∧ r ≤ 57343 then -1 else if r ≤ 65535 then 3 else 4) := by
 unfold utf8_RuneLen.f
 rw [if_neg (by omega)]
 by_cases h2 : r ≤ 127
 ·rw [if_pos h2, if_pos h2]
 rw [if_neg h2, if_neg h2]
 by_cases h3 : r ≤ 2047
 ·rw [if_pos h3, if_pos h3]
 rw [if_neg h3, if_neg h3]
 simp only [utf8_RuneLen.j0]
 by_cases h4 : 55296 ≤ r
 ·rw [if_pos h4]
  by_cases h5 : r ≤ 57343
  ·rw [if_pos (decide_eq_true h5), if_pos ⟨h4, h5⟩]
  ·have h7 : ¬ (55296 ≤ r ∧ r ≤ 57343) := by omega
   rw [if_neg (by simpa using h5), if_neg h7]
   by_cases h6 : r ≤ 65535
   ·rw [if_pos h6, if_pos h6]
   ·rw [if_neg h6, if_neg h6, if_pos h1]
 ·have h5 : ¬ (55296 ≤ r ∧ r ≤ 57343) := by omega
  rw [if_neg h4, if_neg h5]
  simp only [Bool.false_eq_true, if_false]
  by_cases h6 : r ≤ 65535
  ·rw [if_pos h6, if_pos h6]
  ·omega
theorem width_of (k : Nat) (r : Int) : glyph_Width.f (k + 1) r = some (widthOf r) := by
 unfold glyph_Width.f widthOf
 by_cases h0 : r < 0
 ·rw [if_pos h0, if_pos h0]
 rw [if_neg h0, if_neg h0]
 by_cases h1 : r > 1114111
 ·rw [if_pos h1, if_pos h1]
 rw [if_neg h1, if_neg h1]
 have hw : wrap32 r = r := by unfold wrap32; omega
 rw [hw, runeLen_of k r (by omega) (by omega)]
 simp only [Option.bind_some]
 repeat' split
 all_goals (first | rfl | (unfold mx; simp))
set_option maxHeartbeats 2000000 in
set_option maxRecDepth 100000 in
theorem among_lit (g : Nat) (r a b : Int) (w : World) (hg : w.heap[g]? = some (.cells #[.int .i64 r] 3 (0, 0))) :
  Calls Try.prog 100 #[.int .i64 a, .int .i64 b, .pointer (some ⟨g, 0, none⟩)] w fun e w' => e = .returned (.bool (amongB r a b)) ∧ w' = w := by
 have c0 : w.cell? ⟨g, 0, none⟩ = some (.int .i64 r) := (blk_cell hg 0).trans rfl
 clear hg
 by_cases h1 : r ≥ a
 ·have k1 : decide (r ≥ a) = true := decide_eq_true h1
  clear h1
  go_enter Try.func100, Try.ntmps100
  go_wp2
  go_ret
  all_goals (try simp [amongB, k1])
  all_goals (try simpa using k1)
 ·have k1 : decide (r ≥ a) = false := decide_eq_false h1
  clear h1
  go_enter Try.func100, Try.ntmps100
  go_wp2
  go_ret
  all_goals (try simp [amongB, k1])
set_option maxHeartbeats 4000000 in
set_option maxRecDepth 100000 in
theorem glyph_Class.calls (a0 : Int) (r : Int) (w : World) (h : glyph_Class.f a0 = some r) : Calls Try.prog 92 #[.int .i64 a0] w fun e w' => e = .returned (.int .i64 r) ∧ Below w.heap.size w w' := by
 obtain rfl := Option.some.inj h
 clear h
 have HG := Aside0.mk (heap_alloc_new w (.cells #[.int .i64 a0] 3 (0, 0)))
 go_enter Try.func92, Try.ntmps92
 go_wp2_with (first | (go_at_call 101; refine (glyph_Width.calls 1 a0 _ _ (width_of 0 a0)).mono ?_; rintro e w1 ⟨rfl, hb⟩; have HG1 := Aside0.mk ((hb.block _ (blk_lt HG.out)).trans HG.out); have HB1 := Aside0.mk (((Below.refl _ w).alloc (Nat.le_refl _) _).trans (hb.mono (by simp))); have c1 : w1.cell? ⟨w.heap.size, 0, none⟩ = some (.int .i64 a0) := (blk_cell HG1.out 0).trans rfl; clear hb) | (go_at_call 100; refine (among_lit w.heap.size a0 _ _ _ HG1.out).mono ?_; rintro e w' ⟨rfl, rfl⟩))
 all_goals (go_ret; refine ⟨?_, HB1.out⟩; (try congr 2); unfold classOf; simp only [beq_iff_eq, beq_eq_false_iff_ne, ne_eq] at *; simp_all; (try omega))
end Go.Proofs.Ytihpndignekheaa.F
end

section
namespace Go.Proofs.Ytihpndignekheaa.F
open Go.RowKit Go.Proofs.YtihpndignekheaaW.PrintWords Go.Proofs.YtihpndignekheaaW.PrintLast Go.Proofs.YtihpndignekheaaW.PrintMore
attribute [local go_sem] max2_int min2_int max_two min_two max_three min_three max_four min_four
set_option linter.unusedVariables false
set_option linter.unusedSimpArgs false
def notNameAt (s : ByteArray) (pos : Nat) : Bool := classOf (Utf8.decode s pos).1 != 1 && (classOf (Utf8.decode s pos).1 != 2 || (pos : Int) == 0)
def nameFrom (s : ByteArray) : Nat → Nat → Bool
 | 0, _ => true
 | f + 1, pos => if pos < s.size then (if notNameAt s pos then false else nameFrom s f (pos + (Utf8.decode s pos).2)) else true
def nameB (s : ByteArray) : Bool := if s.size = 0 then false else if s.size > 24 then false else if badOf s ≥ 0 then false else nameFrom s s.size 0
def lex_Name.f (a0 : ByteArray) : Option Bool := some (nameB a0)
theorem nameFrom_end (s : ByteArray) (f pos : Nat) (h : ¬ pos < s.size) : nameFrom s f pos = true := by
 cases f with
 | zero => rfl
 | succ f => simp [nameFrom, h]
theorem toList_nil (s : ByteArray) : (s.toList = []) ↔ s.size = 0 := by
 rw [Go.ByteArray.toList_eq, ← data_length]; exact List.length_eq_zero_iff.symm
set_option maxHeartbeats 4000000 in
set_option maxRecDepth 100000 in
theorem lex_Name.calls (a0 : ByteArray) (r : Bool) (w : World) (h : lex_Name.f a0 = some r) : Calls Try.prog 83 #[.string a0] w fun e w' => e = .returned (.bool r) ∧ Below w.heap.size w w' := by
 obtain rfl := Option.some.inj h
 clear h
 go_enter Try.func83, Try.ntmps83
 go_wp2_with (go_at_call 91; refine (glyph_Bad.calls a0 _ _ rfl).mono ?_; rintro e w1 ⟨rfl, hb⟩; have HB1 := Aside0.mk hb; clear hb)
 ·have hE : a0.size = 0 := (toList_nil a0).1 (by assumption)
  go_ret
  exact ⟨by rw [show nameB a0 = false from by simp [nameB, hE]]; rfl, Below.refl _ _⟩
 ·have hE : ¬ a0.size = 0 := fun h => absurd ((toList_nil a0).2 h) (by assumption)
  have hL : ¬ a0.size > 24 := by omega
  have hN : a0.toList.isEmpty = false := by rw [Bool.eq_false_iff]; simpa using (by assumption : ¬ a0.toList = [])
  have hB : badOf a0 ≥ 0 := by
   rcases (by assumption : (a0.toList.isEmpty = true ∨ 24 < (a0.size : Int)) ∨ 0 ≤ badOf a0) with (h | h) | h
   ·rw [hN] at h; cases h
   ·omega
   ·exact h
  go_ret
  exact ⟨by rw [show nameB a0 = false from by simp [nameB, hE, hL, hB]]; rfl, HB1.out⟩
 ·have hE : ¬ a0.size = 0 := fun h => absurd ((toList_nil a0).2 h) (by assumption)
  have hL : ¬ a0.size > 24 := by omega
  have hB : ¬ badOf a0 ≥ 0 := by have := (by assumption : (a0.toList.isEmpty = false ∧ (a0.size : Int) ≤ 24) ∧ badOf a0 < 0); omega
  have HN : Aside0 (nameB a0 = nameFrom a0 a0.size 0) := ⟨by simp only [nameB, hE, hL, hB, if_false]⟩
  have HQ := Aside0.mk hE
  clear hE hL hB
  rename_i g1 g2 g3 g4 g5
  clear g1 g3
  go_loopw [] (fun wr => ∃ (pos fuel : Nat), wr.heap[w1.heap.size]? = some (.stringIter a0 pos) ∧ Aside0 (Below w.heap.size w wr) ∧ Aside0 (nameFrom a0 fuel pos = nameB a0) ∧ Aside0 (a0.size ≤ pos + fuel) ∧ Aside0 (w1.heap.size < wr.heap.size)) (fun wr => a0.size - wr.iterPos w1.heap.size)
  case atStart => exact ⟨0, a0.size, World.iter_heap w1 a0 0, ⟨HB1.out.trans ((Below.refl _ w1).alloc HB1.out.size _)⟩, ⟨HN.out.symm⟩, ⟨by omega⟩, ⟨by simp [World.iter]⟩⟩
  case round =>
   obtain ⟨pos, fuel, hit, HB, HE, HF, HS⟩ := hrel
   have HIT := Aside0.mk hit
   clear hit
   by_cases hp : pos < a0.size
   ·have hnx : ∀ ty, (Instr.next (.pointer (some ⟨w1.heap.size, 0, none⟩)) true ty).run Try.prog wr = _ := fun ty => Go.Lib.run_next_any_at wr w1.heap.size a0 pos ty HIT.out hp
    have hwd := Aside0.mk (width_pos a0 pos hp)
    have HIT2 := Aside0.mk (Go.Lib.iterAt_heap wr w1.heap.size a0 pos (pos + (Utf8.decode a0 pos).2) HIT.out)
    have HB2 := Aside0.mk (Go.Lib.below_iterAt HB.out (k := w1.heap.size) HB1.out.size a0 (pos + (Utf8.decode a0 pos).2))
    have HS2 : Aside0 (w1.heap.size < (wr.iterAt w1.heap.size a0 (pos + (Utf8.decode a0 pos).2)).heap.size) := ⟨by rw [Go.Lib.iterAt_size]; exact HS.out⟩
    obtain ⟨f, hf⟩ : ∃ f, fuel = f + 1 := ⟨fuel - 1, by have := HF.out; omega⟩
    have HE2 : Aside0 ((if notNameAt a0 pos then false else nameFrom a0 f (pos + (Utf8.decode a0 pos).2)) = nameB a0) := ⟨by have := HE.out; rw [hf] at this; simpa [nameFrom, hp] using this⟩
    have HF2 : Aside0 (a0.size ≤ pos + (Utf8.decode a0 pos).2 + f) := ⟨by have := HF.out; have := hwd.out; omega⟩
    have HP := Aside0.mk hp
    have hcp := decode_le a0 pos
    have HV : Aside0 (notNameAt a0 pos = (classOf (Utf8.decode a0 pos).1 != 1 && (classOf (Utf8.decode a0 pos).1 != 2 || (pos : Int) == 0))) := ⟨rfl⟩
    clear hf HE HF hp
    generalize (Utf8.decode a0 pos).2 = wd at *
    generalize (Utf8.decode a0 pos).1 = cp at *
    have hcp2 : (cp : Int) ≤ 2147483647 := by omega
    have hcp0 : (0 : Int) ≤ (cp : Int) := by omega
    have HC : Aside0 (∃ c, classOf cp = c) := ⟨⟨_, rfl⟩⟩
    go_wp2_with (go_at_call 92; refine (glyph_Class.calls cp _ _ rfl).mono ?_; rintro e w2 ⟨rfl, hb⟩; have HB3 := Aside0.mk (HB2.out.trans (hb.mono HB2.out.size)); have HIT3 := Aside0.mk ((hb.block _ HS2.out).trans HIT2.out); have HS3 := Aside0.mk (Nat.lt_of_lt_of_le HS2.out hb.size); clear hb)
    ·have hv : notNameAt a0 pos = false := by rw [HV.out]; simp [*]
     go_roundw
     case rel => exact ⟨pos + wd, f, HIT3.out, HB3, ⟨by have := HE2.out; rw [hv] at this; simpa using this⟩, HF2, HS3⟩
     case measure =>
      have h1 := HIT.out
      have h2 := HIT3.out
      have h3 := HP.out
      have h4 := hwd.out
      simp only [World.iterPos, h1, h2]
      omega
    ·have hv : notNameAt a0 pos = true := by rw [HV.out]; simp [*]
     go_ret
     exact ⟨by have := HE2.out; rw [hv] at this; simp at this; rw [this]; rfl, HB3.out⟩
    ·have hv : notNameAt a0 pos = false := by rw [HV.out]; simp [*]
     go_roundw
     case rel => exact ⟨pos + wd, f, HIT3.out, HB3, ⟨by have := HE2.out; rw [hv] at this; simpa using this⟩, HF2, HS3⟩
     case measure =>
      have h1 := HIT.out
      have h2 := HIT3.out
      have h3 := HP.out
      have h4 := hwd.out
      simp only [World.iterPos, h1, h2]
      omega
    ·have hv : notNameAt a0 pos = true := by rw [HV.out]; simp [*]
     go_ret
     exact ⟨by have := HE2.out; rw [hv] at this; simp at this; rw [this]; rfl, HB3.out⟩
   ·have hnx : ∀ ty, (Instr.next (.pointer (some ⟨w1.heap.size, 0, none⟩)) true ty).run Try.prog wr = _ := fun ty => Go.Lib.run_next_end_at wr w1.heap.size a0 pos ty HIT.out hp
    have HE2 : Aside0 (nameB a0 = true) := ⟨by rw [← HE.out]; exact nameFrom_end a0 fuel pos hp⟩
    clear hp
    go_wp2
    go_ret
    exact ⟨by rw [HE2.out]; rfl, HB.out⟩
 ·have hE : ¬ a0.size = 0 := fun h => absurd ((toList_nil a0).2 h) (by assumption)
  have hL : a0.size > 24 := by omega
  go_ret
  exact ⟨by rw [show nameB a0 = false from by simp [nameB, hE, hL]]; rfl, Below.refl _ _⟩
end Go.Proofs.Ytihpndignekheaa.F
end
