-- Texts of this seat's, joined.
import Derived.Test.YtihpndignekheaaZStateSees1
import Derived.Test.YtihpndignekheaaZStateSees2
import Derived.Shelf.Abstract
import Derived.WalkSmall
import Derived.Recover
import Derived.Test.YtihpndignekheaaProg
import Derived.Below
import Derived.Deep.Draws
import Derived.Deep.AppendLies
import Derived.Maps.AppendAt
import Derived.OwnWalk
import Derived.Laws.BytesArg
import Derived.Laws.MakeOwn
import Derived.Laws.OwnMore
import Derived.Deep.OwnRows
import Derived.Tactics
import Derived.Lib.ConvBytes
import Derived.Laws.Slices
import Derived.WalkKit
import Derived.KernelRfl
import Derived.RowKit3
import Derived.Deep.LoopGhost
import Derived.Deep.QuietTactic
import Derived.BigQuiet
import Derived.WideLaws
import Derived.Deep.DeepCutAuto
import Derived.Deep.CutBlock
import Derived.Deep.RegionHeld3
import Derived.Laws.Rows
import Derived.Lib.AppendStr
import Derived.ArgAppend
import Derived.Laws.IdiomCopy
import Derived.OrdersHeld
import Derived.Laws.BitsLemmas
import Derived.RowKit
import Derived.Laws.StructEq
import Derived.RangeFuncNested
import Derived.RangeFuncLeaves
import Derived.RegionIn
import Derived.LoopIn
import Derived.TacticsInMore
import Derived.OwnWalkIn
import Derived.Shelf.AbstractIn
import Derived.StillTailTactics
import Derived.Laws.BitsAllLaws
import Derived.Laws.BitsAll
import Derived.Defers
import Derived.Deep.RegionHeld2
section
namespace Go.Proofs.Ytihpndignekheaa.F
open Go.RowKit Go.Proofs.YtihpndignekheaaW.PrintWords Go.Proofs.YtihpndignekheaaW.PrintLast Go.Proofs.YtihpndignekheaaW.PrintMore
attribute [local go_sem] max2_int min2_int max_two min_two max_three min_three max_four min_four
set_option linter.unusedVariables false
set_option linter.unusedSimpArgs false
def lex_Word.f (a0 : ByteArray) : Option (Bool) := if a0.toList = ([115, 97, 103, 97] : List UInt8) then (some true) else (if a0.toList = ([115, 116, 101, 112] : List UInt8) then (some true) else (if a0.toList = ([115, 117, 98] : List UInt8) then (some true) else (if a0.toList = ([117, 110, 100, 111] : List UInt8) then (some true) else (if a0.toList = ([97, 102, 116, 101, 114] : List UInt8) then (some true) else (if a0.toList = ([118, 105, 116, 97, 108] : List UInt8) then (some true) else (if a0.toList = ([108, 111, 111, 115, 101] : List UInt8) then (some true) else (if a0.toList = ([111, 114] : List UInt8) then (some true) else (some false))))))))
set_option maxHeartbeats 8000000 in
set_option maxRecDepth 100000 in
theorem lex_Word.calls (a0 : ByteArray) (r : Bool) (w : World) (h : lex_Word.f a0 = some r) :
  Calls Try.prog 84 #[.string a0] w fun e w' => e = .returned (.bool r) ∧ Drawn0 w w' := by
 have H : (if a0.toList = ([115, 97, 103, 97] : List UInt8) then (some true) else (if a0.toList = ([115, 116, 101, 112] : List UInt8) then (some true) else (if a0.toList = ([115, 117, 98] : List UInt8) then (some true) else (if a0.toList = ([117, 110, 100, 111] : List UInt8) then (some true) else (if a0.toList = ([97, 102, 116, 101, 114] : List UInt8) then (some true) else (if a0.toList = ([118, 105, 116, 97, 108] : List UInt8) then (some true) else (if a0.toList = ([108, 111, 111, 115, 101] : List UInt8) then (some true) else (if a0.toList = ([111, 114] : List UInt8) then (some true) else (some false))))))))) = some r := h
 clear h
 by_cases c2 : a0.toList = ([115, 97, 103, 97] : List UInt8)
 ·rw [if_pos c2] at H
  have c2b0 : (a0.toList == ([115, 97, 103, 97] : List UInt8)) = true := beq_iff_eq.mpr c2
  have c2b1 : (a0.toList != ([115, 97, 103, 97] : List UInt8)) = false := bne_eq_false_iff_eq.mpr c2
  clear c2
  obtain rfl := Option.some.inj H
  go_enter Try.func84, Try.ntmps84
  go_wp2
  go_ret
  exact ⟨by first | rfl | (simp; done) | (simp [*]; done), by repeat (first | exact Drawn0.refl _ | apply Drawn0.step)⟩
 ·rw [if_neg c2] at H
  have c2b0 : (a0.toList == ([115, 97, 103, 97] : List UInt8)) = false := beq_eq_false_iff_ne.mpr c2
  have c2b1 : (a0.toList != ([115, 97, 103, 97] : List UInt8)) = true := bne_iff_ne.mpr c2
  by_cases c3 : a0.toList = ([115, 116, 101, 112] : List UInt8)
  ·rw [if_pos c3] at H
   have c3b0 : (a0.toList == ([115, 116, 101, 112] : List UInt8)) = true := beq_iff_eq.mpr c3
   have c3b1 : (a0.toList != ([115, 116, 101, 112] : List UInt8)) = false := bne_eq_false_iff_eq.mpr c3
   clear c3
   obtain rfl := Option.some.inj H
   go_enter Try.func84, Try.ntmps84
   go_wp2
   go_ret
   exact ⟨by first | rfl | (simp; done) | (simp [*]; done), by repeat (first | exact Drawn0.refl _ | apply Drawn0.step)⟩
  ·rw [if_neg c3] at H
   have c3b0 : (a0.toList == ([115, 116, 101, 112] : List UInt8)) = false := beq_eq_false_iff_ne.mpr c3
   have c3b1 : (a0.toList != ([115, 116, 101, 112] : List UInt8)) = true := bne_iff_ne.mpr c3
   by_cases c4 : a0.toList = ([115, 117, 98] : List UInt8)
   ·rw [if_pos c4] at H
    have c4b0 : (a0.toList == ([115, 117, 98] : List UInt8)) = true := beq_iff_eq.mpr c4
    have c4b1 : (a0.toList != ([115, 117, 98] : List UInt8)) = false := bne_eq_false_iff_eq.mpr c4
    clear c4
    obtain rfl := Option.some.inj H
    go_enter Try.func84, Try.ntmps84
    go_wp2
    go_ret
    exact ⟨by first | rfl | (simp; done) | (simp [*]; done), by repeat (first | exact Drawn0.refl _ | apply Drawn0.step)⟩
   ·rw [if_neg c4] at H
    have c4b0 : (a0.toList == ([115, 117, 98] : List UInt8)) = false := beq_eq_false_iff_ne.mpr c4
    have c4b1 : (a0.toList != ([115, 117, 98] : List UInt8)) = true := bne_iff_ne.mpr c4
    by_cases c5 : a0.toList = ([117, 110, 100, 111] : List UInt8)
    ·rw [if_pos c5] at H
     have c5b0 : (a0.toList == ([117, 110, 100, 111] : List UInt8)) = true := beq_iff_eq.mpr c5
     have c5b1 : (a0.toList != ([117, 110, 100, 111] : List UInt8)) = false := bne_eq_false_iff_eq.mpr c5
     clear c5
     obtain rfl := Option.some.inj H
     go_enter Try.func84, Try.ntmps84
     go_wp2
     go_ret
     exact ⟨by first | rfl | (simp; done) | (simp [*]; done), by repeat (first | exact Drawn0.refl _ | apply Drawn0.step)⟩
    ·rw [if_neg c5] at H
     have c5b0 : (a0.toList == ([117, 110, 100, 111] : List UInt8)) = false := beq_eq_false_iff_ne.mpr c5
     have c5b1 : (a0.toList != ([117, 110, 100, 111] : List UInt8)) = true := bne_iff_ne.mpr c5
     by_cases c6 : a0.toList = ([97, 102, 116, 101, 114] : List UInt8)
     ·rw [if_pos c6] at H
      have c6b0 : (a0.toList == ([97, 102, 116, 101, 114] : List UInt8)) = true := beq_iff_eq.mpr c6
      have c6b1 : (a0.toList != ([97, 102, 116, 101, 114] : List UInt8)) = false := bne_eq_false_iff_eq.mpr c6
      clear c6
      obtain rfl := Option.some.inj H
      go_enter Try.func84, Try.ntmps84
      go_wp2
      go_ret
      exact ⟨by first | rfl | (simp; done) | (simp [*]; done), by repeat (first | exact Drawn0.refl _ | apply Drawn0.step)⟩
     ·rw [if_neg c6] at H
      have c6b0 : (a0.toList == ([97, 102, 116, 101, 114] : List UInt8)) = false := beq_eq_false_iff_ne.mpr c6
      have c6b1 : (a0.toList != ([97, 102, 116, 101, 114] : List UInt8)) = true := bne_iff_ne.mpr c6
      by_cases c7 : a0.toList = ([118, 105, 116, 97, 108] : List UInt8)
      ·rw [if_pos c7] at H
       have c7b0 : (a0.toList == ([118, 105, 116, 97, 108] : List UInt8)) = true := beq_iff_eq.mpr c7
       have c7b1 : (a0.toList != ([118, 105, 116, 97, 108] : List UInt8)) = false := bne_eq_false_iff_eq.mpr c7
       clear c7
       obtain rfl := Option.some.inj H
       go_enter Try.func84, Try.ntmps84
       go_wp2
       go_ret
       exact ⟨by first | rfl | (simp; done) | (simp [*]; done), by repeat (first | exact Drawn0.refl _ | apply Drawn0.step)⟩
      ·rw [if_neg c7] at H
       have c7b0 : (a0.toList == ([118, 105, 116, 97, 108] : List UInt8)) = false := beq_eq_false_iff_ne.mpr c7
       have c7b1 : (a0.toList != ([118, 105, 116, 97, 108] : List UInt8)) = true := bne_iff_ne.mpr c7
       by_cases c8 : a0.toList = ([108, 111, 111, 115, 101] : List UInt8)
       ·rw [if_pos c8] at H
        have c8b0 : (a0.toList == ([108, 111, 111, 115, 101] : List UInt8)) = true := beq_iff_eq.mpr c8
        have c8b1 : (a0.toList != ([108, 111, 111, 115, 101] : List UInt8)) = false := bne_eq_false_iff_eq.mpr c8
        clear c8
        obtain rfl := Option.some.inj H
        go_enter Try.func84, Try.ntmps84
        go_wp2
        go_ret
        exact ⟨by first | rfl | (simp; done) | (simp [*]; done), by repeat (first | exact Drawn0.refl _ | apply Drawn0.step)⟩
       ·rw [if_neg c8] at H
        have c8b0 : (a0.toList == ([108, 111, 111, 115, 101] : List UInt8)) = false := beq_eq_false_iff_ne.mpr c8
        have c8b1 : (a0.toList != ([108, 111, 111, 115, 101] : List UInt8)) = true := bne_iff_ne.mpr c8
        by_cases c9 : a0.toList = ([111, 114] : List UInt8)
        ·rw [if_pos c9] at H
         have c9b0 : (a0.toList == ([111, 114] : List UInt8)) = true := beq_iff_eq.mpr c9
         have c9b1 : (a0.toList != ([111, 114] : List UInt8)) = false := bne_eq_false_iff_eq.mpr c9
         clear c9
         obtain rfl := Option.some.inj H
         go_enter Try.func84, Try.ntmps84
         go_wp2
         go_ret
         exact ⟨by first | rfl | (simp; done) | (simp [*]; done), by repeat (first | exact Drawn0.refl _ | apply Drawn0.step)⟩
        ·rw [if_neg c9] at H
         have c9b0 : (a0.toList == ([111, 114] : List UInt8)) = false := beq_eq_false_iff_ne.mpr c9
         have c9b1 : (a0.toList != ([111, 114] : List UInt8)) = true := bne_iff_ne.mpr c9
         obtain rfl := Option.some.inj H
         go_enter Try.func84, Try.ntmps84
         go_wp2
         go_ret
         exact ⟨by first | rfl | (simp; done) | (simp [*]; done), by repeat (first | exact Drawn0.refl _ | apply Drawn0.step)⟩
def syntax_names.f (a0 : ByteArray) : Option (Bool) := (lex_Name.f a0).bind fun t113 => (if t113 = true then ((lex_Word.f a0).bind fun t114 => (some (!t114))) else (some false))
set_option maxHeartbeats 8000000 in
set_option maxRecDepth 100000 in
theorem syntax_names.calls (a0 : ByteArray) (r : Bool) (w : World) (h : syntax_names.f a0 = some r) :
  Calls Try.prog 77 #[.string a0] w fun e w' => e = .returned (.bool r) ∧ Below w.heap.size w w' := by
 have HB := Aside0.mk (Below.refl w.heap.size w)
 have H : ((lex_Name.f a0).bind fun t113 => (if t113 = true then ((lex_Word.f a0).bind fun t114 => (some (!t114))) else (some false))) = some r := h
 clear h
 replace H := Option.bind_eq_some_iff.mp H
 obtain ⟨t113, A20, H⟩ := H
 replace H : (if t113 = true then ((lex_Word.f a0).bind fun t114 => (some (!t114))) else (some false)) = some r := H
 have A2 := Aside0.mk A20
 clear A20
 by_cases c3 : t113 = true
 ·subst c3
  have H1 : ((lex_Word.f a0).bind fun t114 => (some (!t114))) = some r := by rw [if_pos rfl] at H; exact H
  clear H
  have H := H1
  clear H1
  replace H := Option.bind_eq_some_iff.mp H
  obtain ⟨t114, A40, H⟩ := H
  replace H : (some (!t114)) = some r := H
  have A4 := Aside0.mk A40
  clear A40
  obtain rfl := Option.some.inj H
  go_enter Try.func77, Try.ntmps77
  go_wp2_with (first | ((with_reducible refine gate_callee (f := 83) rfl ?_); refine goesL_ (some 4) rfl rfl Try.func83 (by kernel_rfl) rfl #[.string a0] rfl (by (try simp only [List.map_toArray, List.map_cons, List.map_nil]); first | done | rfl | (simp only [List.length_drop, List.length_take]; rfl)) ?_; (with_reducible refine (lex_Name.calls a0 true _ A2.out).mono ?_); rintro e w5 ⟨rfl, hb⟩; refine ⟨_, rfl, ?_⟩; have n0_ := Aside0.mk (below_step (by repeat (first | (with_reducible first | exact HB.out | apply below_alloc | apply pw_below_drewN | apply below_drew1) | exact HB.out)) hb); clear HB; have HB := n0_; clear n0_; (try clear hb); (try clear hb2); (try clear hk); (try clear hi)) | (go_at_call 84; (with_reducible refine (lex_Word.calls a0 t114 _ A4.out).mono ?_); rintro e w' ⟨rfl, ⟨nd, rfl⟩⟩))
  go_ret
  exact ⟨by first | rfl | (simp [errW_none, errW_some] <;> rfl) | (simp [*, errW_none, errW_some] <;> rfl), by repeat (first | (with_reducible first | exact HB.out | apply below_alloc | apply pw_below_drewN | apply below_drew1) | exact HB.out)⟩
 ·replace c3 := Bool.eq_false_iff.mpr c3
  subst c3
  have H1 : (some false) = some r := by rw [if_neg (show ¬ (false = true) by decide)] at H; exact H
  clear H
  have H := H1
  clear H1
  obtain rfl := Option.some.inj H
  go_enter Try.func77, Try.ntmps77
  go_wp2_with (first | ((with_reducible refine gate_callee (f := 83) rfl ?_); refine goesL_ (some 4) rfl rfl Try.func83 (by kernel_rfl) rfl #[.string a0] rfl (by (try simp only [List.map_toArray, List.map_cons, List.map_nil]); first | done | rfl | (simp only [List.length_drop, List.length_take]; rfl)) ?_; (with_reducible refine (lex_Name.calls a0 false _ A2.out).mono ?_); rintro e w6 ⟨rfl, hb⟩; refine ⟨_, rfl, ?_⟩; have n0_ := Aside0.mk (below_step (by repeat (first | (with_reducible first | exact HB.out | apply below_alloc | apply pw_below_drewN | apply below_drew1) | exact HB.out)) hb); clear HB; have HB := n0_; clear n0_; (try clear hb); (try clear hb2); (try clear hk); (try clear hi)))
  go_ret
  exact ⟨by first | rfl | (simp [errW_none, errW_some] <;> rfl) | (simp [*, errW_none, errW_some] <;> rfl), by repeat (first | (with_reducible first | exact HB.out | apply below_alloc | apply pw_below_drewN | apply below_drew1) | exact HB.out)⟩
mutual
def syntax_Depth.l0 : Nat → Int → List (S82) → Int → Int → Option (Int)
 | 0, _, _, _, _ => none
 | k + 1, x3, x9, x10, x11 => if x11 < x10 then (if 0 ≤ x11 then (if x11 < (x9.length : Int) then (syntax_Depth.l1 k x3 x9 x10 x11 ((rd_T82 x9 x11).f0) (((rd_T82 x9 x11).f0).length : Int) 0) else (none)) else (none)) else (some (wrap64 (x3 + 1)))
def syntax_Depth.l1 : Nat → Int → List (S82) → Int → Int → List (S79) → Int → Int → Option (Int)
 | 0, _, _, _, _, _, _, _ => none
 | k + 1, x3, x9, x10, x11, x16, x17, x18 => if x18 < x17 then (if 0 ≤ x18 then (if x18 < (x16.length : Int) then (if (rd_T79 x16 x18).f3 = true then ((syntax_Depth.f k (⟨#[]⟩ : ByteArray) ((rd_T79 x16 x18).f5)).bind fun t120 => (syntax_Depth.l1 k (mx x3 t120) x9 x10 x11 x16 x17 (wrap64 (x18 + 1)))) else (syntax_Depth.l1 k x3 x9 x10 x11 x16 x17 (wrap64 (x18 + 1)))) else (none)) else (none)) else (syntax_Depth.l0 k x3 x9 x10 (wrap64 (x11 + 1)))
def syntax_Depth.f : Nat → ByteArray → List (S82) → Option (Int)
 | 0, _, _ => none
 | k + 1, a0_0, l0_1 => syntax_Depth.l0 k 0 l0_1 (l0_1.length : Int) 0
end
set_option maxHeartbeats 8000000 in
set_option maxRecDepth 100000 in
theorem syntax_Depth.calls (k : Nat) : ∀ (a0_0 : ByteArray) (A0_1 : Option Addr) (c0_1 : Nat) (l0_1 : List (S82)) (r : Int) (w : World) (hr0_1 : Kd.C k82 w A0_1 l0_1.length l0_1) (hc0_1 : l0_1.length ≤ c0_1) (h : syntax_Depth.f k a0_0 l0_1 = some r),
  Calls Try.prog 78 #[.agg #[.string a0_0, .slice A0_1 l0_1.length c0_1]] w fun e w' => e = .returned (.int .i64 r) ∧ Below w.heap.size w w' := by
 induction k using Nat.strongRecOn with
 | _ k ih =>
 intro a0_0 A0_1 c0_1 l0_1 r w hr0_1 hc0_1 h
 cases k with
 | zero => exact absurd h (by simp [syntax_Depth.f])
 | succ k =>
 simp only [syntax_Depth.f] at h
 have hu86 := Try.underlying86
 have hu82 := Try.underlying82
 have hu79 := Try.underlying79
 have HR0_1 := Aside0.mk hr0_1
 have HC0_1 := Aside0.mk hc0_1
 clear hr0_1 hc0_1
 have HB := Aside0.mk (Below.refl w.heap.size w)
 have H : (syntax_Depth.l0 k 0 l0_1 (l0_1.length : Int) 0) = some r := h
 clear h
 have H' := Aside0.mk H
 clear H
 go_enter Try.func78, Try.ntmps78
 go_wp2_with (first | ((with_reducible refine gate_dst (N := 1) rfl ?_); refine box_event ?hg (N := 1) ?hd (cs := #[.string a0_0, .slice A0_1 l0_1.length c0_1]) (t := 86) ?hr ?_; (case hd => rfl); (case hg => rfl); (case hr => first | (go_simp; done) | (go_simp; rfl)); intro gb115 hg w2 hbox hb; have n0_ := Aside0.mk (below_step (by repeat (first | (with_reducible first | exact HB.out | apply below_alloc | apply pw_below_drewN | apply below_drew1) | exact HB.out)) hb); have n1_ := Aside0.mk (hbox); have n2_ := Aside0.mk ((by rw [hg]; exact (below_size (by repeat (first | (with_reducible first | exact HB.out | apply below_alloc | apply pw_below_drewN | apply below_drew1) | exact HB.out))) : w.heap.size ≤ gb115)); have n3_ := Aside0.mk ((by rw [hg]; exact (below_size (by repeat (first | (with_reducible first | exact HB.out | apply below_alloc | apply pw_below_drewN | apply below_drew1) | exact HB.out))) : w.heap.size ≤ gb115)); clear HB; have HB := n0_; have BK115 := n1_; have GW115 := n2_; have GE115 := n3_; clear n0_ n1_ n2_ n3_; clear hb hbox hg; have hcz3_0 : w2.cell? ⟨gb115, 0, none⟩ = some (.string a0_0) := (blk_cell BK115.out 0).trans rfl; have hcz3_1 : w2.cell? ⟨gb115, 1, none⟩ = some (.slice A0_1 l0_1.length c0_1) := (blk_cell BK115.out 1).trans rfl; have hfz3_0 := blk_frozen BK115.out 0; have hfz3_1 := blk_frozen BK115.out 1))
 go_loopg [3, 11] k (fun kq v3 v11 w' => ∃ (x3_1 : Int) (x11_1 : Int), v3 = .int .i64 x3_1 ∧ v11 = .int .i64 x11_1 ∧ Aside0 (syntax_Depth.l0 kq x3_1 l0_1 (l0_1.length : Int) x11_1 = some r) ∧ Aside0 (kq ≤ k) ∧ Aside0 (w'.heap[gb115]? = some (.cells #[.string a0_0, (.slice A0_1 l0_1.length c0_1)] 86 (0, 0))) ∧ Aside0 (Below w.heap.size w w'))
 case atStart => exact ⟨(0), (0), (by first | rfl | (simp; done) | (simp [*]; done)), (by first | rfl | (simp; done) | (simp [*]; done)), H', ⟨Nat.le_refl _⟩, ⟨by (with_reducible repeat (first | refine blk_drewN ?_ _ | refine blk_drew ?_ | refine blk_alloc ?_ _)); exact BK115.out⟩, ⟨by repeat (first | (with_reducible first | exact HB.out | apply below_alloc | apply pw_below_drewN | apply below_drew1 | refine below_set ?_ GE115.out) | exact HB.out)⟩⟩
 case round =>
  clear H'
  try clear p2
  try clear hcz3_0
  try clear hcz3_1
  try clear hfz3_0
  try clear hfz3_1
  obtain ⟨x3_1, x11_1, rfl, rfl, HA, HK1, BK115, HB⟩ := hrel
  cases gk with
  | zero => exact absurd HA.out (by simp [syntax_Depth.l0])
  | succ k1 =>
   have H := HA.out
   clear HA
   simp only [syntax_Depth.l0] at H
   by_cases c4 : x11_1 < (l0_1.length : Int)
   ·rw [if_pos c4] at H
    have c4b0 : decide (x11_1 < (l0_1.length : Int)) = true := decide_eq_true c4
    clear c4
    by_cases c5 : 0 ≤ x11_1
    ·rw [if_pos c5] at H
     have c5b0 : decide (0 ≤ x11_1) = true := decide_eq_true c5
     clear c5
     by_cases c6 : x11_1 < (l0_1.length : Int)
     ·rw [if_pos c6] at H
      have c6b0 : decide (x11_1 < (l0_1.length : Int)) = true := decide_eq_true c6
      clear c6
      have H' := Aside0.mk H
      clear H
      have p116 : 0 ≤ (x11_1 : Int) := of_decide_eq_true (by first | (with_reducible assumption) | assumption)
      have q116 : x11_1 < (l0_1.length : Int) := of_decide_eq_true (by first | (with_reducible assumption) | assumption)
      obtain ⟨ad116, A116_0, c116_0, e116, hx116_0, hl116_0, hi116_0⟩ := at_T82 HR0_1.out x11_1 p116 q116
      cases e116
      replace hx116_0 := (HB.out.cell (World.block_lt_of_cell? w _ hx116_0)).trans hx116_0
      have HR116_0 := Aside0.mk hi116_0
      have HC116_0 := Aside0.mk hl116_0
      clear hi116_0 hl116_0
      replace p116 := eq_true p116
      replace q116 := eq_true q116
      go_wp2_with (first | ((with_reducible refine gate_dst (N := 5) rfl ?_); refine box_event ?hg (N := 5) ?hd (cs := #[.slice none 0 0]) (t := 82) ?hr ?_; (case hd => rfl); (case hg => rfl); (case hr => first | (go_simp; done) | (go_simp; rfl)); intro gb117 hg w7 hbox hb; have n0_ := Aside0.mk (blk_below (g := gb115) (o := .cells #[.string a0_0, .slice (some ad116) l0_1.length c0_1] 86 (0, 0)) (by (with_reducible repeat (first | refine blk_drewN ?_ _ | refine blk_drew ?_ | refine blk_alloc ?_ _)); exact BK115.out) hb); have n1_ := Aside0.mk (below_step (by repeat (first | (with_reducible first | exact HB.out | apply below_alloc | apply pw_below_drewN | apply below_drew1 | refine below_set ?_ GE115.out) | exact HB.out)) hb); have n2_ := Aside0.mk (hbox); have n3_ := Aside0.mk ((by rw [hg]; exact (below_size (by repeat (first | (with_reducible first | exact HB.out | apply below_alloc | apply pw_below_drewN | apply below_drew1 | refine below_set ?_ GE115.out) | exact HB.out))) : w.heap.size ≤ gb117)); have n4_ := Aside0.mk ((by rw [hg]; exact (below_size (by repeat (first | (with_reducible first | exact HB.out | apply below_alloc | apply pw_below_drewN | apply below_drew1 | refine below_set ?_ GE115.out) | exact HB.out))) : w.heap.size ≤ gb117)); have n5_ := Aside0.mk ((by rw [hg]; exact Nat.ne_of_lt (blk_lt (g := gb115) (o := .cells #[.string a0_0, .slice (some ad116) l0_1.length c0_1] 86 (0, 0)) (by (with_reducible repeat (first | refine blk_drewN ?_ _ | refine blk_drew ?_ | refine blk_alloc ?_ _)); exact BK115.out)) : gb115 ≠ gb117)); have n6_ := Aside0.mk ((by rw [hg]; exact Nat.ne_of_gt (blk_lt (g := gb115) (o := .cells #[.string a0_0, .slice (some ad116) l0_1.length c0_1] 86 (0, 0)) (by (with_reducible repeat (first | refine blk_drewN ?_ _ | refine blk_drew ?_ | refine blk_alloc ?_ _)); exact BK115.out)) : gb117 ≠ gb115)); clear BK115; clear HB; have BK115 := n0_; have HB := n1_; have BK117 := n2_; have GW117 := n3_; have GE117 := n4_; have NB115_117 := n5_; have NB117_115 := n6_; clear n0_ n1_ n2_ n3_ n4_ n5_ n6_; clear hb hbox hg; have hnb8 := NB117_115.out; have hnc8 := NB115_117.out; have hcz9_0 : w7.cell? ⟨gb117, 0, none⟩ = some (.slice none 0 0) := (blk_cell BK117.out 0).trans rfl; have hfz9_0 := blk_frozen BK117.out 0))
      go_loopg [3, 18] k1 (fun kq v3 v18 w' => ∃ (x3_2 : Int) (x18_2 : Int), v3 = .int .i64 x3_2 ∧ v18 = .int .i64 x18_2 ∧ Aside0 (syntax_Depth.l1 kq x3_2 l0_1 (l0_1.length : Int) x11_1 ((rd_T82 l0_1 x11_1).f0) (((rd_T82 l0_1 x11_1).f0).length : Int) x18_2 = some r) ∧ Aside0 (kq ≤ k1) ∧ Aside0 (w'.heap[gb115]? = some (.cells #[.string a0_0, (.slice (some ad116) l0_1.length c0_1)] 86 (0, 0))) ∧ Aside0 (w'.heap[gb117]? = some (.cells #[(.slice A116_0 ((rd_T82 l0_1 x11_1).f0).length c116_0)] 82 (0, 0))) ∧ Aside0 (Below w.heap.size w w'))
      case atStart => exact ⟨(x3_1), (0), (by first | rfl | (simp; done) | (simp [*]; done)), (by first | rfl | (simp; done) | (simp [*]; done)), H', ⟨Nat.le_refl _⟩, ⟨by (with_reducible repeat (first | refine blk_drewN ?_ _ | refine blk_drew ?_ | refine blk_alloc ?_ _)); refine blk_far ?_ NB115_117.out _; (with_reducible repeat (first | refine blk_drewN ?_ _ | refine blk_drew ?_ | refine blk_alloc ?_ _)); exact BK115.out⟩, ⟨by (with_reducible repeat (first | refine blk_drewN ?_ _ | refine blk_drew ?_ | refine blk_alloc ?_ _)); refine blk_put (cs := #[.slice none 0 0]) ?_ 0 _ rfl; (with_reducible repeat (first | refine blk_drewN ?_ _ | refine blk_drew ?_ | refine blk_alloc ?_ _)); exact BK117.out⟩, ⟨by repeat (first | (with_reducible first | exact HB.out | apply below_alloc | apply pw_below_drewN | apply below_drew1 | refine below_set ?_ GE115.out | refine below_set ?_ GE117.out) | exact HB.out)⟩⟩
      case round =>
       clear H'
       try clear c1
       try clear p1
       try clear q1
       try clear hx1
       try clear p2
       try clear c4
       try clear c4b0
       try clear c5
       try clear c5b0
       try clear c6
       try clear c6b0
       try clear c7
       try clear c8
       try clear hcz3_0
       try clear hcz3_1
       try clear hcz9_0
       try clear hfz3_0
       try clear hfz3_1
       try clear hfz9_0
       try clear hx116_0
       try clear p116
       try clear p2
       try clear q116
       obtain ⟨x3_2, x18_2, rfl, rfl, HA, HK2, BK115, BK117, HB⟩ := hrel
       cases gk with
       | zero => exact absurd HA.out (by simp [syntax_Depth.l1])
       | succ k2 =>
        have H := HA.out
        clear HA
        simp only [syntax_Depth.l1] at H
        by_cases c10 : x18_2 < (((rd_T82 l0_1 x11_1).f0).length : Int)
        ·rw [if_pos c10] at H
         have c10b0 : decide (x18_2 < (((rd_T82 l0_1 x11_1).f0).length : Int)) = true := decide_eq_true c10
         clear c10
         by_cases c11 : 0 ≤ x18_2
         ·rw [if_pos c11] at H
          have c11b0 : decide (0 ≤ x18_2) = true := decide_eq_true c11
          clear c11
          by_cases c12 : x18_2 < (((rd_T82 l0_1 x11_1).f0).length : Int)
          ·rw [if_pos c12] at H
           have c12b0 : decide (x18_2 < (((rd_T82 l0_1 x11_1).f0).length : Int)) = true := decide_eq_true c12
           clear c12
           obtain ⟨bq13, hbq13⟩ : ∃ b_ : Bool, b_ = ((rd_T79 ((rd_T82 l0_1 x11_1).f0) x18_2).f3) := ⟨_, rfl⟩
           replace H : (if bq13 = true then ((syntax_Depth.f k2 (⟨#[]⟩ : ByteArray) ((rd_T79 ((rd_T82 l0_1 x11_1).f0) x18_2).f5)).bind fun t120 => (syntax_Depth.l1 k2 (mx x3_2 t120) l0_1 (l0_1.length : Int) x11_1 ((rd_T82 l0_1 x11_1).f0) (((rd_T82 l0_1 x11_1).f0).length : Int) (wrap64 (x18_2 + 1)))) else (syntax_Depth.l1 k2 x3_2 l0_1 (l0_1.length : Int) x11_1 ((rd_T82 l0_1 x11_1).f0) (((rd_T82 l0_1 x11_1).f0).length : Int) (wrap64 (x18_2 + 1)))) = some r := by rw [← hbq13] at H; exact H
           have Nbq13 := Aside0.mk hbq13
           clear hbq13
           by_cases c14 : bq13 = true
           ·subst c14
            have H1 : ((syntax_Depth.f k2 (⟨#[]⟩ : ByteArray) ((rd_T79 ((rd_T82 l0_1 x11_1).f0) x18_2).f5)).bind fun t120 => (syntax_Depth.l1 k2 (mx x3_2 t120) l0_1 (l0_1.length : Int) x11_1 ((rd_T82 l0_1 x11_1).f0) (((rd_T82 l0_1 x11_1).f0).length : Int) (wrap64 (x18_2 + 1)))) = some r := by rw [if_pos rfl] at H; exact H
            clear H
            have H := H1
            clear H1
            replace H := Option.bind_eq_some_iff.mp H
            obtain ⟨t120, A150, H⟩ := H
            replace H : (syntax_Depth.l1 k2 (mx x3_2 t120) l0_1 (l0_1.length : Int) x11_1 ((rd_T82 l0_1 x11_1).f0) (((rd_T82 l0_1 x11_1).f0).length : Int) (wrap64 (x18_2 + 1))) = some r := H
            have A15 := Aside0.mk A150
            clear A150
            obtain ⟨ji16, hji16⟩ : ∃ j_ : Int, (mx x3_2 t120) = j_ := ⟨_, rfl⟩
            replace H : (syntax_Depth.l1 k2 ji16 l0_1 (l0_1.length : Int) x11_1 ((rd_T82 l0_1 x11_1).f0) (((rd_T82 l0_1 x11_1).f0).length : Int) (wrap64 (x18_2 + 1))) = some r := by first | (rw [hji16] at H; exact H) | (simp only [hji16] at H ⊢; exact H)
            (try rw [hji16] at A15)
            have hji16_ : (if x3_2 < t120 then t120 else x3_2) = ji16 := hji16
            have H' := Aside0.mk H
            clear H
            have p118 : 0 ≤ (x18_2 : Int) := of_decide_eq_true (by first | (with_reducible assumption) | assumption)
            have q118 : x18_2 < (((rd_T82 l0_1 x11_1).f0).length : Int) := of_decide_eq_true (by first | (with_reducible assumption) | assumption)
            obtain ⟨ad118, A118_2, c118_2, A118_5, c118_5, e118, hx118_0, hx118_1, hx118_2, hx118_3, hx118_4, hx118_5, hl118_2, hi118_2, hl118_5, hi118_5⟩ := at_T79 HR116_0.out x18_2 p118 q118
            (try rw [← Nbq13.out] at hx118_3)
            (try rw [← Nbq13.out] at hx118_4)
            cases e118
            replace hx118_0 := (HB.out.cell (World.block_lt_of_cell? w _ hx118_0)).trans hx118_0
            replace hx118_1 := (HB.out.cell (World.block_lt_of_cell? w _ hx118_1)).trans hx118_1
            replace hx118_2 := (HB.out.cell (World.block_lt_of_cell? w _ hx118_2)).trans hx118_2
            replace hx118_3 := (HB.out.cell (World.block_lt_of_cell? w _ hx118_3)).trans hx118_3
            replace hx118_4 := (HB.out.cell (World.block_lt_of_cell? w _ hx118_4)).trans hx118_4
            replace hx118_5 := (HB.out.cell (World.block_lt_of_cell? w _ hx118_5)).trans hx118_5
            have HR118_2 := Aside0.mk hi118_2
            have HC118_2 := Aside0.mk hl118_2
            clear hi118_2 hl118_2
            have HR118_5 := Aside0.mk hi118_5
            have HC118_5 := Aside0.mk hl118_5
            clear hi118_5 hl118_5
            replace p118 := eq_true p118
            replace q118 := eq_true q118
            go_wp2_with (first | ((with_reducible refine gate_dst (N := 7) rfl ?_); refine box_event ?hg (N := 7) ?hd (cs := #[.string (⟨#[]⟩ : ByteArray), .string (⟨#[]⟩ : ByteArray), .slice none 0 0, .bool false, .bool false, .slice none 0 0]) (t := 79) ?hr ?_; (case hd => rfl); (case hg => rfl); (case hr => first | (go_simp; done) | (go_simp; rfl)); intro gb119 hg w17 hbox hb; have n0_ := Aside0.mk (blk_below (g := gb115) (o := .cells #[.string a0_0, .slice (some ad116) l0_1.length c0_1] 86 (0, 0)) (by (with_reducible repeat (first | refine blk_drewN ?_ _ | refine blk_drew ?_ | refine blk_alloc ?_ _)); exact BK115.out) hb); have n1_ := Aside0.mk (blk_below (g := gb117) (o := .cells #[.slice (some ad118) ((rd_T82 l0_1 x11_1).f0).length c116_0] 82 (0, 0)) (by (with_reducible repeat (first | refine blk_drewN ?_ _ | refine blk_drew ?_ | refine blk_alloc ?_ _)); exact BK117.out) hb); have n2_ := Aside0.mk (below_step (by repeat (first | (with_reducible first | exact HB.out | apply below_alloc | apply pw_below_drewN | apply below_drew1 | refine below_set ?_ GE115.out | refine below_set ?_ GE117.out) | exact HB.out)) hb); have n3_ := Aside0.mk (hbox); have n4_ := Aside0.mk ((by rw [hg]; exact (below_size (by repeat (first | (with_reducible first | exact HB.out | apply below_alloc | apply pw_below_drewN | apply below_drew1 | refine below_set ?_ GE115.out | refine below_set ?_ GE117.out) | exact HB.out))) : w.heap.size ≤ gb119)); have n5_ := Aside0.mk ((by rw [hg]; exact (below_size (by repeat (first | (with_reducible first | exact HB.out | apply below_alloc | apply pw_below_drewN | apply below_drew1 | refine below_set ?_ GE115.out | refine below_set ?_ GE117.out) | exact HB.out))) : w.heap.size ≤ gb119)); have n6_ := Aside0.mk ((by rw [hg]; exact Nat.ne_of_lt (blk_lt (g := gb115) (o := .cells #[.string a0_0, .slice (some ad116) l0_1.length c0_1] 86 (0, 0)) (by (with_reducible repeat (first | refine blk_drewN ?_ _ | refine blk_drew ?_ | refine blk_alloc ?_ _)); exact BK115.out)) : gb115 ≠ gb119)); have n7_ := Aside0.mk ((by rw [hg]; exact Nat.ne_of_gt (blk_lt (g := gb115) (o := .cells #[.string a0_0, .slice (some ad116) l0_1.length c0_1] 86 (0, 0)) (by (with_reducible repeat (first | refine blk_drewN ?_ _ | refine blk_drew ?_ | refine blk_alloc ?_ _)); exact BK115.out)) : gb119 ≠ gb115)); have n8_ := Aside0.mk ((by rw [hg]; exact Nat.ne_of_lt (blk_lt (g := gb117) (o := .cells #[.slice (some ad118) ((rd_T82 l0_1 x11_1).f0).length c116_0] 82 (0, 0)) (by (with_reducible repeat (first | refine blk_drewN ?_ _ | refine blk_drew ?_ | refine blk_alloc ?_ _)); exact BK117.out)) : gb117 ≠ gb119)); have n9_ := Aside0.mk ((by rw [hg]; exact Nat.ne_of_gt (blk_lt (g := gb117) (o := .cells #[.slice (some ad118) ((rd_T82 l0_1 x11_1).f0).length c116_0] 82 (0, 0)) (by (with_reducible repeat (first | refine blk_drewN ?_ _ | refine blk_drew ?_ | refine blk_alloc ?_ _)); exact BK117.out)) : gb119 ≠ gb117)); clear BK115; clear BK117; clear HB; have BK115 := n0_; have BK117 := n1_; have HB := n2_; have BK119 := n3_; have GW119 := n4_; have GE119 := n5_; have NB115_119 := n6_; have NB119_115 := n7_; have NB117_119 := n8_; have NB119_117 := n9_; clear n0_ n1_ n2_ n3_ n4_ n5_ n6_ n7_ n8_ n9_; clear hb hbox hg; have hnb18 := NB119_115.out; have hnc18 := NB115_119.out; have hnb19 := NB119_117.out; have hnc19 := NB117_119.out; have hcz20_0 : w17.cell? ⟨gb119, 0, none⟩ = some (.string (⟨#[]⟩ : ByteArray)) := (blk_cell BK119.out 0).trans rfl; have hcz20_1 : w17.cell? ⟨gb119, 1, none⟩ = some (.string (⟨#[]⟩ : ByteArray)) := (blk_cell BK119.out 1).trans rfl; have hcz20_2 : w17.cell? ⟨gb119, 2, none⟩ = some (.slice none 0 0) := (blk_cell BK119.out 2).trans rfl; have hcz20_3 : w17.cell? ⟨gb119, 3, none⟩ = some (.bool false) := (blk_cell BK119.out 3).trans rfl; have hcz20_4 : w17.cell? ⟨gb119, 4, none⟩ = some (.bool false) := (blk_cell BK119.out 4).trans rfl; have hcz20_5 : w17.cell? ⟨gb119, 5, none⟩ = some (.slice none 0 0) := (blk_cell BK119.out 5).trans rfl; have hfz20_0 := blk_frozen BK119.out 0; have hfz20_1 := blk_frozen BK119.out 1; have hfz20_2 := blk_frozen BK119.out 2; have hfz20_3 := blk_frozen BK119.out 3; have hfz20_4 := blk_frozen BK119.out 4; have hfz20_5 := blk_frozen BK119.out 5) | ((with_reducible refine gate_callee (f := 78) rfl ?_); refine goesL_ (some 28) rfl rfl Try.func78 (by kernel_rfl) rfl #[.agg #[.string (⟨#[]⟩ : ByteArray), .slice A118_5 ((rd_T79 ((rd_T82 l0_1 x11_1).f0) x18_2).f5).length c118_5]] rfl (by (try simp only [List.map_toArray, List.map_cons, List.map_nil]); first | done | rfl | (simp only [List.length_drop, List.length_take]; rfl)) ?_; (with_reducible refine (ih k2 (by have := HK1.out; have := HK2.out; omega) (⟨#[]⟩ : ByteArray) _ _ ((rd_T79 ((rd_T82 l0_1 x11_1).f0) x18_2).f5) t120 _ ?side1 ?side2 A15.out).mono ?_); (case side1 => exact Kd.C_below HR118_5.out (by repeat (first | (with_reducible first | exact HB.out | apply below_alloc | apply pw_below_drewN | apply below_drew1 | refine below_set ?_ GE115.out | refine below_set ?_ GE117.out | refine below_set ?_ GE119.out) | exact HB.out))); (case side2 => exact HC118_5.out); rintro e w21 ⟨rfl, hb⟩; refine ⟨_, rfl, ?_⟩; have n0_ := Aside0.mk (blk_below (g := gb115) (o := .cells #[.string a0_0, .slice (some ad116) l0_1.length c0_1] 86 (0, 0)) (by (with_reducible repeat (first | refine blk_drewN ?_ _ | refine blk_drew ?_ | refine blk_alloc ?_ _)); refine blk_far ?_ NB115_119.out _; (with_reducible repeat (first | refine blk_drewN ?_ _ | refine blk_drew ?_ | refine blk_alloc ?_ _)); refine blk_far ?_ NB115_119.out _; (with_reducible repeat (first | refine blk_drewN ?_ _ | refine blk_drew ?_ | refine blk_alloc ?_ _)); refine blk_far ?_ NB115_119.out _; (with_reducible repeat (first | refine blk_drewN ?_ _ | refine blk_drew ?_ | refine blk_alloc ?_ _)); refine blk_far ?_ NB115_119.out _; (with_reducible repeat (first | refine blk_drewN ?_ _ | refine blk_drew ?_ | refine blk_alloc ?_ _)); refine blk_far ?_ NB115_119.out _; (with_reducible repeat (first | refine blk_drewN ?_ _ | refine blk_drew ?_ | refine blk_alloc ?_ _)); refine blk_far ?_ NB115_119.out _; (with_reducible repeat (first | refine blk_drewN ?_ _ | refine blk_drew ?_ | refine blk_alloc ?_ _)); exact BK115.out) hb); have n1_ := Aside0.mk (blk_below (g := gb117) (o := .cells #[.slice (some ad118) ((rd_T82 l0_1 x11_1).f0).length c116_0] 82 (0, 0)) (by (with_reducible repeat (first | refine blk_drewN ?_ _ | refine blk_drew ?_ | refine blk_alloc ?_ _)); refine blk_far ?_ NB117_119.out _; (with_reducible repeat (first | refine blk_drewN ?_ _ | refine blk_drew ?_ | refine blk_alloc ?_ _)); refine blk_far ?_ NB117_119.out _; (with_reducible repeat (first | refine blk_drewN ?_ _ | refine blk_drew ?_ | refine blk_alloc ?_ _)); refine blk_far ?_ NB117_119.out _; (with_reducible repeat (first | refine blk_drewN ?_ _ | refine blk_drew ?_ | refine blk_alloc ?_ _)); refine blk_far ?_ NB117_119.out _; (with_reducible repeat (first | refine blk_drewN ?_ _ | refine blk_drew ?_ | refine blk_alloc ?_ _)); refine blk_far ?_ NB117_119.out _; (with_reducible repeat (first | refine blk_drewN ?_ _ | refine blk_drew ?_ | refine blk_alloc ?_ _)); refine blk_far ?_ NB117_119.out _; (with_reducible repeat (first | refine blk_drewN ?_ _ | refine blk_drew ?_ | refine blk_alloc ?_ _)); exact BK117.out) hb); have n2_ := Aside0.mk (blk_below (g := gb119) (o := .cells #[.string ((rd_T79 ((rd_T82 l0_1 x11_1).f0) x18_2).f0), .string ((rd_T79 ((rd_T82 l0_1 x11_1).f0) x18_2).f1), .slice A118_2 ((rd_T79 ((rd_T82 l0_1 x11_1).f0) x18_2).f2).length c118_2, .bool true, .bool ((rd_T79 ((rd_T82 l0_1 x11_1).f0) x18_2).f4), .slice A118_5 ((rd_T79 ((rd_T82 l0_1 x11_1).f0) x18_2).f5).length c118_5] 79 (0, 0)) (by (with_reducible repeat (first | refine blk_drewN ?_ _ | refine blk_drew ?_ | refine blk_alloc ?_ _)); refine blk_put (cs := #[.string ((rd_T79 ((rd_T82 l0_1 x11_1).f0) x18_2).f0), .string ((rd_T79 ((rd_T82 l0_1 x11_1).f0) x18_2).f1), .slice A118_2 ((rd_T79 ((rd_T82 l0_1 x11_1).f0) x18_2).f2).length c118_2, .bool true, .bool ((rd_T79 ((rd_T82 l0_1 x11_1).f0) x18_2).f4), .slice none 0 0]) ?_ 5 _ rfl; (with_reducible repeat (first | refine blk_drewN ?_ _ | refine blk_drew ?_ | refine blk_alloc ?_ _)); refine blk_put (cs := #[.string ((rd_T79 ((rd_T82 l0_1 x11_1).f0) x18_2).f0), .string ((rd_T79 ((rd_T82 l0_1 x11_1).f0) x18_2).f1), .slice A118_2 ((rd_T79 ((rd_T82 l0_1 x11_1).f0) x18_2).f2).length c118_2, .bool true, .bool false, .slice none 0 0]) ?_ 4 _ rfl; (with_reducible repeat (first | refine blk_drewN ?_ _ | refine blk_drew ?_ | refine blk_alloc ?_ _)); refine blk_put (cs := #[.string ((rd_T79 ((rd_T82 l0_1 x11_1).f0) x18_2).f0), .string ((rd_T79 ((rd_T82 l0_1 x11_1).f0) x18_2).f1), .slice A118_2 ((rd_T79 ((rd_T82 l0_1 x11_1).f0) x18_2).f2).length c118_2, .bool false, .bool false, .slice none 0 0]) ?_ 3 _ rfl; (with_reducible repeat (first | refine blk_drewN ?_ _ | refine blk_drew ?_ | refine blk_alloc ?_ _)); refine blk_put (cs := #[.string ((rd_T79 ((rd_T82 l0_1 x11_1).f0) x18_2).f0), .string ((rd_T79 ((rd_T82 l0_1 x11_1).f0) x18_2).f1), .slice none 0 0, .bool false, .bool false, .slice none 0 0]) ?_ 2 _ rfl; (with_reducible repeat (first | refine blk_drewN ?_ _ | refine blk_drew ?_ | refine blk_alloc ?_ _)); refine blk_put (cs := #[.string ((rd_T79 ((rd_T82 l0_1 x11_1).f0) x18_2).f0), .string (⟨#[]⟩ : ByteArray), .slice none 0 0, .bool false, .bool false, .slice none 0 0]) ?_ 1 _ rfl; (with_reducible repeat (first | refine blk_drewN ?_ _ | refine blk_drew ?_ | refine blk_alloc ?_ _)); refine blk_put (cs := #[.string (⟨#[]⟩ : ByteArray), .string (⟨#[]⟩ : ByteArray), .slice none 0 0, .bool false, .bool false, .slice none 0 0]) ?_ 0 _ rfl; (with_reducible repeat (first | refine blk_drewN ?_ _ | refine blk_drew ?_ | refine blk_alloc ?_ _)); exact BK119.out) hb); have n3_ := Aside0.mk (below_step (by repeat (first | (with_reducible first | exact HB.out | apply below_alloc | apply pw_below_drewN | apply below_drew1 | refine below_set ?_ GE115.out | refine below_set ?_ GE117.out | refine below_set ?_ GE119.out) | exact HB.out)) hb); clear BK115; clear BK117; clear BK119; clear HB; have BK115 := n0_; have BK117 := n1_; have BK119 := n2_; have HB := n3_; clear n0_ n1_ n2_ n3_; (try clear hb); (try clear hb2); (try clear hk); (try clear hi)))
            go_roundg k2
            case measure => have := HK1.out; have := HK2.out; omega
            case rel => exact ⟨(ji16), (wrap64 (x18_2 + 1)), (by first | rfl | (simp; done) | (simp only [← hji16] <;> (first | rfl | simp)) | (simp [*]; done)), (by first | rfl | (simp; done) | (simp [*]; done)), H', ⟨by have := HK1.out; have := HK2.out; omega⟩, ⟨by (with_reducible repeat (first | refine blk_drewN ?_ _ | refine blk_drew ?_ | refine blk_alloc ?_ _)); exact BK115.out⟩, ⟨by (with_reducible repeat (first | refine blk_drewN ?_ _ | refine blk_drew ?_ | refine blk_alloc ?_ _)); exact BK117.out⟩, ⟨by repeat (first | (with_reducible first | exact HB.out | apply below_alloc | apply pw_below_drewN | apply below_drew1 | refine below_set ?_ GE115.out | refine below_set ?_ GE117.out | refine below_set ?_ GE119.out) | exact HB.out)⟩⟩
           ·replace c14 := Bool.eq_false_iff.mpr c14
            subst c14
            have H1 : (syntax_Depth.l1 k2 x3_2 l0_1 (l0_1.length : Int) x11_1 ((rd_T82 l0_1 x11_1).f0) (((rd_T82 l0_1 x11_1).f0).length : Int) (wrap64 (x18_2 + 1))) = some r := by rw [if_neg (show ¬ (false = true) by decide)] at H; exact H
            clear H
            have H := H1
            clear H1
            have H' := Aside0.mk H
            clear H
            have p118 : 0 ≤ (x18_2 : Int) := of_decide_eq_true (by first | (with_reducible assumption) | assumption)
            have q118 : x18_2 < (((rd_T82 l0_1 x11_1).f0).length : Int) := of_decide_eq_true (by first | (with_reducible assumption) | assumption)
            obtain ⟨ad118, A118_2, c118_2, A118_5, c118_5, e118, hx118_0, hx118_1, hx118_2, hx118_3, hx118_4, hx118_5, hl118_2, hi118_2, hl118_5, hi118_5⟩ := at_T79 HR116_0.out x18_2 p118 q118
            (try rw [← Nbq13.out] at hx118_3)
            (try rw [← Nbq13.out] at hx118_4)
            cases e118
            replace hx118_0 := (HB.out.cell (World.block_lt_of_cell? w _ hx118_0)).trans hx118_0
            replace hx118_1 := (HB.out.cell (World.block_lt_of_cell? w _ hx118_1)).trans hx118_1
            replace hx118_2 := (HB.out.cell (World.block_lt_of_cell? w _ hx118_2)).trans hx118_2
            replace hx118_3 := (HB.out.cell (World.block_lt_of_cell? w _ hx118_3)).trans hx118_3
            replace hx118_4 := (HB.out.cell (World.block_lt_of_cell? w _ hx118_4)).trans hx118_4
            replace hx118_5 := (HB.out.cell (World.block_lt_of_cell? w _ hx118_5)).trans hx118_5
            have HR118_2 := Aside0.mk hi118_2
            have HC118_2 := Aside0.mk hl118_2
            clear hi118_2 hl118_2
            have HR118_5 := Aside0.mk hi118_5
            have HC118_5 := Aside0.mk hl118_5
            clear hi118_5 hl118_5
            replace p118 := eq_true p118
            replace q118 := eq_true q118
            go_wp2_with (first | ((with_reducible refine gate_dst (N := 7) rfl ?_); refine box_event ?hg (N := 7) ?hd (cs := #[.string (⟨#[]⟩ : ByteArray), .string (⟨#[]⟩ : ByteArray), .slice none 0 0, .bool false, .bool false, .slice none 0 0]) (t := 79) ?hr ?_; (case hd => rfl); (case hg => rfl); (case hr => first | (go_simp; done) | (go_simp; rfl)); intro gb119 hg w22 hbox hb; have n0_ := Aside0.mk (blk_below (g := gb115) (o := .cells #[.string a0_0, .slice (some ad116) l0_1.length c0_1] 86 (0, 0)) (by (with_reducible repeat (first | refine blk_drewN ?_ _ | refine blk_drew ?_ | refine blk_alloc ?_ _)); exact BK115.out) hb); have n1_ := Aside0.mk (blk_below (g := gb117) (o := .cells #[.slice (some ad118) ((rd_T82 l0_1 x11_1).f0).length c116_0] 82 (0, 0)) (by (with_reducible repeat (first | refine blk_drewN ?_ _ | refine blk_drew ?_ | refine blk_alloc ?_ _)); exact BK117.out) hb); have n2_ := Aside0.mk (below_step (by repeat (first | (with_reducible first | exact HB.out | apply below_alloc | apply pw_below_drewN | apply below_drew1 | refine below_set ?_ GE115.out | refine below_set ?_ GE117.out) | exact HB.out)) hb); have n3_ := Aside0.mk (hbox); have n4_ := Aside0.mk ((by rw [hg]; exact (below_size (by repeat (first | (with_reducible first | exact HB.out | apply below_alloc | apply pw_below_drewN | apply below_drew1 | refine below_set ?_ GE115.out | refine below_set ?_ GE117.out) | exact HB.out))) : w.heap.size ≤ gb119)); have n5_ := Aside0.mk ((by rw [hg]; exact (below_size (by repeat (first | (with_reducible first | exact HB.out | apply below_alloc | apply pw_below_drewN | apply below_drew1 | refine below_set ?_ GE115.out | refine below_set ?_ GE117.out) | exact HB.out))) : w.heap.size ≤ gb119)); have n6_ := Aside0.mk ((by rw [hg]; exact Nat.ne_of_lt (blk_lt (g := gb115) (o := .cells #[.string a0_0, .slice (some ad116) l0_1.length c0_1] 86 (0, 0)) (by (with_reducible repeat (first | refine blk_drewN ?_ _ | refine blk_drew ?_ | refine blk_alloc ?_ _)); exact BK115.out)) : gb115 ≠ gb119)); have n7_ := Aside0.mk ((by rw [hg]; exact Nat.ne_of_gt (blk_lt (g := gb115) (o := .cells #[.string a0_0, .slice (some ad116) l0_1.length c0_1] 86 (0, 0)) (by (with_reducible repeat (first | refine blk_drewN ?_ _ | refine blk_drew ?_ | refine blk_alloc ?_ _)); exact BK115.out)) : gb119 ≠ gb115)); have n8_ := Aside0.mk ((by rw [hg]; exact Nat.ne_of_lt (blk_lt (g := gb117) (o := .cells #[.slice (some ad118) ((rd_T82 l0_1 x11_1).f0).length c116_0] 82 (0, 0)) (by (with_reducible repeat (first | refine blk_drewN ?_ _ | refine blk_drew ?_ | refine blk_alloc ?_ _)); exact BK117.out)) : gb117 ≠ gb119)); have n9_ := Aside0.mk ((by rw [hg]; exact Nat.ne_of_gt (blk_lt (g := gb117) (o := .cells #[.slice (some ad118) ((rd_T82 l0_1 x11_1).f0).length c116_0] 82 (0, 0)) (by (with_reducible repeat (first | refine blk_drewN ?_ _ | refine blk_drew ?_ | refine blk_alloc ?_ _)); exact BK117.out)) : gb119 ≠ gb117)); clear BK115; clear BK117; clear HB; have BK115 := n0_; have BK117 := n1_; have HB := n2_; have BK119 := n3_; have GW119 := n4_; have GE119 := n5_; have NB115_119 := n6_; have NB119_115 := n7_; have NB117_119 := n8_; have NB119_117 := n9_; clear n0_ n1_ n2_ n3_ n4_ n5_ n6_ n7_ n8_ n9_; clear hb hbox hg; have hnb23 := NB119_115.out; have hnc23 := NB115_119.out; have hnb24 := NB119_117.out; have hnc24 := NB117_119.out; have hcz25_0 : w22.cell? ⟨gb119, 0, none⟩ = some (.string (⟨#[]⟩ : ByteArray)) := (blk_cell BK119.out 0).trans rfl; have hcz25_1 : w22.cell? ⟨gb119, 1, none⟩ = some (.string (⟨#[]⟩ : ByteArray)) := (blk_cell BK119.out 1).trans rfl; have hcz25_2 : w22.cell? ⟨gb119, 2, none⟩ = some (.slice none 0 0) := (blk_cell BK119.out 2).trans rfl; have hcz25_3 : w22.cell? ⟨gb119, 3, none⟩ = some (.bool false) := (blk_cell BK119.out 3).trans rfl; have hcz25_4 : w22.cell? ⟨gb119, 4, none⟩ = some (.bool false) := (blk_cell BK119.out 4).trans rfl; have hcz25_5 : w22.cell? ⟨gb119, 5, none⟩ = some (.slice none 0 0) := (blk_cell BK119.out 5).trans rfl; have hfz25_0 := blk_frozen BK119.out 0; have hfz25_1 := blk_frozen BK119.out 1; have hfz25_2 := blk_frozen BK119.out 2; have hfz25_3 := blk_frozen BK119.out 3; have hfz25_4 := blk_frozen BK119.out 4; have hfz25_5 := blk_frozen BK119.out 5))
            go_roundg k2
            case measure => have := HK1.out; have := HK2.out; omega
            case rel => exact ⟨(x3_2), (wrap64 (x18_2 + 1)), (by first | rfl | (simp; done) | (simp [*]; done)), (by first | rfl | (simp; done) | (simp [*]; done)), H', ⟨by have := HK1.out; have := HK2.out; omega⟩, ⟨by (with_reducible repeat (first | refine blk_drewN ?_ _ | refine blk_drew ?_ | refine blk_alloc ?_ _)); refine blk_far ?_ NB115_119.out _; (with_reducible repeat (first | refine blk_drewN ?_ _ | refine blk_drew ?_ | refine blk_alloc ?_ _)); refine blk_far ?_ NB115_119.out _; (with_reducible repeat (first | refine blk_drewN ?_ _ | refine blk_drew ?_ | refine blk_alloc ?_ _)); refine blk_far ?_ NB115_119.out _; (with_reducible repeat (first | refine blk_drewN ?_ _ | refine blk_drew ?_ | refine blk_alloc ?_ _)); refine blk_far ?_ NB115_119.out _; (with_reducible repeat (first | refine blk_drewN ?_ _ | refine blk_drew ?_ | refine blk_alloc ?_ _)); refine blk_far ?_ NB115_119.out _; (with_reducible repeat (first | refine blk_drewN ?_ _ | refine blk_drew ?_ | refine blk_alloc ?_ _)); refine blk_far ?_ NB115_119.out _; (with_reducible repeat (first | refine blk_drewN ?_ _ | refine blk_drew ?_ | refine blk_alloc ?_ _)); exact BK115.out⟩, ⟨by (with_reducible repeat (first | refine blk_drewN ?_ _ | refine blk_drew ?_ | refine blk_alloc ?_ _)); refine blk_far ?_ NB117_119.out _; (with_reducible repeat (first | refine blk_drewN ?_ _ | refine blk_drew ?_ | refine blk_alloc ?_ _)); refine blk_far ?_ NB117_119.out _; (with_reducible repeat (first | refine blk_drewN ?_ _ | refine blk_drew ?_ | refine blk_alloc ?_ _)); refine blk_far ?_ NB117_119.out _; (with_reducible repeat (first | refine blk_drewN ?_ _ | refine blk_drew ?_ | refine blk_alloc ?_ _)); refine blk_far ?_ NB117_119.out _; (with_reducible repeat (first | refine blk_drewN ?_ _ | refine blk_drew ?_ | refine blk_alloc ?_ _)); refine blk_far ?_ NB117_119.out _; (with_reducible repeat (first | refine blk_drewN ?_ _ | refine blk_drew ?_ | refine blk_alloc ?_ _)); refine blk_far ?_ NB117_119.out _; (with_reducible repeat (first | refine blk_drewN ?_ _ | refine blk_drew ?_ | refine blk_alloc ?_ _)); exact BK117.out⟩, ⟨by repeat (first | (with_reducible first | exact HB.out | apply below_alloc | apply pw_below_drewN | apply below_drew1 | refine below_set ?_ GE115.out | refine below_set ?_ GE117.out | refine below_set ?_ GE119.out) | exact HB.out)⟩⟩
          ·rw [if_neg c12] at H
           exact absurd H (by simp)
         ·rw [if_neg c11] at H
          exact absurd H (by simp)
        ·rw [if_neg c10] at H
         have c10b0 : decide (x18_2 < (((rd_T82 l0_1 x11_1).f0).length : Int)) = false := decide_eq_false c10
         clear c10
         have H' := Aside0.mk H
         clear H
         go_wp2
         go_roundg k2
         case measure => have := HK1.out; have := HK2.out; omega
         case rel => exact ⟨(x3_2), (wrap64 (x11_1 + 1)), (by first | rfl | (simp; done) | (simp [*]; done)), (by first | rfl | (simp; done) | (simp [*]; done)), H', ⟨by have := HK1.out; have := HK2.out; omega⟩, ⟨by (with_reducible repeat (first | refine blk_drewN ?_ _ | refine blk_drew ?_ | refine blk_alloc ?_ _)); exact BK115.out⟩, ⟨by repeat (first | (with_reducible first | exact HB.out | apply below_alloc | apply pw_below_drewN | apply below_drew1 | refine below_set ?_ GE115.out | refine below_set ?_ GE117.out) | exact HB.out)⟩⟩
     ·rw [if_neg c6] at H
      exact absurd H (by simp)
    ·rw [if_neg c5] at H
     exact absurd H (by simp)
   ·rw [if_neg c4] at H
    have c4b0 : decide (x11_1 < (l0_1.length : Int)) = false := decide_eq_false c4
    clear c4
    obtain rfl := Option.some.inj H
    go_wp2
    go_ret
    exact ⟨by first | rfl | (simp [errW_none, errW_some] <;> rfl) | (simp [*, errW_none, errW_some] <;> rfl), by repeat (first | (with_reducible first | exact HB.out | apply below_alloc | apply pw_below_drewN | apply below_drew1 | refine below_set ?_ GE115.out) | exact HB.out)⟩
end Go.Proofs.Ytihpndignekheaa.F
end

section
namespace Go.Proofs.Ytihpndignekheaa.F
open Go.RowKit Go.Proofs.YtihpndignekheaaW.PrintWords Go.Proofs.YtihpndignekheaaW.PrintLast Go.Proofs.YtihpndignekheaaW.PrintMore
attribute [local go_sem] max2_int min2_int max_two min_two max_three min_three max_four min_four
set_option linter.unusedVariables false
set_option linter.unusedSimpArgs false
set_option maxHeartbeats 4000000 in
set_option maxRecDepth 100000 in
theorem index_func_string (gf : Nat) (lb : Array Value) (eg : ∀ args w, (callFunc gf args).run Try.prog w = .ok (.enter gf args) w) (p : ByteArray → Bool) (A0 : Option Addr) (c0 : Nat) (l0 : List ByteArray) (w : World) (hr0 : Kd.C Kd.string w A0 l0.length l0)
  (hp : ∀ (i : Nat) (h : i < l0.length) (W : World), Below w.heap.size w W → Calls Try.prog gf (#[.string l0[i]] ++ lb) W fun e W' => e = .returned (.bool (p l0[i])) ∧ Below W.heap.size W W') :
  Calls Try.prog 102 #[.slice A0 l0.length c0, .func (.func gf) #[] lb] w fun e w' => e = .returned (.int .i64 (idxF p l0 0)) ∧ Below w.heap.size w w' := by
 have HR := Aside0.mk hr0
 have HB := Aside0.mk (Below.refl w.heap.size w)
 have HM := Aside0.mk (Kd.C_max hr0)
 have HL := Aside0.mk (idxF_drop p l0)
 have HP := Aside0.mk hp
 clear hr0 hp
 go_enter Try.func102, Try.ntmps102
 go_wp2
 go_loopg [5, 8] l0.length (fun kq v5 v8 w' => ∃ i : Nat, i + kq = l0.length ∧ v8 = .int .i64 i ∧ Aside0 (idxF p l0 0 = idxF p (l0.drop i) i) ∧ Aside0 (Below w.heap.size w w'))
 case atStart => exact ⟨0, by omega, rfl, ⟨rfl⟩, ⟨Below.refl _ _⟩⟩
 case round =>
  obtain ⟨i, hi, rfl, HI, HB⟩ := hrel
  have hm := HM.out
  cases gk with
  | zero =>
   obtain rfl : i = l0.length := by omega
   have HE : Aside0 (idxF p l0 0 = -1) := ⟨by rw [HI.out, List.drop_eq_nil_of_le (Nat.le_refl _)]; rfl⟩
   clear eg
   go_wp2
   go_ret
   exact ⟨by rw [HE.out]; rfl, HB.out⟩
  | succ k =>
   have hlt : i < l0.length := by omega
   obtain ⟨ad, e0, x0⟩ := Kd.at_string (Kd.C_below HR.out HB.out) (i : Int) (by omega) (by omega)
   rw [Int.toNat_natCast] at x0
   have hrd : rdOf ByteArray.empty l0 (i : Int) = l0[i] := by unfold rdOf; rw [Int.toNat_natCast, List.getD_eq_getElem?_getD, List.getElem?_eq_getElem hlt]; rfl
   rw [hrd] at x0
   subst e0
   have hcall := HP.out i hlt wr HB.out
   obtain ⟨x, hx⟩ : ∃ x, l0[i] = x := ⟨_, rfl⟩
   have HD := Aside0.mk (HL.out i hlt (i : Int))
   rw [hx] at x0 HD hcall
   have hlt' : (i : Int) < (l0.length : Int) := by omega
   have h0 : (0 : Int) ≤ i := by omega
   have HI2 := Aside0.mk hi
   have HC := Aside0.mk hcall
   clear hx hrd hi hcall
   obtain ⟨v, hv⟩ : ∃ v, p x = v := ⟨_, rfl⟩
   have HV := Aside0.mk hv
   clear hv
   cases v
   all_goals
    go_wp2_with (go_at_fn gf; refine HC.out.mono ?_; rintro e w2 ⟨rfl, hB2⟩; rw [HV.out]; have HB2 := Aside0.mk hB2; clear hB2)
   ·go_roundg k
    case measure => omega
    case rel => exact ⟨i + 1, by have := HI2.out; omega, by go_num, ⟨by rw [HI.out, HD.out, HV.out]; simp⟩, ⟨HB.out.trans (HB2.out.mono HB.out.size)⟩⟩
   ·go_ret
    exact ⟨by rw [HI.out, HD.out, HV.out]; rfl, HB.out.trans (HB2.out.mono HB.out.size)⟩
set_option maxHeartbeats 4000000 in
set_option maxRecDepth 100000 in
theorem contains_func_string (gf : Nat) (lb : Array Value) (eg : ∀ args w, (callFunc gf args).run Try.prog w = .ok (.enter gf args) w) (p : ByteArray → Bool) (A0 : Option Addr) (c0 : Nat) (l0 : List ByteArray) (w : World) (hr0 : Kd.C Kd.string w A0 l0.length l0)
  (hp : ∀ (i : Nat) (h : i < l0.length) (W : World), Below w.heap.size w W → Calls Try.prog gf (#[.string l0[i]] ++ lb) W fun e W' => e = .returned (.bool (p l0[i])) ∧ Below W.heap.size W W') :
  Calls Try.prog 94 #[.slice A0 l0.length c0, .func (.func gf) #[] lb] w fun e w' => e = .returned (.bool (l0.any p)) ∧ Below w.heap.size w w' := by
 have hc := Aside0.mk (index_func_string gf lb eg p A0 c0 l0 w hr0 hp)
 have HA := Aside0.mk (idxF_any p l0 0 (by omega))
 clear hp eg hr0
 go_enter Try.func94, Try.ntmps94
 go_wp2_with (go_at_call 102; refine hc.out.mono ?_; rintro e w2 ⟨rfl, hB2⟩; have HB2 := Aside0.mk hB2; clear hB2)
 go_ret
 exact ⟨by rw [HA.out]; rfl, HB2.out⟩
end Go.Proofs.Ytihpndignekheaa.F
end

section
namespace Go.Proofs.Ytihpndignekheaa.F
open Go.RowKit Go.Proofs.YtihpndignekheaaW.PrintWords Go.Proofs.YtihpndignekheaaW.PrintLast Go.Proofs.YtihpndignekheaaW.PrintMore
attribute [local go_sem] max2_int min2_int max_two min_two max_three min_three max_four min_four
set_option linter.unusedVariables false
set_option linter.unusedSimpArgs false
def wordB (s : ByteArray) : Bool := (lex_Word.f s).getD false
theorem word_of (s : ByteArray) : lex_Word.f s = some (wordB s) := by
 unfold wordB lex_Word.f
 repeat' split
 all_goals rfl
def okName (s : ByteArray) : Bool := nameB s && !wordB s
theorem names_of (s : ByteArray) : syntax_names.f s = some (okName s) := by
 unfold syntax_names.f okName
 simp only [lex_Name.f, Option.bind_some, word_of]
 cases nameB s <;> simp
mutual
def fitsS : S79 → Bool
 | ⟨nm, un, af, sb, vi, al⟩ => if !okName nm || af.any (fun s => !okName s) then false else if sb then decide (un.toList = []) && (altsFit al && decide (0 < al.length)) else !vi && (decide (al.length = 0) && (decide (un.toList = []) || okName un))
def nodesFit : List S79 → Bool
 | [] => true
 | x :: l => fitsS x && nodesFit l
def bodyFits : SB82 S79 → Bool
 | ⟨l⟩ => nodesFit l
def altsFit : List (SB82 S79) → Bool
 | [] => true
 | b :: l => bodyFits b && altsFit l
end
def bodiesOk (l : List S82) : Bool := altsFit l && decide (0 < l.length)
theorem nodesFit_any : ∀ (l : List S79), l.any (fun x => !fitsS x) = !nodesFit l
 | [] => by simp [nodesFit]
 | x :: l => by rw [List.any_cons, nodesFit_any l]; simp [nodesFit]
set_option maxHeartbeats 2000000 in
theorem fits1_lit (s : ByteArray) (w : World) : Calls Try.prog 93 #[.string s] w fun e w' => e = .returned (.bool (!okName s)) ∧ Below w.heap.size w w' := by
 go_enter Try.func93, Try.ntmps93
 go_wp2_with (go_at_call 77; refine (syntax_names.calls s _ _ (names_of s)).mono ?_; rintro e w2 ⟨rfl, hB2⟩; have HB2 := Aside0.mk hB2; clear hB2)
 go_ret
 exact ⟨rfl, HB2.out⟩
def FitsC (x : S79) : Prop := ∀ (w : World) (cs : List Value), k79.K w x cs → Calls Try.prog 86 #[.agg cs.toArray] w fun e w' => e = .returned (.bool (fitsS x)) ∧ Below w.heap.size w w'
def BodiesC (l : List S82) : Prop := ∀ (w : World) (A : Option Addr) (c : Nat), k82.C w A l.length l → l.length ≤ c → Calls Try.prog 79 #[.slice A l.length c] w fun e w' => e = .returned (.bool (bodiesOk l)) ∧ Below w.heap.size w w'
set_option maxHeartbeats 8000000 in
set_option maxRecDepth 100000 in
theorem fits_walk (x : S79) (Hb : BodiesC x.f5) : FitsC x := by
 intro w cs hK
 obtain ⟨A2, c2, A5, c5, rfl, l2, g2, l5, g5⟩ := k79_open hK
 clear hK
 obtain ⟨nm, un, af, sb, vi, al⟩ := x
 simp only at l2 g2 l5 g5 Hb ⊢
 have HBo := Aside0.mk Hb
 have HL5 := Aside0.mk l5
 have e1 : ∀ args w, (callFunc 93 args).run Try.prog w = .ok (.enter 93 args) w := enters_of Try.func93 (by kernel_rfl) rfl
 have HG := Aside0.mk (heap_alloc_new w (.cells #[.string nm, .string un, .slice A2 af.length c2, .bool sb, .bool vi, .slice A5 al.length c5] 79 (0, 0)))
 have HC2 := Aside0.mk (Kd.C_alloc g2 (.cells #[.string nm, .string un, .slice A2 af.length c2, .bool sb, .bool vi, .slice A5 al.length c5] 79 (0, 0)))
 have HC5 := Aside0.mk (Kd.C_alloc g5 (.cells #[.string nm, .string un, .slice A2 af.length c2, .bool sb, .bool vi, .slice A5 al.length c5] 79 (0, 0)))
 have HB := Aside0.mk ((Below.refl w.heap.size w).alloc (Nat.le_refl _) (.cells #[.string nm, .string un, .slice A2 af.length c2, .bool sb, .bool vi, .slice A5 al.length c5] 79 (0, 0)))
 have HE := Aside0.mk e1
 clear g2 g5 l2 l5 Hb e1
 go_enter Try.func86, Try.ntmps86
 cases sb <;> cases vi
 all_goals
  go_wp2_with (first
   | (go_at_call 77; refine (syntax_names.calls _ _ _ (names_of _)).mono ?_; rintro e w2 ⟨rfl, hb⟩; replace HG := Aside0.mk ((hb.block _ (blk_lt HG.out)).trans HG.out); replace HC2 := Aside0.mk (Kd.C_below HC2.out hb); replace HC5 := Aside0.mk (Kd.C_below HC5.out hb); replace HB := Aside0.mk (HB.out.trans (hb.mono HB.out.size)); have q0 := (blk_cell HG.out 0).trans rfl; have q1 := (blk_cell HG.out 1).trans rfl; have q2 := (blk_cell HG.out 2).trans rfl; have q3 := (blk_cell HG.out 3).trans rfl; have q4 := (blk_cell HG.out 4).trans rfl; have q5 := (blk_cell HG.out 5).trans rfl; clear hb)
   | (go_at_call 94; refine (contains_func_string 93 #[] HE.out (fun s => !okName s) A2 c2 af _ HC2.out (fun i h W hW => fits1_lit af[i] W)).mono ?_; rintro e w2 ⟨rfl, hb⟩; replace HG := Aside0.mk ((hb.block _ (blk_lt HG.out)).trans HG.out); replace HC2 := Aside0.mk (Kd.C_below HC2.out hb); replace HC5 := Aside0.mk (Kd.C_below HC5.out hb); replace HB := Aside0.mk (HB.out.trans (hb.mono HB.out.size)); have q0 := (blk_cell HG.out 0).trans rfl; have q1 := (blk_cell HG.out 1).trans rfl; have q2 := (blk_cell HG.out 2).trans rfl; have q3 := (blk_cell HG.out 3).trans rfl; have q4 := (blk_cell HG.out 4).trans rfl; have q5 := (blk_cell HG.out 5).trans rfl; clear hb)
   | (go_at_call 79; refine (HBo.out _ A5 c5 HC5.out HL5.out).mono ?_; rintro e w2 ⟨rfl, hb⟩; replace HB := Aside0.mk (HB.out.trans (hb.mono HB.out.size)); clear hb))
 all_goals (go_ret; refine ⟨?_, HB.out⟩; simp_all [fitsS, bodiesOk, -List.any_eq_true, -List.any_eq_false])
set_option maxHeartbeats 2000000 in
set_option maxRecDepth 100000 in
theorem bodies1_lit (x : S79) (Hf : FitsC x) (w : World) (cs : List Value) (hK : k79.K w x cs) : Calls Try.prog 85 #[.agg cs.toArray] w fun e w' => e = .returned (.bool (!fitsS x)) ∧ Below w.heap.size w w' := by
 have HK := Aside0.mk (k79.K_below (below_alloc (Below.refl w.heap.size w) (.cells cs.toArray 79 (0, 0))) hK)
 have HB := Aside0.mk ((Below.refl w.heap.size w).alloc (Nat.le_refl _) (.cells cs.toArray 79 (0, 0)))
 have HF := Aside0.mk Hf
 obtain ⟨A2, c2, A5, c5, rfl, l2, g2, l5, g5⟩ := k79_open hK
 clear hK Hf l2 g2 l5 g5
 go_enter Try.func85, Try.ntmps85
 go_wp2_with (go_at_call 86; refine (HF.out _ _ HK.out).mono ?_; rintro e w2 ⟨rfl, hb⟩; replace HB := Aside0.mk (HB.out.trans (hb.mono HB.out.size)); clear hb)
 go_ret
 exact ⟨rfl, HB.out⟩
set_option maxHeartbeats 8000000 in
set_option maxRecDepth 100000 in
theorem bodies_walk (l : List S82) (Hf : ∀ b ∈ l, ∀ x ∈ b.f0, FitsC x) : BodiesC l := by
 intro w A c hC hc
 have e1 : ∀ args w, (callFunc 85 args).run Try.prog w = .ok (.enter 85 args) w := enters_of Try.func85 (by kernel_rfl) rfl
 have HR := Aside0.mk hC
 have HM := Aside0.mk (Kd.C_max hC)
 have HF := Aside0.mk Hf
 have HE := Aside0.mk e1
 clear hC hc Hf e1
 go_enter Try.func79, Try.ntmps79
 go_wp2
 go_loopg [8] l.length (fun kq v8 w' => ∃ i : Nat, i + kq = l.length ∧ v8 = .int .i64 i ∧ Aside0 (altsFit l = altsFit (l.drop i)) ∧ Aside0 (Below w.heap.size w w'))
 case atStart => exact ⟨0, by omega, rfl, ⟨rfl⟩, ⟨Below.refl _ _⟩⟩
 case round =>
  obtain ⟨i, hi, rfl, HI, HB⟩ := hrel
  have hm := HM.out
  cases gk with
  | zero =>
   obtain rfl : i = l.length := by omega
   have HV : Aside0 (altsFit l = true) := ⟨by rw [HI.out, List.drop_eq_nil_of_le (Nat.le_refl _)]; rfl⟩
   go_wp2
   go_ret
   exact ⟨by simp [bodiesOk, HV.out], HB.out⟩
  | succ k =>
   have hlt : i < l.length := by omega
   obtain ⟨ad, A0, c0, e0, x0, l0, g0⟩ := at_T82 (Kd.C_below HR.out HB.out) (i : Int) (by omega) (by omega)
   rw [Int.toNat_natCast] at x0
   have hrd : rd_T82 l (i : Int) = l[i] := by unfold rd_T82; rw [Int.toNat_natCast, List.getD_eq_getElem?_getD, List.getElem?_eq_getElem hlt]; rfl
   rw [hrd] at x0 l0 g0
   subst e0
   have hff := HF.out l[i] (List.getElem_mem hlt)
   obtain ⟨b, hb⟩ : ∃ b, l[i] = b := ⟨_, rfl⟩
   have HD : Aside0 (altsFit (l.drop i) = (bodyFits b && altsFit (l.drop (i + 1)))) := ⟨by rw [List.drop_eq_getElem_cons hlt, hb]; rfl⟩
   rw [hb] at x0 l0 g0 hff
   have hlt' : (i : Int) < (l.length : Int) := by omega
   have h0 : (0 : Int) ≤ i := by omega
   have HI2 := Aside0.mk hi
   have HFB := Aside0.mk hff
   have HG0 := Aside0.mk g0
   clear hrd hi hb hff g0 l0
   obtain ⟨v, hv⟩ : ∃ v, bodyFits b = v := ⟨_, rfl⟩
   have HV := Aside0.mk hv
   clear hv
   have HA : Aside0 (b.f0.any (fun x => !fitsS x) = !v) := ⟨by rw [nodesFit_any, ← HV.out]; cases b; rfl⟩
   cases v
   all_goals
    go_wp2_with (go_at_call 87; refine (contains_func_node 85 #[] HE.out (fun x => !fitsS x) A0 c0 b.f0 _ ?hC ?hp).mono ?_; (case hC => exact Kd.C_alloc HG0.out _); (case hp => intro j hj W hW cs hk; exact bodies1_lit _ (HFB.out _ (List.getElem_mem hj)) W cs hk); rintro e w2 ⟨rfl, hb⟩; have HB2 := Aside0.mk (HB.out.trans ((((Below.refl _ _).alloc (Nat.le_refl _) _).trans (hb.mono (by simp))).mono HB.out.size)); rw [HA.out]; clear hb)
   ·go_ret
    exact ⟨by rw [show bodiesOk l = false from by unfold bodiesOk; rw [HI.out, HD.out, HV.out]; rfl]; rfl, HB2.out⟩
   ·go_roundg k
    case measure => omega
    case rel => exact ⟨i + 1, by have := HI2.out; omega, by go_num, ⟨by rw [HI.out, HD.out, HV.out]; rfl⟩, HB2⟩
theorem mem_lt_body {b : S82} {x : S79} (h : x ∈ b.f0) : SizeOf.sizeOf x < SizeOf.sizeOf b := by
 have h1 := List.sizeOf_lt_of_mem h
 cases b
 simp only [SB82.mk.sizeOf_spec] at *
 omega
theorem alts_lt (x : S79) : SizeOf.sizeOf x.f5 < SizeOf.sizeOf x := by
 cases x
 simp only [S79.mk.sizeOf_spec]
 omega
theorem fits_all (n : Nat) : ∀ x : S79, SizeOf.sizeOf x < n → FitsC x := by
 induction n with
 | zero => intro x h; exact absurd h (Nat.not_lt_zero _)
 | succ n ih =>
  intro x h
  refine fits_walk x (bodies_walk x.f5 (fun b hb y hy => ih y ?_))
  have h1 := List.sizeOf_lt_of_mem hb
  have h2 := mem_lt_body hy
  have h3 := alts_lt x
  omega
theorem fits_ok (x : S79) : FitsC x := fits_all (SizeOf.sizeOf x + 1) x (by omega)
theorem bodies_ok (l : List S82) : BodiesC l := bodies_walk l (fun _ _ y _ => fits_ok y)
def syntax_bodies.f (l0 : List S82) : Option Bool := some (bodiesOk l0)
theorem syntax_bodies.calls (A0 : Option Addr) (c0 : Nat) (l0 : List S82) (r : Bool) (w : World) (hr0 : Kd.C k82 w A0 l0.length l0) (hc0 : l0.length ≤ c0) (h : syntax_bodies.f l0 = some r) :
  Calls Try.prog 79 #[.slice A0 l0.length c0] w fun e w' => e = .returned (.bool r) ∧ Below w.heap.size w w' := by
 obtain rfl := Option.some.inj h
 exact bodies_ok l0 w A0 c0 hr0 hc0
end Go.Proofs.Ytihpndignekheaa.F
end

section
namespace Go.Proofs.Ytihpndignekheaa.F
open Go.RowKit Go.Proofs.YtihpndignekheaaW.PrintWords Go.Proofs.YtihpndignekheaaW.PrintLast Go.Proofs.YtihpndignekheaaW.PrintMore
attribute [local go_sem] max2_int min2_int max_two min_two max_three min_three max_four min_four
set_option linter.unusedVariables false
set_option linter.unusedSimpArgs false
def syntax_Check.f (k : Nat) (a0_0 : ByteArray) (l0_1 : List (S82)) : Option (Int) := (syntax_names.f a0_0).bind fun t122 => (if t122 = true then ((syntax_Depth.f k a0_0 l0_1).bind fun t123 => (if t123 > 70 then (some 2) else ((syntax_Count.f k a0_0 l0_1).bind fun t124 => (if t124 > 1000 then (some 2) else ((syntax_bodies.f l0_1).bind fun t125 => (if t125 = true then (some 0) else (some 2))))))) else (some 2))
set_option maxHeartbeats 8000000 in
set_option maxRecDepth 100000 in
theorem syntax_Check.calls (k : Nat) (a0_0 : ByteArray) (A0_1 : Option Addr) (c0_1 : Nat) (l0_1 : List (S82)) (r : Int) (w : World) (hr0_1 : Kd.C k82 w A0_1 l0_1.length l0_1) (hc0_1 : l0_1.length ≤ c0_1) (h : syntax_Check.f k a0_0 l0_1 = some r) :
  Calls Try.prog 70 #[.agg #[.string a0_0, .slice A0_1 l0_1.length c0_1]] w fun e w' => e = .returned (.int .i64 r) ∧ Below w.heap.size w w' := by
 have hu86 := Try.underlying86
 have HR0_1 := Aside0.mk hr0_1
 have HC0_1 := Aside0.mk hc0_1
 clear hr0_1 hc0_1
 have HB := Aside0.mk (Below.refl w.heap.size w)
 have H : ((syntax_names.f a0_0).bind fun t122 => (if t122 = true then ((syntax_Depth.f k a0_0 l0_1).bind fun t123 => (if t123 > 70 then (some 2) else ((syntax_Count.f k a0_0 l0_1).bind fun t124 => (if t124 > 1000 then (some 2) else ((syntax_bodies.f l0_1).bind fun t125 => (if t125 = true then (some 0) else (some 2))))))) else (some 2))) = some r := h
 clear h
 replace H := Option.bind_eq_some_iff.mp H
 obtain ⟨t122, A20, H⟩ := H
 replace H : (if t122 = true then ((syntax_Depth.f k a0_0 l0_1).bind fun t123 => (if t123 > 70 then (some 2) else ((syntax_Count.f k a0_0 l0_1).bind fun t124 => (if t124 > 1000 then (some 2) else ((syntax_bodies.f l0_1).bind fun t125 => (if t125 = true then (some 0) else (some 2))))))) else (some 2)) = some r := H
 have A2 := Aside0.mk A20
 clear A20
 by_cases c3 : t122 = true
 ·subst c3
  have H1 : ((syntax_Depth.f k a0_0 l0_1).bind fun t123 => (if t123 > 70 then (some 2) else ((syntax_Count.f k a0_0 l0_1).bind fun t124 => (if t124 > 1000 then (some 2) else ((syntax_bodies.f l0_1).bind fun t125 => (if t125 = true then (some 0) else (some 2))))))) = some r := by rw [if_pos rfl] at H; exact H
  clear H
  have H := H1
  clear H1
  replace H := Option.bind_eq_some_iff.mp H
  obtain ⟨t123, A40, H⟩ := H
  replace H : (if t123 > 70 then (some 2) else ((syntax_Count.f k a0_0 l0_1).bind fun t124 => (if t124 > 1000 then (some 2) else ((syntax_bodies.f l0_1).bind fun t125 => (if t125 = true then (some 0) else (some 2)))))) = some r := H
  have A4 := Aside0.mk A40
  clear A40
  by_cases c5 : t123 > 70
  ·rw [if_pos c5] at H
   have c5b0 : decide (70 < t123) = true := decide_eq_true c5
   clear c5
   obtain rfl := Option.some.inj H
   go_enter Try.func70, Try.ntmps70
   go_wp2_with (first | ((with_reducible refine gate_dst (N := 1) rfl ?_); refine box_event ?hg (N := 1) ?hd (cs := #[.string a0_0, .slice A0_1 l0_1.length c0_1]) (t := 86) ?hr ?_; (case hd => rfl); (case hg => rfl); (case hr => first | (go_simp; done) | (go_simp; rfl)); intro gb121 hg w6 hbox hb; have n0_ := Aside0.mk (below_step (by repeat (first | (with_reducible first | exact HB.out | apply below_alloc | apply pw_below_drewN | apply below_drew1) | exact HB.out)) hb); have n1_ := Aside0.mk (hbox); have n2_ := Aside0.mk ((by rw [hg]; exact (below_size (by repeat (first | (with_reducible first | exact HB.out | apply below_alloc | apply pw_below_drewN | apply below_drew1) | exact HB.out))) : w.heap.size ≤ gb121)); have n3_ := Aside0.mk ((by rw [hg]; exact (below_size (by repeat (first | (with_reducible first | exact HB.out | apply below_alloc | apply pw_below_drewN | apply below_drew1) | exact HB.out))) : w.heap.size ≤ gb121)); clear HB; have HB := n0_; have BK121 := n1_; have GW121 := n2_; have GE121 := n3_; clear n0_ n1_ n2_ n3_; clear hb hbox hg; have hcz7_0 : w6.cell? ⟨gb121, 0, none⟩ = some (.string a0_0) := (blk_cell BK121.out 0).trans rfl; have hcz7_1 : w6.cell? ⟨gb121, 1, none⟩ = some (.slice A0_1 l0_1.length c0_1) := (blk_cell BK121.out 1).trans rfl; have hfz7_0 := blk_frozen BK121.out 0; have hfz7_1 := blk_frozen BK121.out 1) | ((with_reducible refine gate_callee (f := 77) rfl ?_); refine goesL_ (some 5) rfl rfl Try.func77 (by kernel_rfl) rfl #[.string a0_0] rfl (by (try simp only [List.map_toArray, List.map_cons, List.map_nil]); first | done | rfl | (simp only [List.length_drop, List.length_take]; rfl)) ?_; (with_reducible refine (syntax_names.calls a0_0 true _ A2.out).mono ?_); rintro e w8 ⟨rfl, hb⟩; refine ⟨_, rfl, ?_⟩; have n0_ := Aside0.mk (blk_below (g := gb121) (o := .cells #[.string a0_0, .slice A0_1 l0_1.length c0_1] 86 (0, 0)) (by (with_reducible repeat (first | refine blk_drewN ?_ _ | refine blk_drew ?_ | refine blk_alloc ?_ _)); exact BK121.out) hb); have n1_ := Aside0.mk (below_step (by repeat (first | (with_reducible first | exact HB.out | apply below_alloc | apply pw_below_drewN | apply below_drew1 | refine below_set ?_ GE121.out) | exact HB.out)) hb); clear BK121; clear HB; have BK121 := n0_; have HB := n1_; clear n0_ n1_; (try clear hb); (try clear hb2); (try clear hk); (try clear hi); have hcz9_0 : w8.cell? ⟨gb121, 0, none⟩ = some (.string a0_0) := (blk_cell BK121.out 0).trans rfl; have hcz9_1 : w8.cell? ⟨gb121, 1, none⟩ = some (.slice A0_1 l0_1.length c0_1) := (blk_cell BK121.out 1).trans rfl; have hfz9_0 := blk_frozen BK121.out 0; have hfz9_1 := blk_frozen BK121.out 1) | (go_at_call 78; (with_reducible refine (syntax_Depth.calls k a0_0 _ _ l0_1 t123 _ ?side1 ?side2 A4.out).mono ?_); (case side1 => repeat (first | exact (Kd.C_below HR0_1.out HB.out) | (with_reducible refine Kd.C_alloc ?_ _) | (with_reducible refine Kd.C_drewN ?_ _) | (with_reducible refine Kd.C_drew ?_))); (case side2 => exact HC0_1.out); rintro e w10 ⟨rfl, hb⟩; have n0_ := Aside0.mk (blk_below (g := gb121) (o := .cells #[.string a0_0, .slice A0_1 l0_1.length c0_1] 86 (0, 0)) (by (with_reducible repeat (first | refine blk_drewN ?_ _ | refine blk_drew ?_ | refine blk_alloc ?_ _)); exact BK121.out) hb); have n1_ := Aside0.mk (below_step (by repeat (first | (with_reducible first | exact HB.out | apply below_alloc | apply pw_below_drewN | apply below_drew1 | refine below_set ?_ GE121.out) | exact HB.out)) hb); clear BK121; clear HB; have BK121 := n0_; have HB := n1_; clear n0_ n1_; (try clear hb); (try clear hb2); (try clear hk); (try clear hi)))
   go_ret
   exact ⟨by first | rfl | (simp [errW_none, errW_some] <;> rfl) | (simp [*, errW_none, errW_some] <;> rfl), by repeat (first | (with_reducible first | exact HB.out | apply below_alloc | apply pw_below_drewN | apply below_drew1 | refine below_set ?_ GE121.out) | exact HB.out)⟩
  ·rw [if_neg c5] at H
   have c5b0 : decide (70 < t123) = false := decide_eq_false c5
   clear c5
   replace H := Option.bind_eq_some_iff.mp H
   obtain ⟨t124, A110, H⟩ := H
   replace H : (if t124 > 1000 then (some 2) else ((syntax_bodies.f l0_1).bind fun t125 => (if t125 = true then (some 0) else (some 2)))) = some r := H
   have A11 := Aside0.mk A110
   clear A110
   by_cases c12 : t124 > 1000
   ·rw [if_pos c12] at H
    have c12b0 : decide (1000 < t124) = true := decide_eq_true c12
    clear c12
    obtain rfl := Option.some.inj H
    go_enter Try.func70, Try.ntmps70
    go_wp2_with (first | ((with_reducible refine gate_dst (N := 1) rfl ?_); refine box_event ?hg (N := 1) ?hd (cs := #[.string a0_0, .slice A0_1 l0_1.length c0_1]) (t := 86) ?hr ?_; (case hd => rfl); (case hg => rfl); (case hr => first | (go_simp; done) | (go_simp; rfl)); intro gb121 hg w13 hbox hb; have n0_ := Aside0.mk (below_step (by repeat (first | (with_reducible first | exact HB.out | apply below_alloc | apply pw_below_drewN | apply below_drew1) | exact HB.out)) hb); have n1_ := Aside0.mk (hbox); have n2_ := Aside0.mk ((by rw [hg]; exact (below_size (by repeat (first | (with_reducible first | exact HB.out | apply below_alloc | apply pw_below_drewN | apply below_drew1) | exact HB.out))) : w.heap.size ≤ gb121)); have n3_ := Aside0.mk ((by rw [hg]; exact (below_size (by repeat (first | (with_reducible first | exact HB.out | apply below_alloc | apply pw_below_drewN | apply below_drew1) | exact HB.out))) : w.heap.size ≤ gb121)); clear HB; have HB := n0_; have BK121 := n1_; have GW121 := n2_; have GE121 := n3_; clear n0_ n1_ n2_ n3_; clear hb hbox hg; have hcz14_0 : w13.cell? ⟨gb121, 0, none⟩ = some (.string a0_0) := (blk_cell BK121.out 0).trans rfl; have hcz14_1 : w13.cell? ⟨gb121, 1, none⟩ = some (.slice A0_1 l0_1.length c0_1) := (blk_cell BK121.out 1).trans rfl; have hfz14_0 := blk_frozen BK121.out 0; have hfz14_1 := blk_frozen BK121.out 1) | ((with_reducible refine gate_callee (f := 77) rfl ?_); refine goesL_ (some 5) rfl rfl Try.func77 (by kernel_rfl) rfl #[.string a0_0] rfl (by (try simp only [List.map_toArray, List.map_cons, List.map_nil]); first | done | rfl | (simp only [List.length_drop, List.length_take]; rfl)) ?_; (with_reducible refine (syntax_names.calls a0_0 true _ A2.out).mono ?_); rintro e w15 ⟨rfl, hb⟩; refine ⟨_, rfl, ?_⟩; have n0_ := Aside0.mk (blk_below (g := gb121) (o := .cells #[.string a0_0, .slice A0_1 l0_1.length c0_1] 86 (0, 0)) (by (with_reducible repeat (first | refine blk_drewN ?_ _ | refine blk_drew ?_ | refine blk_alloc ?_ _)); exact BK121.out) hb); have n1_ := Aside0.mk (below_step (by repeat (first | (with_reducible first | exact HB.out | apply below_alloc | apply pw_below_drewN | apply below_drew1 | refine below_set ?_ GE121.out) | exact HB.out)) hb); clear BK121; clear HB; have BK121 := n0_; have HB := n1_; clear n0_ n1_; (try clear hb); (try clear hb2); (try clear hk); (try clear hi); have hcz16_0 : w15.cell? ⟨gb121, 0, none⟩ = some (.string a0_0) := (blk_cell BK121.out 0).trans rfl; have hcz16_1 : w15.cell? ⟨gb121, 1, none⟩ = some (.slice A0_1 l0_1.length c0_1) := (blk_cell BK121.out 1).trans rfl; have hfz16_0 := blk_frozen BK121.out 0; have hfz16_1 := blk_frozen BK121.out 1) | (go_at_call 78; (with_reducible refine (syntax_Depth.calls k a0_0 _ _ l0_1 t123 _ ?side1 ?side2 A4.out).mono ?_); (case side1 => repeat (first | exact (Kd.C_below HR0_1.out HB.out) | (with_reducible refine Kd.C_alloc ?_ _) | (with_reducible refine Kd.C_drewN ?_ _) | (with_reducible refine Kd.C_drew ?_))); (case side2 => exact HC0_1.out); rintro e w17 ⟨rfl, hb⟩; have n0_ := Aside0.mk (blk_below (g := gb121) (o := .cells #[.string a0_0, .slice A0_1 l0_1.length c0_1] 86 (0, 0)) (by (with_reducible repeat (first | refine blk_drewN ?_ _ | refine blk_drew ?_ | refine blk_alloc ?_ _)); exact BK121.out) hb); have n1_ := Aside0.mk (below_step (by repeat (first | (with_reducible first | exact HB.out | apply below_alloc | apply pw_below_drewN | apply below_drew1 | refine below_set ?_ GE121.out) | exact HB.out)) hb); clear BK121; clear HB; have BK121 := n0_; have HB := n1_; clear n0_ n1_; (try clear hb); (try clear hb2); (try clear hk); (try clear hi); have hcz18_0 : w17.cell? ⟨gb121, 0, none⟩ = some (.string a0_0) := (blk_cell BK121.out 0).trans rfl; have hcz18_1 : w17.cell? ⟨gb121, 1, none⟩ = some (.slice A0_1 l0_1.length c0_1) := (blk_cell BK121.out 1).trans rfl; have hfz18_0 := blk_frozen BK121.out 0; have hfz18_1 := blk_frozen BK121.out 1) | (go_at_call 71; (with_reducible refine (syntax_Count.calls k a0_0 _ _ l0_1 t124 _ ?side1 ?side2 A11.out).mono ?_); (case side1 => repeat (first | exact (Kd.C_below HR0_1.out HB.out) | (with_reducible refine Kd.C_alloc ?_ _) | (with_reducible refine Kd.C_drewN ?_ _) | (with_reducible refine Kd.C_drew ?_))); (case side2 => exact HC0_1.out); rintro e w19 ⟨rfl, hb⟩; have n0_ := Aside0.mk (blk_below (g := gb121) (o := .cells #[.string a0_0, .slice A0_1 l0_1.length c0_1] 86 (0, 0)) (by (with_reducible repeat (first | refine blk_drewN ?_ _ | refine blk_drew ?_ | refine blk_alloc ?_ _)); exact BK121.out) hb); have n1_ := Aside0.mk (below_step (by repeat (first | (with_reducible first | exact HB.out | apply below_alloc | apply pw_below_drewN | apply below_drew1 | refine below_set ?_ GE121.out) | exact HB.out)) hb); clear BK121; clear HB; have BK121 := n0_; have HB := n1_; clear n0_ n1_; (try clear hb); (try clear hb2); (try clear hk); (try clear hi)))
    go_ret
    exact ⟨by first | rfl | (simp [errW_none, errW_some] <;> rfl) | (simp [*, errW_none, errW_some] <;> rfl), by repeat (first | (with_reducible first | exact HB.out | apply below_alloc | apply pw_below_drewN | apply below_drew1 | refine below_set ?_ GE121.out) | exact HB.out)⟩
   ·rw [if_neg c12] at H
    have c12b0 : decide (1000 < t124) = false := decide_eq_false c12
    clear c12
    replace H := Option.bind_eq_some_iff.mp H
    obtain ⟨t125, A200, H⟩ := H
    replace H : (if t125 = true then (some 0) else (some 2)) = some r := H
    have A20 := Aside0.mk A200
    clear A200
    by_cases c21 : t125 = true
    ·subst c21
     have H1 : (some 0) = some r := by rw [if_pos rfl] at H; exact H
     clear H
     have H := H1
     clear H1
     obtain rfl := Option.some.inj H
     go_enter Try.func70, Try.ntmps70
     go_wp2_with (first | ((with_reducible refine gate_dst (N := 1) rfl ?_); refine box_event ?hg (N := 1) ?hd (cs := #[.string a0_0, .slice A0_1 l0_1.length c0_1]) (t := 86) ?hr ?_; (case hd => rfl); (case hg => rfl); (case hr => first | (go_simp; done) | (go_simp; rfl)); intro gb121 hg w22 hbox hb; have n0_ := Aside0.mk (below_step (by repeat (first | (with_reducible first | exact HB.out | apply below_alloc | apply pw_below_drewN | apply below_drew1) | exact HB.out)) hb); have n1_ := Aside0.mk (hbox); have n2_ := Aside0.mk ((by rw [hg]; exact (below_size (by repeat (first | (with_reducible first | exact HB.out | apply below_alloc | apply pw_below_drewN | apply below_drew1) | exact HB.out))) : w.heap.size ≤ gb121)); have n3_ := Aside0.mk ((by rw [hg]; exact (below_size (by repeat (first | (with_reducible first | exact HB.out | apply below_alloc | apply pw_below_drewN | apply below_drew1) | exact HB.out))) : w.heap.size ≤ gb121)); clear HB; have HB := n0_; have BK121 := n1_; have GW121 := n2_; have GE121 := n3_; clear n0_ n1_ n2_ n3_; clear hb hbox hg; have hcz23_0 : w22.cell? ⟨gb121, 0, none⟩ = some (.string a0_0) := (blk_cell BK121.out 0).trans rfl; have hcz23_1 : w22.cell? ⟨gb121, 1, none⟩ = some (.slice A0_1 l0_1.length c0_1) := (blk_cell BK121.out 1).trans rfl; have hfz23_0 := blk_frozen BK121.out 0; have hfz23_1 := blk_frozen BK121.out 1) | ((with_reducible refine gate_callee (f := 77) rfl ?_); refine goesL_ (some 5) rfl rfl Try.func77 (by kernel_rfl) rfl #[.string a0_0] rfl (by (try simp only [List.map_toArray, List.map_cons, List.map_nil]); first | done | rfl | (simp only [List.length_drop, List.length_take]; rfl)) ?_; (with_reducible refine (syntax_names.calls a0_0 true _ A2.out).mono ?_); rintro e w24 ⟨rfl, hb⟩; refine ⟨_, rfl, ?_⟩; have n0_ := Aside0.mk (blk_below (g := gb121) (o := .cells #[.string a0_0, .slice A0_1 l0_1.length c0_1] 86 (0, 0)) (by (with_reducible repeat (first | refine blk_drewN ?_ _ | refine blk_drew ?_ | refine blk_alloc ?_ _)); exact BK121.out) hb); have n1_ := Aside0.mk (below_step (by repeat (first | (with_reducible first | exact HB.out | apply below_alloc | apply pw_below_drewN | apply below_drew1 | refine below_set ?_ GE121.out) | exact HB.out)) hb); clear BK121; clear HB; have BK121 := n0_; have HB := n1_; clear n0_ n1_; (try clear hb); (try clear hb2); (try clear hk); (try clear hi); have hcz25_0 : w24.cell? ⟨gb121, 0, none⟩ = some (.string a0_0) := (blk_cell BK121.out 0).trans rfl; have hcz25_1 : w24.cell? ⟨gb121, 1, none⟩ = some (.slice A0_1 l0_1.length c0_1) := (blk_cell BK121.out 1).trans rfl; have hfz25_0 := blk_frozen BK121.out 0; have hfz25_1 := blk_frozen BK121.out 1) | (go_at_call 78; (with_reducible refine (syntax_Depth.calls k a0_0 _ _ l0_1 t123 _ ?side1 ?side2 A4.out).mono ?_); (case side1 => repeat (first | exact (Kd.C_below HR0_1.out HB.out) | (with_reducible refine Kd.C_alloc ?_ _) | (with_reducible refine Kd.C_drewN ?_ _) | (with_reducible refine Kd.C_drew ?_))); (case side2 => exact HC0_1.out); rintro e w26 ⟨rfl, hb⟩; have n0_ := Aside0.mk (blk_below (g := gb121) (o := .cells #[.string a0_0, .slice A0_1 l0_1.length c0_1] 86 (0, 0)) (by (with_reducible repeat (first | refine blk_drewN ?_ _ | refine blk_drew ?_ | refine blk_alloc ?_ _)); exact BK121.out) hb); have n1_ := Aside0.mk (below_step (by repeat (first | (with_reducible first | exact HB.out | apply below_alloc | apply pw_below_drewN | apply below_drew1 | refine below_set ?_ GE121.out) | exact HB.out)) hb); clear BK121; clear HB; have BK121 := n0_; have HB := n1_; clear n0_ n1_; (try clear hb); (try clear hb2); (try clear hk); (try clear hi); have hcz27_0 : w26.cell? ⟨gb121, 0, none⟩ = some (.string a0_0) := (blk_cell BK121.out 0).trans rfl; have hcz27_1 : w26.cell? ⟨gb121, 1, none⟩ = some (.slice A0_1 l0_1.length c0_1) := (blk_cell BK121.out 1).trans rfl; have hfz27_0 := blk_frozen BK121.out 0; have hfz27_1 := blk_frozen BK121.out 1) | (go_at_call 71; (with_reducible refine (syntax_Count.calls k a0_0 _ _ l0_1 t124 _ ?side1 ?side2 A11.out).mono ?_); (case side1 => repeat (first | exact (Kd.C_below HR0_1.out HB.out) | (with_reducible refine Kd.C_alloc ?_ _) | (with_reducible refine Kd.C_drewN ?_ _) | (with_reducible refine Kd.C_drew ?_))); (case side2 => exact HC0_1.out); rintro e w28 ⟨rfl, hb⟩; have n0_ := Aside0.mk (blk_below (g := gb121) (o := .cells #[.string a0_0, .slice A0_1 l0_1.length c0_1] 86 (0, 0)) (by (with_reducible repeat (first | refine blk_drewN ?_ _ | refine blk_drew ?_ | refine blk_alloc ?_ _)); exact BK121.out) hb); have n1_ := Aside0.mk (below_step (by repeat (first | (with_reducible first | exact HB.out | apply below_alloc | apply pw_below_drewN | apply below_drew1 | refine below_set ?_ GE121.out) | exact HB.out)) hb); clear BK121; clear HB; have BK121 := n0_; have HB := n1_; clear n0_ n1_; (try clear hb); (try clear hb2); (try clear hk); (try clear hi); have hcz29_0 : w28.cell? ⟨gb121, 0, none⟩ = some (.string a0_0) := (blk_cell BK121.out 0).trans rfl; have hcz29_1 : w28.cell? ⟨gb121, 1, none⟩ = some (.slice A0_1 l0_1.length c0_1) := (blk_cell BK121.out 1).trans rfl; have hfz29_0 := blk_frozen BK121.out 0; have hfz29_1 := blk_frozen BK121.out 1) | (go_at_call 79; (with_reducible refine (syntax_bodies.calls _ _ l0_1 true _ ?side1 ?side2 A20.out).mono ?_); (case side1 => repeat (first | exact (Kd.C_below HR0_1.out HB.out) | (with_reducible refine Kd.C_alloc ?_ _) | (with_reducible refine Kd.C_drewN ?_ _) | (with_reducible refine Kd.C_drew ?_))); (case side2 => exact HC0_1.out); rintro e w30 ⟨rfl, hb⟩; have n0_ := Aside0.mk (blk_below (g := gb121) (o := .cells #[.string a0_0, .slice A0_1 l0_1.length c0_1] 86 (0, 0)) (by (with_reducible repeat (first | refine blk_drewN ?_ _ | refine blk_drew ?_ | refine blk_alloc ?_ _)); exact BK121.out) hb); have n1_ := Aside0.mk (below_step (by repeat (first | (with_reducible first | exact HB.out | apply below_alloc | apply pw_below_drewN | apply below_drew1 | refine below_set ?_ GE121.out) | exact HB.out)) hb); clear BK121; clear HB; have BK121 := n0_; have HB := n1_; clear n0_ n1_; (try clear hb); (try clear hb2); (try clear hk); (try clear hi)))
     go_ret
     exact ⟨by first | rfl | (simp [errW_none, errW_some] <;> rfl) | (simp [*, errW_none, errW_some] <;> rfl), by repeat (first | (with_reducible first | exact HB.out | apply below_alloc | apply pw_below_drewN | apply below_drew1 | refine below_set ?_ GE121.out) | exact HB.out)⟩
    ·replace c21 := Bool.eq_false_iff.mpr c21
     subst c21
     have H1 : (some 2) = some r := by rw [if_neg (show ¬ (false = true) by decide)] at H; exact H
     clear H
     have H := H1
     clear H1
     obtain rfl := Option.some.inj H
     go_enter Try.func70, Try.ntmps70
     go_wp2_with (first | ((with_reducible refine gate_dst (N := 1) rfl ?_); refine box_event ?hg (N := 1) ?hd (cs := #[.string a0_0, .slice A0_1 l0_1.length c0_1]) (t := 86) ?hr ?_; (case hd => rfl); (case hg => rfl); (case hr => first | (go_simp; done) | (go_simp; rfl)); intro gb121 hg w31 hbox hb; have n0_ := Aside0.mk (below_step (by repeat (first | (with_reducible first | exact HB.out | apply below_alloc | apply pw_below_drewN | apply below_drew1) | exact HB.out)) hb); have n1_ := Aside0.mk (hbox); have n2_ := Aside0.mk ((by rw [hg]; exact (below_size (by repeat (first | (with_reducible first | exact HB.out | apply below_alloc | apply pw_below_drewN | apply below_drew1) | exact HB.out))) : w.heap.size ≤ gb121)); have n3_ := Aside0.mk ((by rw [hg]; exact (below_size (by repeat (first | (with_reducible first | exact HB.out | apply below_alloc | apply pw_below_drewN | apply below_drew1) | exact HB.out))) : w.heap.size ≤ gb121)); clear HB; have HB := n0_; have BK121 := n1_; have GW121 := n2_; have GE121 := n3_; clear n0_ n1_ n2_ n3_; clear hb hbox hg; have hcz32_0 : w31.cell? ⟨gb121, 0, none⟩ = some (.string a0_0) := (blk_cell BK121.out 0).trans rfl; have hcz32_1 : w31.cell? ⟨gb121, 1, none⟩ = some (.slice A0_1 l0_1.length c0_1) := (blk_cell BK121.out 1).trans rfl; have hfz32_0 := blk_frozen BK121.out 0; have hfz32_1 := blk_frozen BK121.out 1) | ((with_reducible refine gate_callee (f := 77) rfl ?_); refine goesL_ (some 5) rfl rfl Try.func77 (by kernel_rfl) rfl #[.string a0_0] rfl (by (try simp only [List.map_toArray, List.map_cons, List.map_nil]); first | done | rfl | (simp only [List.length_drop, List.length_take]; rfl)) ?_; (with_reducible refine (syntax_names.calls a0_0 true _ A2.out).mono ?_); rintro e w33 ⟨rfl, hb⟩; refine ⟨_, rfl, ?_⟩; have n0_ := Aside0.mk (blk_below (g := gb121) (o := .cells #[.string a0_0, .slice A0_1 l0_1.length c0_1] 86 (0, 0)) (by (with_reducible repeat (first | refine blk_drewN ?_ _ | refine blk_drew ?_ | refine blk_alloc ?_ _)); exact BK121.out) hb); have n1_ := Aside0.mk (below_step (by repeat (first | (with_reducible first | exact HB.out | apply below_alloc | apply pw_below_drewN | apply below_drew1 | refine below_set ?_ GE121.out) | exact HB.out)) hb); clear BK121; clear HB; have BK121 := n0_; have HB := n1_; clear n0_ n1_; (try clear hb); (try clear hb2); (try clear hk); (try clear hi); have hcz34_0 : w33.cell? ⟨gb121, 0, none⟩ = some (.string a0_0) := (blk_cell BK121.out 0).trans rfl; have hcz34_1 : w33.cell? ⟨gb121, 1, none⟩ = some (.slice A0_1 l0_1.length c0_1) := (blk_cell BK121.out 1).trans rfl; have hfz34_0 := blk_frozen BK121.out 0; have hfz34_1 := blk_frozen BK121.out 1) | (go_at_call 78; (with_reducible refine (syntax_Depth.calls k a0_0 _ _ l0_1 t123 _ ?side1 ?side2 A4.out).mono ?_); (case side1 => repeat (first | exact (Kd.C_below HR0_1.out HB.out) | (with_reducible refine Kd.C_alloc ?_ _) | (with_reducible refine Kd.C_drewN ?_ _) | (with_reducible refine Kd.C_drew ?_))); (case side2 => exact HC0_1.out); rintro e w35 ⟨rfl, hb⟩; have n0_ := Aside0.mk (blk_below (g := gb121) (o := .cells #[.string a0_0, .slice A0_1 l0_1.length c0_1] 86 (0, 0)) (by (with_reducible repeat (first | refine blk_drewN ?_ _ | refine blk_drew ?_ | refine blk_alloc ?_ _)); exact BK121.out) hb); have n1_ := Aside0.mk (below_step (by repeat (first | (with_reducible first | exact HB.out | apply below_alloc | apply pw_below_drewN | apply below_drew1 | refine below_set ?_ GE121.out) | exact HB.out)) hb); clear BK121; clear HB; have BK121 := n0_; have HB := n1_; clear n0_ n1_; (try clear hb); (try clear hb2); (try clear hk); (try clear hi); have hcz36_0 : w35.cell? ⟨gb121, 0, none⟩ = some (.string a0_0) := (blk_cell BK121.out 0).trans rfl; have hcz36_1 : w35.cell? ⟨gb121, 1, none⟩ = some (.slice A0_1 l0_1.length c0_1) := (blk_cell BK121.out 1).trans rfl; have hfz36_0 := blk_frozen BK121.out 0; have hfz36_1 := blk_frozen BK121.out 1) | (go_at_call 71; (with_reducible refine (syntax_Count.calls k a0_0 _ _ l0_1 t124 _ ?side1 ?side2 A11.out).mono ?_); (case side1 => repeat (first | exact (Kd.C_below HR0_1.out HB.out) | (with_reducible refine Kd.C_alloc ?_ _) | (with_reducible refine Kd.C_drewN ?_ _) | (with_reducible refine Kd.C_drew ?_))); (case side2 => exact HC0_1.out); rintro e w37 ⟨rfl, hb⟩; have n0_ := Aside0.mk (blk_below (g := gb121) (o := .cells #[.string a0_0, .slice A0_1 l0_1.length c0_1] 86 (0, 0)) (by (with_reducible repeat (first | refine blk_drewN ?_ _ | refine blk_drew ?_ | refine blk_alloc ?_ _)); exact BK121.out) hb); have n1_ := Aside0.mk (below_step (by repeat (first | (with_reducible first | exact HB.out | apply below_alloc | apply pw_below_drewN | apply below_drew1 | refine below_set ?_ GE121.out) | exact HB.out)) hb); clear BK121; clear HB; have BK121 := n0_; have HB := n1_; clear n0_ n1_; (try clear hb); (try clear hb2); (try clear hk); (try clear hi); have hcz38_0 : w37.cell? ⟨gb121, 0, none⟩ = some (.string a0_0) := (blk_cell BK121.out 0).trans rfl; have hcz38_1 : w37.cell? ⟨gb121, 1, none⟩ = some (.slice A0_1 l0_1.length c0_1) := (blk_cell BK121.out 1).trans rfl; have hfz38_0 := blk_frozen BK121.out 0; have hfz38_1 := blk_frozen BK121.out 1) | (go_at_call 79; (with_reducible refine (syntax_bodies.calls _ _ l0_1 false _ ?side1 ?side2 A20.out).mono ?_); (case side1 => repeat (first | exact (Kd.C_below HR0_1.out HB.out) | (with_reducible refine Kd.C_alloc ?_ _) | (with_reducible refine Kd.C_drewN ?_ _) | (with_reducible refine Kd.C_drew ?_))); (case side2 => exact HC0_1.out); rintro e w39 ⟨rfl, hb⟩; have n0_ := Aside0.mk (blk_below (g := gb121) (o := .cells #[.string a0_0, .slice A0_1 l0_1.length c0_1] 86 (0, 0)) (by (with_reducible repeat (first | refine blk_drewN ?_ _ | refine blk_drew ?_ | refine blk_alloc ?_ _)); exact BK121.out) hb); have n1_ := Aside0.mk (below_step (by repeat (first | (with_reducible first | exact HB.out | apply below_alloc | apply pw_below_drewN | apply below_drew1 | refine below_set ?_ GE121.out) | exact HB.out)) hb); clear BK121; clear HB; have BK121 := n0_; have HB := n1_; clear n0_ n1_; (try clear hb); (try clear hb2); (try clear hk); (try clear hi)))
     go_ret
     exact ⟨by first | rfl | (simp [errW_none, errW_some] <;> rfl) | (simp [*, errW_none, errW_some] <;> rfl), by repeat (first | (with_reducible first | exact HB.out | apply below_alloc | apply pw_below_drewN | apply below_drew1 | refine below_set ?_ GE121.out) | exact HB.out)⟩
 ·replace c3 := Bool.eq_false_iff.mpr c3
  subst c3
  have H1 : (some 2) = some r := by rw [if_neg (show ¬ (false = true) by decide)] at H; exact H
  clear H
  have H := H1
  clear H1
  obtain rfl := Option.some.inj H
  go_enter Try.func70, Try.ntmps70
  go_wp2_with (first | ((with_reducible refine gate_dst (N := 1) rfl ?_); refine box_event ?hg (N := 1) ?hd (cs := #[.string a0_0, .slice A0_1 l0_1.length c0_1]) (t := 86) ?hr ?_; (case hd => rfl); (case hg => rfl); (case hr => first | (go_simp; done) | (go_simp; rfl)); intro gb121 hg w40 hbox hb; have n0_ := Aside0.mk (below_step (by repeat (first | (with_reducible first | exact HB.out | apply below_alloc | apply pw_below_drewN | apply below_drew1) | exact HB.out)) hb); have n1_ := Aside0.mk (hbox); have n2_ := Aside0.mk ((by rw [hg]; exact (below_size (by repeat (first | (with_reducible first | exact HB.out | apply below_alloc | apply pw_below_drewN | apply below_drew1) | exact HB.out))) : w.heap.size ≤ gb121)); have n3_ := Aside0.mk ((by rw [hg]; exact (below_size (by repeat (first | (with_reducible first | exact HB.out | apply below_alloc | apply pw_below_drewN | apply below_drew1) | exact HB.out))) : w.heap.size ≤ gb121)); clear HB; have HB := n0_; have BK121 := n1_; have GW121 := n2_; have GE121 := n3_; clear n0_ n1_ n2_ n3_; clear hb hbox hg; have hcz41_0 : w40.cell? ⟨gb121, 0, none⟩ = some (.string a0_0) := (blk_cell BK121.out 0).trans rfl; have hcz41_1 : w40.cell? ⟨gb121, 1, none⟩ = some (.slice A0_1 l0_1.length c0_1) := (blk_cell BK121.out 1).trans rfl; have hfz41_0 := blk_frozen BK121.out 0; have hfz41_1 := blk_frozen BK121.out 1) | ((with_reducible refine gate_callee (f := 77) rfl ?_); refine goesL_ (some 5) rfl rfl Try.func77 (by kernel_rfl) rfl #[.string a0_0] rfl (by (try simp only [List.map_toArray, List.map_cons, List.map_nil]); first | done | rfl | (simp only [List.length_drop, List.length_take]; rfl)) ?_; (with_reducible refine (syntax_names.calls a0_0 false _ A2.out).mono ?_); rintro e w42 ⟨rfl, hb⟩; refine ⟨_, rfl, ?_⟩; have n0_ := Aside0.mk (blk_below (g := gb121) (o := .cells #[.string a0_0, .slice A0_1 l0_1.length c0_1] 86 (0, 0)) (by (with_reducible repeat (first | refine blk_drewN ?_ _ | refine blk_drew ?_ | refine blk_alloc ?_ _)); exact BK121.out) hb); have n1_ := Aside0.mk (below_step (by repeat (first | (with_reducible first | exact HB.out | apply below_alloc | apply pw_below_drewN | apply below_drew1 | refine below_set ?_ GE121.out) | exact HB.out)) hb); clear BK121; clear HB; have BK121 := n0_; have HB := n1_; clear n0_ n1_; (try clear hb); (try clear hb2); (try clear hk); (try clear hi)))
  go_ret
  exact ⟨by first | rfl | (simp [errW_none, errW_some] <;> rfl) | (simp [*, errW_none, errW_some] <;> rfl), by repeat (first | (with_reducible first | exact HB.out | apply below_alloc | apply pw_below_drewN | apply below_drew1 | refine below_set ?_ GE121.out) | exact HB.out)⟩
def slices_Index_string_string.l0 : Nat → List ByteArray → ByteArray → Int → Int → Option (Int)
 | 0, _, _, _, _ => none
 | k + 1, x0, x1, x7, x8 => if x8 < x7 then (if 0 ≤ x8 then (if x8 < (x0.length : Int) then (if x1.toList = (rdOf ByteArray.empty x0 x8).toList then (some x8) else (slices_Index_string_string.l0 k x0 x1 x7 (wrap64 (x8 + 1)))) else (none)) else (none)) else (some (-1))
def slices_Index_string_string.f (k : Nat) (l0 : List ByteArray) (a1 : ByteArray) : Option (Int) := slices_Index_string_string.l0 k l0 a1 (l0.length : Int) 0
set_option maxHeartbeats 8000000 in
set_option maxRecDepth 100000 in
theorem slices_Index_string_string.calls (k : Nat) (A0 : Option Addr) (c0 : Nat) (l0 : List ByteArray) (a1 : ByteArray) (r : Int) (w : World) (hr0 : Kd.C Kd.string w A0 l0.length l0) (hc0 : l0.length ≤ c0) (h : slices_Index_string_string.f k l0 a1 = some r) :
  Calls Try.prog 98 #[.slice A0 l0.length c0, .string a1] w fun e w' => e = .returned (.int .i64 r) ∧ Drawn0 w w' := by
 have HR0 := Aside0.mk hr0
 have HC0 := Aside0.mk hc0
 clear hr0 hc0
 have H : (slices_Index_string_string.l0 k l0 a1 (l0.length : Int) 0) = some r := h
 clear h
 have H' := Aside0.mk H
 clear H
 go_enter Try.func98, Try.ntmps98
 go_wp2
 go_loopg [8] k (fun kq v8 w' => ∃ (x8_1 : Int), v8 = .int .i64 x8_1 ∧ Aside0 (slices_Index_string_string.l0 kq l0 a1 (l0.length : Int) x8_1 = some r) ∧ Aside0 (kq ≤ k) ∧ Drawn0 w w')
 case atStart => exact ⟨(0), (by first | rfl | (simp; done) | (simp [*]; done)), H', ⟨Nat.le_refl _⟩, by repeat (first | exact Drawn0.refl _ | apply Drawn0.step)⟩
 case round =>
  clear H'
  try clear p2
  obtain ⟨x8_1, rfl, HA, HK1, ⟨m1, rfl⟩⟩ := hrel
  cases gk with
  | zero => exact absurd HA.out (by simp [slices_Index_string_string.l0])
  | succ k1 =>
   have H := HA.out
   clear HA
   simp only [slices_Index_string_string.l0] at H
   by_cases c3 : x8_1 < (l0.length : Int)
   ·rw [if_pos c3] at H
    have c3b0 : decide (x8_1 < (l0.length : Int)) = true := decide_eq_true c3
    clear c3
    by_cases c4 : 0 ≤ x8_1
    ·rw [if_pos c4] at H
     have c4b0 : decide (0 ≤ x8_1) = true := decide_eq_true c4
     clear c4
     by_cases c5 : x8_1 < (l0.length : Int)
     ·rw [if_pos c5] at H
      have c5b0 : decide (x8_1 < (l0.length : Int)) = true := decide_eq_true c5
      clear c5
      by_cases c6 : a1.toList = (rdOf ByteArray.empty l0 x8_1).toList
      ·rw [if_pos c6] at H
       have c6b0 : (a1.toList == (rdOf ByteArray.empty l0 x8_1).toList) = true := beq_iff_eq.mpr c6
       have c6b1 : (a1.toList != (rdOf ByteArray.empty l0 x8_1).toList) = false := bne_eq_false_iff_eq.mpr c6
       clear c6
       obtain rfl := Option.some.inj H
       have p126 : 0 ≤ (x8_1 : Int) := of_decide_eq_true (by first | (with_reducible assumption) | assumption)
       have q126 : x8_1 < (l0.length : Int) := of_decide_eq_true (by first | (with_reducible assumption) | assumption)
       obtain ⟨ad126, e126, hx126_0⟩ := Kd.at_string HR0.out x8_1 p126 q126
       cases e126
       replace p126 := eq_true p126
       replace q126 := eq_true q126
       go_wp2
       go_ret
       exact ⟨by first | rfl | (simp; done) | (simp [*]; done), by repeat (first | exact Drawn0.refl _ | apply Drawn0.step)⟩
      ·rw [if_neg c6] at H
       have c6b0 : (a1.toList == (rdOf ByteArray.empty l0 x8_1).toList) = false := beq_eq_false_iff_ne.mpr c6
       have c6b1 : (a1.toList != (rdOf ByteArray.empty l0 x8_1).toList) = true := bne_iff_ne.mpr c6
       have H' := Aside0.mk H
       clear H
       have p126 : 0 ≤ (x8_1 : Int) := of_decide_eq_true (by first | (with_reducible assumption) | assumption)
       have q126 : x8_1 < (l0.length : Int) := of_decide_eq_true (by first | (with_reducible assumption) | assumption)
       obtain ⟨ad126, e126, hx126_0⟩ := Kd.at_string HR0.out x8_1 p126 q126
       cases e126
       replace p126 := eq_true p126
       replace q126 := eq_true q126
       go_wp2
       go_roundg k1
       case measure => have := HK1.out; omega
       case rel => exact ⟨(wrap64 (x8_1 + 1)), (by first | rfl | (simp; done) | (simp [*]; done)), H', ⟨by have := HK1.out; omega⟩, by repeat (first | exact Drawn0.refl _ | apply Drawn0.step)⟩
     ·rw [if_neg c5] at H
      exact absurd H (by simp)
    ·rw [if_neg c4] at H
     exact absurd H (by simp)
   ·rw [if_neg c3] at H
    have c3b0 : decide (x8_1 < (l0.length : Int)) = false := decide_eq_false c3
    clear c3
    obtain rfl := Option.some.inj H
    go_wp2
    go_ret
    exact ⟨by first | rfl | (simp; done) | (simp [*]; done), by repeat (first | exact Drawn0.refl _ | apply Drawn0.step)⟩
def slices_Contains_string_string.f (k : Nat) (l0 : List ByteArray) (a1 : ByteArray) : Option (Bool) := (slices_Index_string_string.f k l0 a1).bind fun t127 => (some (decide (t127 ≥ 0)))
set_option maxHeartbeats 8000000 in
set_option maxRecDepth 100000 in
theorem slices_Contains_string_string.calls (k : Nat) (A0 : Option Addr) (c0 : Nat) (l0 : List ByteArray) (a1 : ByteArray) (r : Bool) (w : World) (hr0 : Kd.C Kd.string w A0 l0.length l0) (hc0 : l0.length ≤ c0) (h : slices_Contains_string_string.f k l0 a1 = some r) :
  Calls Try.prog 90 #[.slice A0 l0.length c0, .string a1] w fun e w' => e = .returned (.bool r) ∧ Drawn0 w w' := by
 have HR0 := Aside0.mk hr0
 have HC0 := Aside0.mk hc0
 clear hr0 hc0
 have H : ((slices_Index_string_string.f k l0 a1).bind fun t127 => (some (decide (t127 ≥ 0)))) = some r := h
 clear h
 replace H := Option.bind_eq_some_iff.mp H
 obtain ⟨t127, A30, H⟩ := H
 replace H : (some (decide (t127 ≥ 0))) = some r := H
 have A3 := Aside0.mk A30
 clear A30
 obtain rfl := Option.some.inj H
 go_enter Try.func90, Try.ntmps90
 go_wp2_with (first | ((with_reducible refine gate_callee (f := 98) rfl ?_); refine goesL_ (some 7) rfl rfl Try.func98 (by kernel_rfl) rfl #[.slice A0 l0.length c0, .string a1] rfl (by (try simp only [List.map_toArray, List.map_cons, List.map_nil]); first | done | rfl | (simp only [List.length_drop, List.length_take]; rfl)) ?_; (with_reducible refine (slices_Index_string_string.calls k _ _ l0 a1 t127 _ ?side1 ?side2 A3.out).mono ?_); (case side1 => repeat (first | exact HR0.out | (with_reducible refine Kd.C_alloc ?_ _) | (with_reducible refine Kd.C_drewN ?_ _) | (with_reducible refine Kd.C_drew ?_))); (case side2 => exact HC0.out); rintro e w' ⟨rfl, ⟨nd, rfl⟩⟩; refine ⟨_, rfl, ?_⟩))
 go_ret
 exact ⟨by first | rfl | (simp; done) | (simp [*]; done), by repeat (first | exact Drawn0.refl _ | apply Drawn0.step)⟩
end Go.Proofs.Ytihpndignekheaa.F
end

section
namespace Go.Proofs.Ytihpndignekheaa.F
open Go.RowKit Go.Proofs.YtihpndignekheaaW.PrintWords Go.Proofs.YtihpndignekheaaW.PrintLast Go.Proofs.YtihpndignekheaaW.PrintMore
attribute [local go_sem] max2_int min2_int max_two min_two max_three min_three max_four min_four
set_option linter.unusedVariables false
set_option linter.unusedSimpArgs false
def faultV (why : ByteArray) : Value := .iface 122 (.string why)
theorem must_yes (why : ByteArray) (w : World) : Calls Try.prog 69 #[.bool true, .string why] w fun e w' => e = .returned (.tuple #[]) ∧ w' = w := by
 go_enter Try.func69, Try.ntmps69
 go_wp2
 exact ⟨rfl, _, results_none rfl _ _ _, rfl, rfl⟩
theorem must_no (why : ByteArray) (w : World) : Calls Try.prog 69 #[.bool false, .string why] w fun e w' => e = .panicked [{ v := faultV why, recovered := false }] ∧ w' = w := by
 go_enter Try.func69, Try.ntmps69
 go_wp2
 exact ⟨rfl, rfl, rfl⟩
def isName (s : ByteArray) (x : S79) : Bool := x.f0.toList == s.toList
def namedI (b : List S79) (s : ByteArray) : Int := idxF (isName s) b 0
set_option maxHeartbeats 2000000 in
set_option maxRecDepth 100000 in
theorem named1_lit (g : Nat) (s : ByteArray) (x : S79) (w : World) (cs : List Value) (hg : w.heap[g]? = some (.cells #[.string s] 9 (0, 0))) (hK : k79.K w x cs) : Calls Try.prog 75 #[.agg cs.toArray, .pointer (some ⟨g, 0, none⟩)] w fun e w' => e = .returned (.bool (isName s x)) ∧ Below w.heap.size w w' := by
 obtain ⟨A2, c2, A5, c5, rfl, l2, g2, l5, g5⟩ := k79_open hK
 have hc : (w.alloc (.cells #[.string x.f0, .string x.f1, .slice A2 x.f2.length c2, .bool x.f3, .bool x.f4, .slice A5 x.f5.length c5] 79)).cell? ⟨g, 0, none⟩ = some (.string s) := (blk_cell (blk_alloc hg _) 0).trans rfl
 clear hK l2 g2 l5 g5 hg
 go_enter Try.func75, Try.ntmps75
 go_wp2
 go_ret
 exact ⟨rfl, (Below.refl _ _).alloc (Nat.le_refl _) _⟩
set_option maxHeartbeats 4000000 in
set_option maxRecDepth 100000 in
theorem named_walk (A0 : Option Addr) (c0 : Nat) (b : List S79) (s : ByteArray) (w : World) (hr0 : Kd.C k79 w A0 b.length b) :
  Calls Try.prog 62 #[.agg #[.slice A0 b.length c0], .string s] w fun e w' => e = .returned (.int .i64 (namedI b s)) ∧ Below w.heap.size w w' := by
 have hmf : ∀ (fn : Fn) (first cap : Array Value) (w : World), (Instr.makeFunc fn first cap).run Try.prog w = .ok (.func fn first cap) w := fun _ _ _ _ => rfl
 have e1 : ∀ args w, (callFunc 75 args).run Try.prog w = .ok (.enter 75 args) w := enters_of Try.func75 (by kernel_rfl) rfl
 have HE := Aside0.mk e1
 have HR := Aside0.mk (Kd.C_alloc (Kd.C_alloc hr0 (.cells #[.slice A0 b.length c0] 82 (0, 0))) (.cells #[.string s] 9 (0, 0)))
 have HG := Aside0.mk (blk_new (w.alloc (.cells #[.slice A0 b.length c0] 82 (0, 0))) (.cells #[.string s] 9 (0, 0)))
 have HB := Aside0.mk (below_alloc (below_alloc (Below.refl w.heap.size w) (.cells #[.slice A0 b.length c0] 82 (0, 0))) (.cells #[.string s] 9 (0, 0)))
 clear hr0 e1
 go_enter Try.func62, Try.ntmps62
 go_wp2_with (go_at_call 74; refine (index_func_node 75 #[.pointer (some ⟨w.heap.size + 1, 0, none⟩)] HE.out (isName s) A0 c0 b _ HR.out ?hp).mono ?_; (case hp => intro j hj W hW cs hk; exact named1_lit (w.heap.size + 1) s _ W cs (by have h1 := HG.out; simp only [World.size_alloc] at h1; exact blk_below h1 hW) hk); rintro e w2 ⟨rfl, hb⟩; have HB2 := Aside0.mk (HB.out.trans (hb.mono (by simp; omega))); clear hb)
 go_ret
 exact ⟨rfl, HB2.out⟩
end Go.Proofs.Ytihpndignekheaa.F
end

section
namespace Go.Proofs.Ytihpndignekheaa.F
open Go.RowKit Go.Proofs.YtihpndignekheaaW.PrintWords Go.Proofs.YtihpndignekheaaW.PrintLast Go.Proofs.YtihpndignekheaaW.PrintMore
def roundPostP (P : Program) (l : Nat) (R : Ending → World → Prop) : Exit → Act → World → Prop
 | .panic ch, a, w => a.defers = [] ∧ R (.panicked ch) w
 | e, a, w => roundPost P l R e a w
theorem roundIn_of_wpInP {F : Fence} {n : Nat} {P : Program} {l : Nat} {f : FuncId} {tmps : Array Value} {assign body : Code} {w : World} {R : Ending → World → Prop} (hF : F.fn f) (hf : ∃ fn, P.funcs[f]? = some fn)
  (h : assign.wpIn (F.inRound l) n P (Exit.then (fun a₁ w₁ => ∃ w₂, (Instr.beginRound l).run P w₁ = .ok () w₂ ∧ body.wpIn (F.inRound l) n P (roundPostP P l R) a₁ w₂) (fun _ _ _ => False))
   { tmps := tmps, defers := [] } w) :
  RoundIn F n P l f tmps assign body w R := by
 refine ⟨hF, fun c cs hr => ?_⟩
 let b : Frame := { (default : Frame) with fn := f, kind := .normal, roundOf := some l }
 have hb0 : Frame.round l f tmps assign body .normal = b.atR { tmps := tmps, defers := [] } [.code assign, .beginRound, .code body] := by
  simp [Frame.round, Frame.atR, b]
 have hr' : (F.inRound l).room ((c :: cs).length + 1 + n) := hr
 have hF' : (F.inRound l).fn b.fn := hF
 obtain ⟨e, a₁, w₁, hq, harr⟩ := h b [.beginRound, .code body] (c :: cs) rfl hF' hr'
 rw [← hb0] at harr
 cases e with
 | normal =>
  obtain ⟨w₂, hbr, hbody⟩ := hq
  have s1 : StepsIn (Machine.fenced P (F.inRound l)) P (lone (b.atR a₁ [.beginRound, .code body]) (c :: cs) w₁) (lone (b.atR a₁ [.code body]) (c :: cs) w₂) :=
   .one (fenced_calm (fr := b.atR a₁ [.beginRound, .code body]) hF' hr' rfl) (stepR_beginRound rfl hbr)
  obtain ⟨e₂, a₂, w₃, hq₂, harr₂⟩ := hbody b [] (c :: cs) rfl hF' hr'
  cases e₂ with
  | normal =>
   obtain ⟨v, w₄, hend, hR⟩ := hq₂
   exact ⟨.returned v, w₄, hR, (StepsIn.trans harr s1).trans (StepsIn.trans harr₂ (.one (fenced_calm (fr := b.atR a₂ []) hF' hr' rfl) (stepR_round_end rfl rfl hend)))⟩
  | ret =>
   obtain ⟨v, w₄, hend, hR⟩ := hq₂
   obtain ⟨k₁, hs⟩ := harr₂.2 rfl
   exact ⟨.returned v, w₄, hR, (StepsIn.trans harr s1).trans (StepsIn.trans hs (.one (fenced_calm (fr := b.atR a₂ (.code .ret :: k₁)) hF' hr' rfl) (stepR_round_ret rfl rfl hend)))⟩
  | exit id =>
   obtain ⟨v, w₄, hend, hR⟩ := hq₂
   obtain ⟨k₁, hk, hs⟩ := harr₂.2 rfl rfl
   exact ⟨.returned v, w₄, hR, (StepsIn.trans harr s1).trans (StepsIn.trans hs (.one (fenced_calm (fr := b.atR a₂ (.code (.exit id) :: k₁)) hF' hr' rfl) (stepR_round_exit rfl rfl hk hend)))⟩
  | goto t =>
   obtain ⟨v, w₄, hend, hR⟩ := hq₂
   obtain ⟨k₁, hk, hs⟩ := harr₂.2 rfl rfl
   exact ⟨.returned v, w₄, hR, (StepsIn.trans harr s1).trans (StepsIn.trans hs (.one (fenced_calm (fr := b.atR a₂ (.code (.goto t) :: k₁)) hF' hr' rfl) (stepR_round_goto rfl rfl hk hend)))⟩
  | panic chain =>
   obtain ⟨hd, hR⟩ := hq₂
   obtain ⟨todo, hs⟩ := harr₂
   have hl : Frame.leaving P { b.atR a₂ todo with mode := .panicking chain } w₃ (.panicked chain) := ⟨rfl, hd, hf⟩
   exact ⟨.panicked chain, w₃, hR, (StepsIn.trans harr s1).trans (StepsIn.trans hs (.one (fenced_leaving hF' hr' hl) (step_leave_panicked hl)))⟩
  | outgrown => exact hq₂.elim
 | exit id => exact hq.elim
 | goto t => exact hq.elim
 | ret => exact hq.elim
 | panic chain => exact hq.elim
 | outgrown => exact hq.elim
structure KeepUp (B : Nat) (X X' : World) : Prop where
 size : X.heap.size ≤ X'.heap.size
 same : ∀ k, B ≤ k → k < X.heap.size → X'.heap[k]? = X.heap[k]?
theorem KeepUp.refl (B : Nat) (X : World) : KeepUp B X X := ⟨Nat.le_refl _, fun _ _ _ => rfl⟩
theorem KeepUp.trans {B : Nat} {X Y Z : World} (h : KeepUp B X Y) (k : KeepUp B Y Z) : KeepUp B X Z := ⟨Nat.le_trans h.size k.size, fun i hB hi => (k.same i hB (Nat.lt_of_lt_of_le hi h.size)).trans (h.same i hB hi)⟩
theorem KeepUp.mono {B B' : Nat} {X Y : World} (h : KeepUp B X Y) (hb : B ≤ B') : KeepUp B' X Y := ⟨h.size, fun i hi => h.same i (Nat.le_trans hb hi)⟩
theorem KeepUp.blk {B : Nat} {X Y : World} (h : KeepUp B X Y) {k : Nat} {o : Obj} (hB : B ≤ k) (hk : X.heap[k]? = some o) : Y.heap[k]? = some o := (h.same k hB (Array.getElem?_eq_some_iff.1 hk).1).trans hk
theorem KeepUp.of_below {B n : Nat} {X Y : World} (h : Below n X Y) (hn : X.heap.size ≤ n) : KeepUp B X Y := ⟨h.size, fun i _ hi => h.block i (Nat.lt_of_lt_of_le hi hn)⟩
theorem KeepUp.putObj {B l : Nat} {X : World} (o : Obj) (hl : l < B) : KeepUp B X (X.putObj l o) := ⟨by simp, fun k hk _ => World.putObj_heap_other (by omega)⟩
theorem below_putObj {n l : Nat} {X Y : World} (h : Below n X Y) (o : Obj) (hl : n ≤ l) : Below n X (Y.putObj l o) :=
 h.trans ⟨rfl, rfl, rfl, by simp, fun k hk => World.putObj_heap_other (by omega)⟩
def YieldP (n : Nat) (P : Program) (l : Nat) (args : Array Value) (W : World) (R : Ending → World → Prop) : Prop :=
 ∃ fn tmps assign body, (Instr.yield l args).run P W = .ok (.round l fn tmps assign body) W ∧ RoundIn Fence.wide n P l fn tmps assign body W R
def IterP {α : Type} (P : Program) (gf : Nat) (lb : Array Value) (VK : α → Array Value → Prop) (S : List α) (D : World → Prop) : Prop :=
 ∀ (l : Nat) (J : List α → World → Prop) (Jp : World → List PanicEntry → Prop) (W : World), J [] W → (∀ s X, J s X → D X) →
  (∀ s X X', J s X → Below W.heap.size X X' → J s X') → (∀ X X' ch, Jp X ch → Below W.heap.size X X' → Jp X' ch) →
  (∀ s v t args X, S = s ++ v :: t → J s X → VK v args → YieldP 0 P l args X fun e X' => KeepUp W.heap.size X X' ∧ ((e = .returned (.bool true) ∧ J (s ++ [v]) X') ∨ ∃ ch, e = .panicked ch ∧ Jp X' ch)) →
  CallsIn Fence.wide 0 P gf (#[.func (.yield l) #[] #[]] ++ lb) W fun e W' => (∃ v, e = .returned v ∧ J S W') ∨ ∃ ch, e = .panicked ch ∧ Jp W' ch
def roundQ {α : Type} (B : Nat) (J : List α → World → Prop) (Jp : World → List PanicEntry → Prop) (s : List α) (X : World) : Exit → Act → World → Prop
 | .normal, _, X' => KeepUp B X X' ∧ J s X'
 | .panic ch, a, X' => a.defers = [] ∧ KeepUp B X X' ∧ Jp X' ch
 | _, _, _ => False
def markOf (r : Nat) : Deferred := { target := .collected r, args := #[] }
def wpB (g : FuncId) (P : Program) (c : Code) (Q : Exit → Act → World → Prop) (a : Act) (w : World) : Prop :=
 ∀ (b : Frame) (k : List Item) (cs : List Frame), b.roundOf = none → b.fn = g → ∃ e a' w', Q e a' w' ∧ ArrivesIn (Machine.fenced P Fence.wide) P (lone (b.atR a (.code c :: k)) cs w) b k cs e a' w'
section
variable {g0 : FuncId} {P : Program} {Q : Exit → Act → World → Prop} {a : Act} {w : World}
theorem wpB_in {c : Code} (h : c.wpIn Fence.wide 0 P Q a w) : wpB g0 P c Q a w := fun b k cs hro _ => h b k cs hro trivial (room_wide _)
theorem wpB_seqB {x y : Code} (h : wpB g0 P x (Exit.then (wpB g0 P y Q) Q) a w) : wpB g0 P (.seq x y) Q a w := by
 intro b k cs hro hb
 have h0 : (lone (b.atR a (.code (.seq x y) :: k)) cs w).fenced P Fence.wide := fenced_wide _ _
 obtain ⟨e, a₁, w₁, hq, harr⟩ := h b (.code y :: k) cs hro hb
 cases e with
 | normal =>
  obtain ⟨e₂, a₂, w₂, hq₂, harr₂⟩ := hq b k cs hro hb
  exact ⟨e₂, a₂, w₂, hq₂, .of_steps (.head h0 stepR_seq harr) harr₂⟩
 | exit id => exact ⟨_, a₁, w₁, hq, .of_steps (.one h0 stepR_seq) (.pass (x := .code y) rfl (fun _ _ => .inl (by simp)) harr)⟩
 | goto l => exact ⟨_, a₁, w₁, hq, .of_steps (.one h0 stepR_seq) (.pass (x := .code y) rfl (fun _ _ => .inl (by simp)) harr)⟩
 | ret => exact ⟨_, a₁, w₁, hq, .of_steps (.one h0 stepR_seq) (.pass (x := .code y) rfl (fun _ _ => .inl (by simp)) harr)⟩
 | panic ch => exact ⟨_, a₁, w₁, hq, .of_steps (.one h0 stepR_seq) (.pass (x := .code y) rfl (fun _ _ => .inl (by simp)) harr)⟩
 | outgrown => exact ⟨_, a₁, w₁, hq, .of_steps (.one h0 stepR_seq) (.pass (x := .code y) rfl (fun _ _ => .inl (by simp)) harr)⟩
theorem wpB_seq {x y : Code} (h : x.wpIn Fence.wide 0 P (Exit.then (wpB g0 P y Q) Q) a w) : wpB g0 P (.seq x y) Q a w := wpB_seqB (wpB_in h)
theorem wpB_seq_k {x y : Code} (h : ∀ K : Act → World → Prop, Aside0 (∀ a w, wpB g0 P y Q a w → K a w) → x.wpIn Fence.wide 0 P (Exit.then K Q) a w) : wpB g0 P (.seq x y) Q a w := wpB_seq (h _ ⟨fun _ _ h => h⟩)
theorem wpB_block {id : Nat} {c : Code} (h : wpB g0 P c (Exit.inBlock id Q) a w) : wpB g0 P (.block id c) Q a w := by
 intro b k cs hro hb
 have h0 : (lone (b.atR a (.code (.block id c) :: k)) cs w).fenced P Fence.wide := fenced_wide _ _
 obtain ⟨e, a₁, w₁, hq, harr⟩ := h b (.inBlock id :: k) cs hro hb
 cases e with
 | normal => exact ⟨.normal, a₁, w₁, hq, .head h0 stepR_block (StepsIn.trans harr (.one (fenced_wide _ _) stepR_inBlock))⟩
 | exit id' =>
  by_cases hid : id' = id
  ·simp only [Exit.inBlock, hid, if_true] at hq
   exact ⟨.normal, a₁, w₁, hq, .head h0 stepR_block (harr.1 k (by simp [exitTo, hid]))⟩
  ·simp only [Exit.inBlock, hid, if_false] at hq
   have this : (id == id') = false := by simp; exact fun h => hid h.symm
   have hx : exitTo id' (.inBlock id :: k) = exitTo id' k := by simp [exitTo, this]
   exact ⟨.exit id', a₁, w₁, hq, fun k' hk => .head h0 stepR_block (harr.1 k' (by rw [hx]; exact hk)),
    fun hr' hk => let ⟨k₁, h1, h2⟩ := harr.2 hr' (by rw [hx]; exact hk); ⟨k₁, h1, .head h0 stepR_block h2⟩⟩
 | goto l =>
  have hx : gotoIn l (.inBlock id :: k) = gotoIn l k := by simp [gotoIn]
  exact ⟨_, a₁, w₁, hq, fun k' hk => .head h0 stepR_block (harr.1 k' (by rw [hx]; exact hk)),
   fun hr' hk => let ⟨k₁, h1, h2⟩ := harr.2 hr' (by rw [hx]; exact hk); ⟨k₁, h1, .head h0 stepR_block h2⟩⟩
 | ret => exact ⟨_, a₁, w₁, hq, .of_steps (.one h0 stepR_block) harr⟩
 | panic ch => exact ⟨_, a₁, w₁, hq, .of_steps (.one h0 stepR_block) harr⟩
 | outgrown => exact ⟨_, a₁, w₁, hq, .of_steps (.one h0 stepR_block) harr⟩
theorem wpB_loop {c : Code} (I : Act → World → Prop) (μ : Act → World → Nat) (h₀ : I a w)
  (round : ∀ a w, I a w → wpB g0 P c (Exit.then (fun a' w' => I a' w' ∧ μ a' w' < μ a w) Q) a w) : wpB g0 P (.loop c) Q a w := by
 intro b k cs hro hb
 have key : ∀ j a w, μ a w = j → I a w →
   ∃ e a' w', Q e a' w' ∧ ArrivesIn (Machine.fenced P Fence.wide) P (lone (b.atR a (.code c :: .inLoop c :: k)) cs w) b k cs e a' w' := by
  intro j
  induction j using Nat.strongRecOn with
  | _ j ih =>
   intro a w hn hI
   obtain ⟨e, a₁, w₁, hq, harr⟩ := round a w hI b (.inLoop c :: k) cs hro hb
   cases e with
   | normal =>
    obtain ⟨hI₁, hlt⟩ := hq
    obtain ⟨e₂, a₂, w₂, hq₂, harr₂⟩ := ih (μ a₁ w₁) (hn ▸ hlt) a₁ w₁ rfl hI₁
    exact ⟨e₂, a₂, w₂, hq₂, .of_steps (StepsIn.trans harr (.one (fenced_wide _ _) stepR_inLoop)) harr₂⟩
   | exit id => exact ⟨_, a₁, w₁, hq, .pass (x := .inLoop c) rfl (fun _ _ => .inl (by simp)) harr⟩
   | goto l => exact ⟨_, a₁, w₁, hq, .pass (x := .inLoop c) rfl (fun _ _ => .inl (by simp)) harr⟩
   | ret => exact ⟨_, a₁, w₁, hq, .pass (x := .inLoop c) rfl (fun _ _ => .inl (by simp)) harr⟩
   | panic ch => exact ⟨_, a₁, w₁, hq, .pass (x := .inLoop c) rfl (fun _ _ => .inl (by simp)) harr⟩
   | outgrown => exact ⟨_, a₁, w₁, hq, .pass (x := .inLoop c) rfl (fun _ _ => .inl (by simp)) harr⟩
 obtain ⟨e, a', w', hq, harr⟩ := key _ a w rfl h₀
 exact ⟨e, a', w', hq, .of_steps (.one (fenced_wide _ _) stepR_loop) harr⟩
theorem wpB_rangeFunc {g : Operand} {ps : Array Tmp} {assign body : Code}
  (h : ∃ (l : Nat) (mark : List Deferred) (w₁ : World) (d : Deferred) (w₁' : World) (f : FuncId) (args : Array Value) (w₂ : World),
   (Instr.enterLoop g0 a.tmps ps assign body none).run P w = .ok (l, mark) w₁ ∧
   (resolve a.eval (rangeCall g l) 0).run P w₁ = .ok d w₁' ∧
   (invoke d.target d.args).run P w₁' = .ok (.enter f args) w₂ ∧
   CallsIn Fence.wide 0 P f args w₂ (rangePost Fence.wide 0 P l Q { a with defers := mark ++ a.defers })) :
  wpB g0 P (Code.rangeFunc g ps assign body) Q a w := by
 intro b k cs hro hb
 obtain ⟨l, mark, w₁, d, w₁', f, args, w₂, he, hres, hinv, hF, hcall⟩ := h
 rw [← hro, ← hb] at he
 have henter := stepR_rangeFunc (P := P) (b := b) (a := a) (k := k) (cs := cs) (w := w) he hres hinv
 obtain ⟨e, w₃, fr, hR, hsteps, hfn, hleave⟩ := hcall (b.atR { a with defers := mark ++ a.defers } (.inRangeFunc l :: k) :: cs) (room_wide _)
 cases e with
 | outgrown =>
  obtain ⟨a₀, w₀, hq⟩ := hR
  exact ⟨.outgrown, a₀, w₀, hq, .inr (Outgrown.of_steps (.one henter) hsteps)⟩
 | returned v =>
  obtain ⟨jump, w₄, hend, hj⟩ := hR
  have sback : StepsIn (Machine.fenced P Fence.wide) P (lone (b.atR a (.code (.rangeFunc g ps assign body) :: k)) cs w) (lone (b.atR { a with defers := mark ++ a.defers } ((jump.map Item.code).toList ++ k)) cs w₄) := by
   refine .head (fenced_wide _ _) henter (StepsIn.trans hsteps (.head (fenced_wide _ _) ?_ (.one (fenced_wide _ _) (stepR_endRangeFunc hend))))
   rw [← finish_atR_inRangeFunc l v]; exact step_leave_returned hleave
  cases jump with
  | none => exact ⟨.normal, _, w₄, hj, sback⟩
  | some c =>
   obtain ⟨e', a'', w₅, hq, harr⟩ := hj b k cs hro trivial (room_wide _)
   exact ⟨e', a'', w₅, hq, .of_steps sback harr⟩
 | panicked chain =>
  refine ⟨.panic chain, _, w₃, hR, .inRangeFunc l :: k, .head (fenced_wide _ _) henter (StepsIn.trans hsteps (.one (fenced_wide _ _) ?_))⟩
  rw [← Frame.raise_atR]; exact step_leave_panicked hleave
theorem callsIn_of_wpB {f : FuncId} {fn : Func} {c : Code} {args : Array Value} {R : Ending → World → Prop}
  (hf : P.funcs[f]? = some fn) (hb : fn.body = some c)
  (h : wpB f P c (bodyPostM Fence.wide 0 P fn R) { tmps := args ++ Array.replicate (fn.ntmps - args.size) undef, defers := [] } w) : CallsIn Fence.wide 0 P f args w R := by
 refine ⟨trivial, fun cs hr => ?_⟩
 let b : Frame := { (default : Frame) with fn := f, kind := .normal, roundOf := none }
 have henter : Frame.enter P f args .normal =
   b.atR { tmps := args ++ Array.replicate (fn.ntmps - args.size) undef, defers := [] } [.code c] := by
  simp [Frame.enter, Frame.atR, hf, hb, b]
 have hF : Fence.wide.fn f := trivial
 obtain ⟨e, a', w', hq, harr⟩ := h b [] cs rfl rfl
 rw [← henter] at harr
 cases e with
 | normal =>
  obtain ⟨e', w'', fr', hR, hs, hfn, hl⟩ := leaves_stepsInM a'.defers .returning w' { b.atR a' [] with mode := .returning } cs rfl rfl rfl hf rfl hF hr hq
  exact ⟨e', w'', fr', hR, ComesIn.of_steps (StepsIn.trans harr (.one (fenced_calm (fr := b.atR a' []) hF hr rfl) (stepR_end rfl))) hs, hfn, hl⟩
 | ret =>
  obtain ⟨todo, hs₀⟩ := harr.1 rfl
  obtain ⟨e', w'', fr', hR, hs, hfn, hl⟩ := leaves_stepsInM a'.defers .returning w' { b.atR a' todo with mode := .returning } cs rfl rfl rfl hf rfl hF hr hq
  exact ⟨e', w'', fr', hR, ComesIn.of_steps hs₀ hs, hfn, hl⟩
 | panic chain =>
  obtain ⟨todo, hs₀⟩ := harr
  obtain ⟨e', w'', fr', hR, hs, hfn, hl⟩ := leaves_stepsInM a'.defers (.panicking chain) w' { b.atR a' todo with mode := .panicking chain } cs rfl rfl rfl hf rfl hF hr hq
  exact ⟨e', w'', fr', hR, ComesIn.of_steps hs₀ hs, hfn, hl⟩
 | exit id => exact hq.elim
 | goto l => exact hq.elim
 | outgrown => exact ⟨.outgrown, w', b, hq, harr.resolve_left (by simp [b]), rfl, trivial⟩
end
theorem wpB_rangeFuncP {α : Type} {P : Program} {g0 : FuncId} {g : Operand} {ps : Array Tmp} {assign body : Code} {Q : Exit → Act → World → Prop} {a : Act} {w : World}
  {gf : Nat} {lb : Array Value} (hg : a.eval g = .func (.func gf) #[] lb) (eg : ∀ args w, (callFunc gf args).run P w = .ok (.enter gf args) w)
  (hf0 : ∃ f, P.funcs[g0]? = some f)
  {VK : α → Array Value → Prop} {S : List α} {D : World → Prop} (hIter : IterP P gf lb VK S D) (hsz : ∀ v args, VK v args → args.size = ps.size)
  (J : List α → World → Prop) (Jp : World → List PanicEntry → Prop) (h0 : J [] w) (hD : ∀ s X, J s X → D X)
  (hst : ∀ s X X', J s X → Below w.heap.size X X' → J s X') (hstp : ∀ X X' ch, Jp X ch → Below w.heap.size X X' → Jp X' ch)
  (hround : ∀ (l : Nat) s v t args X, S = s ++ v :: t → w.heap.size ≤ l → l < X.heap.size → J s X → VK v args → assign.wpIn (Fence.wide.inRound l) 0 P (Exit.then (fun a₁ X₁ => Below X.heap.size X X₁ ∧
   ∀ X₂, KeepUp (l + 1) X₁ X₂ → Below l X₁ X₂ → body.wpIn (Fence.wide.inRound l) 0 P (roundQ w.heap.size J Jp (s ++ [v]) X₂) a₁ X₂) (fun _ _ _ => False))
   { tmps := (ps.zip args).foldl (fun t (p, v) => t.setIfInBounds p v) a.tmps, defers := [] } X)
  (hdone : ∀ (d : Nat) (W : World), w.heap.size ≤ d → J S W → W.heap[d]? = some (.deferred (some [])) → Q .normal { a with defers := markOf d :: a.defers } W)
  (hpanic : ∀ (d : Nat) (ch : List PanicEntry) (W : World), w.heap.size ≤ d → Jp W ch → W.heap[d]? = some (.deferred (some [])) → Q (.panic ch) { a with defers := markOf d :: a.defers } W) :
  wpB g0 P (Code.rangeFunc g ps assign body) Q a w := by
 refine wpB_rangeFunc ?_
 obtain ⟨rec, hrec⟩ : ∃ rec : LoopState → Option Code → Loop, rec = fun st pe => { state := st, pending := pe, fn := g0, tmps := a.tmps, params := ps, assign, body, defers := w.heap.size } := ⟨_, rfl⟩
 obtain ⟨W1, hW1⟩ : ∃ W1, (w.alloc (.deferred (some []))).alloc (.loop (rec .ready none)) = W1 := ⟨_, rfl⟩
 have hL1 : W1.heap[w.heap.size + 1]? = some (.loop (rec .ready none)) := by
  rw [← hW1]; have := World.alloc_heap_new (w.alloc (.deferred (some []))) (.loop (rec .ready none)); rwa [World.size_alloc] at this
 have hK1 : W1.heap[w.heap.size]? = some (.deferred (some [])) := by
  rw [← hW1]; exact (Below.heap_alloc _ _ _ (by simp)).trans (World.alloc_heap_new w _)
 have hB1 : Below w.heap.size w W1 := by rw [← hW1]; exact ((Below.refl _ w).alloc (Nat.le_refl _) _).alloc (by simp) _
 have hS1 : W1.heap.size = w.heap.size + 2 := by rw [← hW1]; simp
 refine ⟨w.heap.size + 1, [{ target := .collected w.heap.size, args := #[] }], W1, { target := .fn (.func gf) lb, args := #[.func (.yield (w.heap.size + 1)) #[] #[]] }, W1, gf,
  #[.func (.yield (w.heap.size + 1)) #[] #[]] ++ lb, W1, ?_, ?_, ?_, ?_⟩
 ·rw [← hW1, hrec]; exact run_enterLoop_outer _ _ _ _ _
 ·simp only [resolve, hg]
  simp [go_sem]
 ·simp [invoke, go_sem, eg]
 ·refine (hIter (w.heap.size + 1)
   (fun s X => J s X ∧ X.heap[w.heap.size + 1]? = some (.loop (rec .ready none)) ∧ X.heap[w.heap.size]? = some (.deferred (some [])))
   (fun X ch => Jp X ch ∧ X.heap[w.heap.size]? = some (.deferred (some [])))
   W1 ⟨hst _ _ _ h0 hB1, hL1, hK1⟩ (fun s X h => hD s X h.1)
   (fun s X X' h hb => ⟨hst _ _ _ h.1 (hb.mono (by omega)), (hb.block _ (by omega)).trans h.2.1, (hb.block _ (by omega)).trans h.2.2⟩)
   (fun X X' ch h hb => ⟨hstp _ _ _ h.1 (hb.mono (by omega)), (hb.block _ (by omega)).trans h.2⟩) ?_).mono ?_
  ·rintro s v t args X hS ⟨hj, hl, hk⟩ hv
   have hlt : w.heap.size + 1 < X.heap.size := (Array.getElem?_eq_some_iff.1 hl).1
   have hy := run_yield (P := P) (args := args) hl (by rw [hrec]; exact hsz v args hv)
   rw [hrec] at hy
   refine ⟨g0, _, assign, body, hy, roundIn_of_wpInP trivial hf0 (wpIn_mono (hround (w.heap.size + 1) s v t args X hS (by omega) hlt hj hv) ?_)⟩
   rintro e a₁ X₁ h1
   cases e with
   | normal =>
    obtain ⟨hb1, hbody⟩ := h1
    have hl1 : X₁.heap[w.heap.size + 1]? = some (.loop (rec .ready none)) := (hb1.block _ hlt).trans hl
    have hlt1 := (Array.getElem?_eq_some_iff.1 hl1).1
    refine ⟨_, run_beginRound hl1 (by rw [hrec]), ?_⟩
    obtain ⟨X₂, hX₂⟩ : ∃ X₂, X₁.putObj (w.heap.size + 1) (.loop { rec .ready none with state := .busy }) = X₂ := ⟨_, rfl⟩
    rw [hX₂]
    have hk2 : X₂.heap[w.heap.size]? = some (.deferred (some [])) := by rw [← hX₂]; exact (World.putObj_heap_other (by omega)).trans ((hb1.block _ (by omega)).trans hk)
    have hl2 : X₂.heap[w.heap.size + 1]? = some (.loop { rec .ready none with state := .busy }) := by rw [← hX₂]; exact World.putObj_heap_same hlt1
    have hku : KeepUp (w.heap.size + 2) X X₂ := by rw [← hX₂]; exact (KeepUp.of_below hb1 (Nat.le_refl _)).trans (KeepUp.putObj _ (by omega))
    refine wpIn_mono (hbody X₂ (by rw [← hX₂]; exact KeepUp.putObj _ (by omega)) (by rw [← hX₂]; exact below_putObj (Below.refl _ _) _ (Nat.le_refl _))) ?_
    rintro e₂ a₂ X₃ h2
    cases e₂ with
    | normal =>
     obtain ⟨hk3, hj3⟩ := h2
     have hl3 := hk3.blk (by omega) hl2
     have hr := run_endRound (P := P) none hl3
     refine ⟨_, _, hr, by rw [hS1]; exact (hku.trans (hk3.mono (by omega))).trans (KeepUp.putObj _ (by omega)), .inl ⟨rfl, ?_, ?_, ?_⟩⟩
     ·exact hst _ _ _ hj3 (below_putObj (Below.refl _ _) _ (by omega))
     ·rw [World.putObj_heap_same (Array.getElem?_eq_some_iff.1 hl3).1, hrec]; rfl
     ·exact (World.putObj_heap_other (by omega)).trans (hk3.blk (by omega) hk2)
    | panic ch =>
     obtain ⟨hd, hk3, hp3⟩ := h2
     exact ⟨hd, by rw [hS1]; exact hku.trans (hk3.mono (by omega)), .inr ⟨ch, rfl, hp3, hk3.blk (by omega) hk2⟩⟩
    | ret => exact h2.elim
    | exit id => exact h2.elim
    | goto t => exact h2.elim
    | outgrown => exact h2.elim
   | exit id => exact h1.elim
   | goto t => exact h1.elim
   | ret => exact h1.elim
   | panic ch => exact h1.elim
   | outgrown => exact h1.elim
  ·rintro e W2 (⟨v, rfl, hj, hl, hk⟩ | ⟨ch, rfl, hp, hk⟩)
   ·refine ⟨none, _, by have := run_endLoop (P := P) hl (by rw [hrec]; simp); rw [hrec] at this; exact this, hdone w.heap.size _ (Nat.le_refl _) (hst _ _ _ hj (below_putObj (Below.refl _ _) _ (by omega))) ((World.putObj_heap_other (by omega)).trans hk)⟩
   ·exact hpanic w.heap.size ch W2 (Nat.le_refl _) hp hk
end Go.Proofs.Ytihpndignekheaa.F
end

section
namespace Go.Proofs.Ytihpndignekheaa.F
open Go.RowKit Go.Proofs.YtihpndignekheaaW.PrintWords Go.Proofs.YtihpndignekheaaW.PrintLast Go.Proofs.YtihpndignekheaaW.PrintMore
attribute [local go_sem] max2_int min2_int max_two min_two max_three min_three max_four min_four
set_option linter.unusedVariables false
set_option linter.unusedSimpArgs false
attribute [local go_sem] Oper.semAt_some
structure Vis where
 n : S79
 b : S82
 d : Int
mutual
def visNode (b : S82) (d : Int) : S79 → List Vis
 | ⟨nm, un, af, sb, vi, al⟩ => ⟨⟨nm, un, af, sb, vi, al⟩, b, d⟩ :: visAlts (wrap64 (d + 1)) al
def visNodes (b : S82) (d : Int) : List S79 → List Vis
 | [] => []
 | x :: l => visNode b d x ++ visNodes b d l
def visBody (d : Int) : SB82 S79 → List Vis
 | ⟨l⟩ => visNodes ⟨l⟩ d l
def visAlts (d : Int) : List (SB82 S79) → List Vis
 | [] => []
 | b :: l => visBody d b ++ visAlts d l
end
def VK (w0 : World) (v : Vis) (args : Array Value) : Prop := ∃ A2 c2 A5 c5 A6 c6, args = #[.agg #[.string v.n.f0, .string v.n.f1, .slice A2 v.n.f2.length c2, .bool v.n.f3, .bool v.n.f4, .slice A5 v.n.f5.length c5, .slice A6 v.b.f0.length c6, .int .i64 v.d]] ∧
 v.n.f2.length ≤ c2 ∧ Kd.string.C w0 A2 v.n.f2.length v.n.f2 ∧ v.n.f5.length ≤ c5 ∧ k82.C w0 A5 v.n.f5.length v.n.f5
theorem visNode_eq (b : S82) (d : Int) (x : S79) : visNode b d x = ⟨x, b, d⟩ :: visAlts (wrap64 (d + 1)) x.f5 := by cases x; simp [visNode]
theorem visAlts_take (d : Int) (l : List S82) (i : Nat) (h : i < l.length) : visAlts d (l.take (i + 1)) = visAlts d (l.take i) ++ visNodes l[i] d l[i].f0 := by
 induction l generalizing i with
 | nil => simp at h
 | cons b l ih =>
  cases i with
  | zero => cases b; simp [visAlts, visBody]
  | succ i =>
   simp only [List.take_succ_cons, visAlts, List.getElem_cons_succ]
   rw [ih i (by simpa using h), List.append_assoc]
theorem visNodes_take (b : S82) (d : Int) (l : List S79) (i : Nat) (h : i < l.length) : visNodes b d (l.take (i + 1)) = visNodes b d (l.take i) ++ (⟨l[i], b, d⟩ :: visAlts (wrap64 (d + 1)) l[i].f5) := by
 induction l generalizing i with
 | nil => simp at h
 | cons x l ih =>
  cases i with
  | zero => simp [visNodes, visNode_eq]
  | succ i =>
   simp only [List.take_succ_cons, visNodes, List.getElem_cons_succ]
   rw [ih i (by simpa using h), List.append_assoc]
theorem visAlts_append (d : Int) (l l2 : List S82) : visAlts d (l ++ l2) = visAlts d l ++ visAlts d l2 := by
 induction l with
 | nil => simp [visAlts]
 | cons b l ih => simp only [List.cons_append, visAlts, ih, List.append_assoc]
theorem visNodes_append (b : S82) (d : Int) (l l2 : List S79) : visNodes b d (l ++ l2) = visNodes b d l ++ visNodes b d l2 := by
 induction l with
 | nil => simp [visNodes]
 | cons x l ih => simp only [List.cons_append, visNodes, ih, List.append_assoc]
theorem visAlts_split (d : Int) (l : List S82) (i : Nat) (h : i < l.length) : visAlts d l = visAlts d (l.take i) ++ (visNodes l[i] d l[i].f0 ++ visAlts d (l.drop (i + 1))) := by
 have e : l = l.take (i + 1) ++ l.drop (i + 1) := (List.take_append_drop _ _).symm
 rw [← List.append_assoc, ← visAlts_take d l i h, ← visAlts_append, List.take_append_drop]
theorem visNodes_split (b : S82) (d : Int) (l : List S79) (i : Nat) (h : i < l.length) : visNodes b d l = visNodes b d (l.take i) ++ (⟨l[i], b, d⟩ :: (visAlts (wrap64 (d + 1)) l[i].f5 ++ visNodes b d (l.drop (i + 1)))) := by
 have e := visNodes_take b d l i h
 have e2 : visNodes b d l = visNodes b d (l.take (i + 1)) ++ visNodes b d (l.drop (i + 1)) := by rw [← visNodes_append, List.take_append_drop]
 rw [e2, e, List.append_assoc, List.cons_append]
structure Marks (B : Nat) (X : World) (ds : List Nat) : Prop where
 nodup : ds.Nodup
 here : ∀ r, r ∈ ds → B ≤ r ∧ X.heap[r]? = some (.deferred (some []))
theorem Marks.nil (B : Nat) (X : World) : Marks B X [] := ⟨List.nodup_nil, fun r h => by cases h⟩
theorem Marks.keep {B : Nat} {X X' : World} {ds : List Nat} (h : Marks B X ds) (hk : KeepUp B X X') : Marks B X' ds := ⟨h.nodup, fun r hr => ⟨(h.here r hr).1, hk.blk (h.here r hr).1 (h.here r hr).2⟩⟩
theorem Marks.below {B n : Nat} {X X' : World} {ds : List Nat} (h : Marks B X ds) (hb : Below n X X') (hlt : ∀ r ∈ ds, r < n) : Marks B X' ds := ⟨h.nodup, fun r hr => ⟨(h.here r hr).1, (hb.block r (hlt r hr)).trans (h.here r hr).2⟩⟩
theorem Marks.lt {B : Nat} {X : World} {ds : List Nat} (h : Marks B X ds) : ∀ r ∈ ds, r < X.heap.size := fun r hr => (Array.getElem?_eq_some_iff.1 (h.here r hr).2).1
theorem Marks.cons {B d : Nat} {X : World} {ds : List Nat} (h : Marks B X ds) (hd : B ≤ d) (hn : d ∉ ds) (hh : X.heap[d]? = some (.deferred (some []))) : Marks B X (d :: ds) :=
 ⟨List.nodup_cons.2 ⟨hn, h.nodup⟩, fun r hr => (List.mem_cons.1 hr).elim (fun e => by subst e; exact ⟨hd, hh⟩) (fun hr => h.here r hr)⟩
theorem leaves_marks {P : Program} {fn : Func} {tmps : Array Value} {R : Ending → World → Prop} {B : Nat} (u : FrameMode) (hu : u ≠ .run) : ∀ (ds : List Nat) (w : World), Marks B w ds → (∀ W, Below B w W → LeavesInM Fence.wide 0 P fn tmps R [] u W) → LeavesInM Fence.wide 0 P fn tmps R (ds.map markOf) u w
 | [], w, _, h => h w (Below.refl _ _)
 | r :: ds, w, hm, h => by
  have h1 := hm.here r List.mem_cons_self
  refine ⟨hu, .inl ⟨r, w.putObj r (.deferred none), rfl, run_takeDeferred h1.2, ?_⟩⟩
  have hb : Below B w (w.putObj r (.deferred none)) := below_putObj (Below.refl _ _) _ h1.1
  refine leaves_marks u hu ds _ ⟨(List.nodup_cons.1 hm.nodup).2, fun r' hr' => ⟨(hm.here r' (List.mem_cons_of_mem _ hr')).1, ?_⟩⟩ (fun W hW => h W (hb.trans hW))
  exact (World.putObj_heap_other (fun e => by subst e; exact (List.nodup_cons.1 hm.nodup).1 hr')).trans (hm.here r' (List.mem_cons_of_mem _ hr')).2
def NodesD (b1 b2 : Nat) (deep : Int) (A : Option Addr) (c : Nat) (l : List S82) (w0 X : World) : Prop := Below w0.heap.size w0 X ∧ X.heap[b1]? = some (.cells #[.slice A l.length c] 77 (0, 0)) ∧ X.heap[b2]? = some (.cells #[.int .i64 deep] 3 (0, 0))
def NodesC (l : List S82) : Prop := ∀ (deep : Int) (A : Option Addr) (c b1 b2 : Nat) (w0 : World), k82.C w0 A l.length l → l.length ≤ c →
 IterP Try.prog 82 #[.pointer (some ⟨b1, 0, none⟩), .pointer (some ⟨b2, 0, none⟩)] (VK w0) (visAlts deep l) (NodesD b1 b2 deep A c l w0)
theorem nodes_call (A : Option Addr) (n c : Nat) (deep : Int) (w : World) : CallsIn Fence.wide 0 Try.prog 73 #[.slice A n c, .int .i64 deep] w fun e w' => e = .returned (.func (.func 82) #[] #[.pointer (some ⟨w.heap.size, 0, none⟩), .pointer (some ⟨w.heap.size + 1, 0, none⟩)]) ∧ w' = (w.alloc (.cells #[.slice A n c] 77 (0, 0))).alloc (.cells #[.int .i64 deep] 3 (0, 0)) := by
 refine callsIn_wide.2 ?_
 have hmf : ∀ (fn : Fn) (first cap : Array Value) (w : World), (Instr.makeFunc fn first cap).run Try.prog w = .ok (.func fn first cap) w := fun _ _ _ _ => rfl
 go_enter Try.func73, Try.ntmps73
 go_wp2
 go_ret
 exact ⟨rfl, rfl⟩
set_option maxHeartbeats 16000000 in
set_option maxRecDepth 100000 in
theorem nodes_walk (l : List S82) (ih : ∀ b ∈ l, ∀ x ∈ b.f0, NodesC x.f5) : NodesC l := by
 intro deep A c b1 b2 w0 hC hc ly J Jp W hJ0 hD hst hstp hY
 have HC := Aside0.mk hC
 have HM := Aside0.mk (Kd.C_max hC)
 have HIH := Aside0.mk ih
 have HD := Aside0.mk hD
 have HST := Aside0.mk hst
 have HSTP := Aside0.mk hstp
 have HY := Aside0.mk hY
 have hJ1 := hst _ _ _ hJ0 ((Below.refl W.heap.size W).alloc (Nat.le_refl _) (.cells #[.func (.yield ly) #[] #[]] 140 (0, 0)))
 have HJ1 := Aside0.mk hJ1
 have hd := hD _ _ hJ1
 have c1 : (W.alloc (.cells #[.func (.yield ly) #[] #[]] 140 (0, 0))).cell? ⟨b1, 0, none⟩ = some (.slice A l.length c) := (blk_cell hd.2.1 0).trans rfl
 clear hJ1 hd hC hc ih hD hst hstp hY hJ0
 refine callsIn_of_wpB Try.func82 rfl ?_
 simp only [Try.ntmps82, List.size_toArray, List.length_cons, List.length_nil, Nat.reduceAdd, Nat.reduceSub, Array.replicate_succ, Array.replicate_zero, List.push_toArray, List.append_toArray, List.nil_append, List.cons_append]
 (refine wpB_seq_k (fun K hK => ?_); gi_wp2; refine hK.out _ _ ?_; clear hK K)
 (refine wpB_seq_k (fun K hK => ?_); gi_wp2; refine hK.out _ _ ?_; clear hK K)
 refine wpB_block (wpB_loop (fun a' w' => ∃ (i : Nat) (ds : List Nat) (u4 u5 u6 u7 u8 u12 u13 u14 u15 u16 u17 u18 u19 u20 u21 u22 u23 u24 u25 u26 u27 u28 u29 u30 u31 u32 u33 u34 u35 u36 u37 u38 u39 u40 : Value), (i ≤ l.length ∧ Aside0 (J (visAlts deep (l.take i)) w') ∧ Aside0 (Marks W.heap.size w' ds) ∧ Aside0 (w'.heap[W.heap.size]? = some (.cells #[.func (.yield ly) #[] #[]] 140 (0, 0))) ∧ Aside0 (W.heap.size ≤ w'.heap.size)) ∧ a' = { tmps := #[.func (.yield ly) #[] #[], .pointer (some ⟨b1, 0, none⟩), .pointer (some ⟨b2, 0, none⟩), .pointer (some ⟨W.heap.size, 0, none⟩), u4, u5, u6, u7, u8, .slice A l.length c, .int .i64 l.length, .int .i64 (i : Nat), u12, u13, u14, u15, u16, u17, u18, u19, u20, u21, u22, u23, u24, u25, u26, u27, u28, u29, u30, u31, u32, u33, u34, u35, u36, u37, u38, u39, u40], defers := ds.map markOf }) (fun a' _ => l.length - (intOf (a'.tmps.getD 11 undef)).toNat) ?_ ?_)
 ·refine ⟨0, [], ?_⟩
  (repeat apply Exists.intro)
  exact ⟨⟨by omega, HJ1, ⟨Marks.nil _ _⟩, ⟨blk_new W _⟩, ⟨by simp⟩⟩, rfl⟩
 rintro _ wr ⟨i, ds, u4, u5, u6, u7, u8, u12, u13, u14, u15, u16, u17, u18, u19, u20, u21, u22, u23, u24, u25, u26, u27, u28, u29, u30, u31, u32, u33, u34, u35, u36, u37, u38, u39, u40, ⟨hi, HJ, HMK, H3, HSZ⟩, rfl⟩
 have hm := HM.out
 by_cases hlt : i < l.length
 ·have hd := HD.out _ _ HJ.out
  obtain ⟨ad, Ab, cb, e0, x0, l0, g0⟩ := at_T82 HC.out (i : Int) (by omega) (by omega)
  rw [Int.toNat_natCast] at x0
  have hrd : rd_T82 l (i : Int) = l[i] := by unfold rd_T82; rw [Int.toNat_natCast, List.getD_eq_getElem?_getD, List.getElem?_eq_getElem hlt]; rfl
  rw [hrd] at x0 l0 g0
  have y0 := (hd.1.cell (World.block_lt_of_cell? w0 _ x0)).trans x0
  subst e0
  obtain ⟨b, hb⟩ : ∃ b, l[i] = b := ⟨_, rfl⟩
  rw [hb] at x0 l0 g0 y0
  have HTK : Aside0 (visAlts deep (l.take (i + 1)) = visAlts deep (l.take i) ++ visNodes b deep b.f0) := ⟨by rw [visAlts_take deep l i hlt, hb]⟩
  have HSP : Aside0 (visAlts deep l = visAlts deep (l.take i) ++ (visNodes b deep b.f0 ++ visAlts deep (l.drop (i + 1)))) := ⟨by rw [visAlts_split deep l i hlt, hb]⟩
  have HIHB : Aside0 (∀ x ∈ b.f0, NodesC x.f5) := ⟨fun x hx => HIH.out l[i] (List.getElem_mem hlt) x (hb ▸ hx)⟩
  have HG0 := Aside0.mk g0
  have HL0 := Aside0.mk l0
  have HMB := Aside0.mk (Kd.C_max g0)
  have hlt' : (i : Int) < (l.length : Int) := by omega
  have h0' : (0 : Int) ≤ i := by omega
  have hJ2 := HST.out _ _ _ HJ.out ((Below.refl W.heap.size wr).alloc HSZ.out (.cells #[.slice Ab b.f0.length cb] 82 (0, 0)))
  have HJ2 := Aside0.mk hJ2
  have HM2 := Aside0.mk (HMK.out.keep (KeepUp.of_below ((Below.refl wr.heap.size wr).alloc (Nat.le_refl _) (.cells #[.slice Ab b.f0.length cb] 82 (0, 0))) (Nat.le_refl _)))
  have H32 := Aside0.mk (blk_below H3.out ((Below.refl wr.heap.size wr).alloc (Nat.le_refl _) (.cells #[.slice Ab b.f0.length cb] 82 (0, 0))))
  obtain ⟨bb, hbb⟩ : ∃ bb, wr.heap.size = bb := ⟨_, rfl⟩
  have HBB : Aside0 (wr.heap.size = bb) := ⟨hbb⟩
  clear hd x0 l0 g0 hrd hJ2 hbb
  (refine wpB_seq_k (fun K hK => ?_); gi_wp2; refine hK.out _ _ ?_; clear hK K)
  (refine wpB_seq_k (fun K hK => ?_); gi_wp2; refine hK.out _ _ ?_; clear hK K)
  refine wpB_seqB (wpB_block ?_)
  (refine wpB_seq_k (fun K hK => ?_); gi_wp2; refine hK.out _ _ ?_; clear hK K)
  (refine wpB_seq_k (fun K hK => ?_); gi_wp2; refine hK.out _ _ ?_; clear hK K)
  rw [HBB.out]
  refine wpB_block (wpB_loop (fun a' w' => ∃ (j : Nat) (ds : List Nat) (u4 u6 u7 u8 u12 u13 u14 u15 u19 u20 u21 u22 u23 u24 u25 u26 u27 u28 u29 u30 u31 u32 u33 u34 u35 u36 u37 u38 u39 u40 : Value), (j ≤ b.f0.length ∧ Aside0 (J (visAlts deep (l.take i) ++ visNodes b deep (b.f0.take j)) w') ∧ Aside0 (Marks W.heap.size w' ds) ∧ Aside0 (w'.heap[W.heap.size]? = some (.cells #[.func (.yield ly) #[] #[]] 140 (0, 0))) ∧ Aside0 (w'.heap[bb]? = some (.cells #[.slice Ab b.f0.length cb] 82 (0, 0))) ∧ Aside0 (W.heap.size ≤ w'.heap.size)) ∧ a' = { tmps := #[.func (.yield ly) #[] #[], .pointer (some ⟨b1, 0, none⟩), .pointer (some ⟨b2, 0, none⟩), .pointer (some ⟨W.heap.size, 0, none⟩), u4, .pointer (some ⟨bb, 0, none⟩), u6, u7, u8, .slice (some ad) l.length c, .int .i64 l.length, .int .i64 (i : Nat), u12, u13, u14, u15, .slice Ab b.f0.length cb, .int .i64 b.f0.length, .int .i64 (j : Nat), u19, u20, u21, u22, u23, u24, u25, u26, u27, u28, u29, u30, u31, u32, u33, u34, u35, u36, u37, u38, u39, u40], defers := ds.map markOf }) (fun a' _ => b.f0.length - (intOf (a'.tmps.getD 18 undef)).toNat) ?_ ?_)
  ·refine ⟨0, ds, ?_⟩
   (repeat apply Exists.intro)
   exact ⟨⟨by omega, ⟨by simpa [visNodes] using HJ2.out⟩, HM2, H32, ⟨by rw [← HBB.out]; exact blk_new wr _⟩, ⟨by have := HSZ.out; simp; omega⟩⟩, rfl⟩
  clear HJ HMK H3 HJ2 HM2 H32 y0 hm
  have HLT := Aside0.mk hlt
  have HBS : Aside0 (W.heap.size ≤ bb) := ⟨by rw [← HBB.out]; exact HSZ.out⟩
  clear HSZ HBB
  rename_i _
  rintro _ wq ⟨j, ds2, u4, u6, u7, u8, u12, u13, u14, u15, u19, u20, u21, u22, u23, u24, u25, u26, u27, u28, u29, u30, u31, u32, u33, u34, u35, u36, u37, u38, u39, u40, ⟨hj, HJ, HMK, H3, H5, HSZ⟩, rfl⟩
  have hm := HMB.out
  by_cases hlj : j < b.f0.length
  ·have hd := HD.out _ _ HJ.out
   obtain ⟨ad2, A2, c2, A5, c5, e1, x0, x1, x2, x3, x4, x5, l2, g2, l5, g5⟩ := at_T79 HG0.out (j : Int) (by omega) (by omega)
   rw [Int.toNat_natCast] at x0 x1 x2 x3 x4 x5
   have hrd : rd_T79 b.f0 (j : Int) = b.f0[j] := by unfold rd_T79; rw [Int.toNat_natCast, List.getD_eq_getElem?_getD, List.getElem?_eq_getElem hlj]; rfl
   rw [hrd] at x0 x1 x2 x3 x4 x5 l2 g2 l5 g5
   subst e1
   have hxm : b.f0[j] ∈ b.f0 := List.getElem_mem hlj
   obtain ⟨x, hx⟩ : ∃ x, b.f0[j] = x := ⟨_, rfl⟩
   have HTK2 : Aside0 (visNodes b deep (b.f0.take (j + 1)) = visNodes b deep (b.f0.take j) ++ (⟨x, b, deep⟩ :: visAlts (wrap64 (deep + 1)) x.f5)) := ⟨by rw [visNodes_take b deep b.f0 j hlj, hx]⟩
   have HSP2 : Aside0 (visAlts deep l = (visAlts deep (l.take i) ++ visNodes b deep (b.f0.take j)) ++ ⟨x, b, deep⟩ :: (visAlts (wrap64 (deep + 1)) x.f5 ++ (visNodes b deep (b.f0.drop (j + 1)) ++ visAlts deep (l.drop (i + 1))))) := ⟨by rw [HSP.out, visNodes_split b deep b.f0 j hlj, hx]; simp only [List.append_assoc, List.cons_append]⟩
   rw [hx] at x0 x1 x2 x3 x4 x5 l2 g2 l5 g5 hxm
   have y0 := (hd.1.cell (World.block_lt_of_cell? w0 _ x0)).trans x0
   have y1 := (hd.1.cell (World.block_lt_of_cell? w0 _ x1)).trans x1
   have y2 := (hd.1.cell (World.block_lt_of_cell? w0 _ x2)).trans x2
   have y3 := (hd.1.cell (World.block_lt_of_cell? w0 _ x3)).trans x3
   have y4 := (hd.1.cell (World.block_lt_of_cell? w0 _ x4)).trans x4
   have y5 := (hd.1.cell (World.block_lt_of_cell? w0 _ x5)).trans x5
   have hbn := (Below.refl wq.heap.size wq).alloc (Nat.le_refl _) (.cells #[.string x.f0, .string x.f1, .slice A2 x.f2.length c2, .bool x.f3, .bool x.f4, .slice A5 x.f5.length c5] 79 (0, 0))
   have z2 : (wq.alloc (.cells #[.string x.f0, .string x.f1, .slice A2 x.f2.length c2, .bool x.f3, .bool x.f4, .slice A5 x.f5.length c5] 79 (0, 0))).cell? ⟨b2, 0, none⟩ = some (.int .i64 deep) := (blk_cell (blk_below hd.2.2 hbn) 0).trans rfl
   have z3 : (wq.alloc (.cells #[.string x.f0, .string x.f1, .slice A2 x.f2.length c2, .bool x.f3, .bool x.f4, .slice A5 x.f5.length c5] 79 (0, 0))).cell? ⟨W.heap.size, 0, none⟩ = some (.func (.yield ly) #[] #[]) := (blk_cell (blk_below H3.out hbn) 0).trans rfl
   have z5 : (wq.alloc (.cells #[.string x.f0, .string x.f1, .slice A2 x.f2.length c2, .bool x.f3, .bool x.f4, .slice A5 x.f5.length c5] 79 (0, 0))).cell? ⟨bb, 0, none⟩ = some (.slice (some ad2) b.f0.length cb) := (blk_cell (blk_below H5.out hbn) 0).trans rfl
   have HVK : Aside0 (VK w0 ⟨x, b, deep⟩ #[.agg #[.string x.f0, .string x.f1, .slice A2 x.f2.length c2, .bool x.f3, .bool x.f4, .slice A5 x.f5.length c5, .slice (some ad2) b.f0.length cb, .int .i64 deep]]) := ⟨⟨A2, c2, A5, c5, some ad2, cb, rfl, l2, g2, l5, g5⟩⟩
   have HSUB := Aside0.mk (HIHB.out x hxm)
   have HG5 := Aside0.mk g5
   have HL5 := Aside0.mk l5
   have HJ2 := Aside0.mk (HST.out _ _ _ HJ.out ((Below.refl W.heap.size wq).alloc HSZ.out (.cells #[.string x.f0, .string x.f1, .slice A2 x.f2.length c2, .bool x.f3, .bool x.f4, .slice A5 x.f5.length c5] 79 (0, 0))))
   have hlj' : (j : Int) < (b.f0.length : Int) := by omega
   have h0j : (0 : Int) ≤ j := by omega
   obtain ⟨fn, tmps, assign, body, hy, hR⟩ := HY.out _ _ _ _ _ HSP2.out HJ2.out HVK.out
   have HR := Aside0.mk hR
   change (Instr.yield ly #[.agg #[.string x.f0, .string x.f1, .slice A2 x.f2.length c2, .bool x.f3, .bool x.f4, .slice A5 x.f5.length c5, .slice (some ad2) b.f0.length cb, .int .i64 deep]]).run Try.prog (wq.alloc (.cells #[.string x.f0, .string x.f1, .slice A2 x.f2.length c2, .bool x.f3, .bool x.f4, .slice A5 x.f5.length c5] 79 (0, 0))) = _ at hy
   clear hR hd x0 x1 x2 x3 x4 x5 l2 g2 l5 g5 hxm hx hrd
   (refine wpB_seq_k (fun K hK => ?_); gi_wp2; refine hK.out _ _ ?_; clear hK K)
   (refine wpB_seq_k (fun K hK => ?_); gi_wp2; refine hK.out _ _ ?_; clear hK K)
   refine wpB_seqB (wpB_block ?_)
   (refine wpB_seq_k (fun K hK => ?_); gi_wp2; refine hK.out _ _ ?_; clear hK K)
   refine wpB_seq_k (fun K hK => ?_)
   gi_wp2
   refine ⟨rfl, HR.out.mono ?_⟩
   have HKX := Aside0.mk hbn
   clear y0 y1 y2 y3 y4 y5 z2 z3 z5 hy HR hbn hm h0j hlj'
   rintro e X2 ⟨hk, (⟨rfl, hj2⟩ | ⟨ch, rfl, hp⟩)⟩
   ·have hd2 := HD.out _ _ hj2
    have hMX := (HMK.out.keep (KeepUp.of_below HKX.out (Nat.le_refl _))).keep hk
    have h3X := hk.blk (Nat.le_refl _) (blk_below H3.out HKX.out)
    have h5X := hk.blk HBS.out (blk_below H5.out HKX.out)
    have hNX := hk.blk HSZ.out (blk_new wq (.cells #[.string x.f0, .string x.f1, .slice A2 x.f2.length c2, .bool x.f3, .bool x.f4, .slice A5 x.f5.length c5] 79 (0, 0)))
    have HSX : Aside0 (W.heap.size ≤ X2.heap.size) := ⟨Nat.le_of_lt (lt_of_blk_ h3X)⟩
    have z2 : X2.cell? ⟨b2, 0, none⟩ = some (.int .i64 deep) := (blk_cell hd2.2.2 0).trans rfl
    have z5 : X2.cell? ⟨wq.heap.size, 5, none⟩ = some (.slice A5 x.f5.length c5) := (blk_cell hNX 5).trans rfl
    have HJX := Aside0.mk hj2
    have HMX := Aside0.mk hMX
    have H3X := Aside0.mk h3X
    have H5X := Aside0.mk h5X
    clear hd2 hMX h3X h5X hNX hj2 HKX hk HJ HJ2 HMK H3 H5
    gi_wp2
    refine hK.out _ _ ?_
    clear hK K
    refine wpB_seq_k (fun K hK => ?_)
    gi_wp2
    refine ⟨trivial, rfl, (nodes_call A5 x.f5.length c5 (wrap64 (deep + 1)) X2).mono ?_⟩
    rintro e X3 ⟨rfl, hX3⟩
    have HX3 := Aside0.mk hX3
    clear hX3
    gi_wp2
    refine hK.out _ _ ?_
    clear hK K z2 z5
    have HS3 : Aside0 (X3.heap.size = X2.heap.size + 2) := ⟨by rw [HX3.out]; simp⟩
    have HB3 : Aside0 (Below X2.heap.size X2 X3) := ⟨by rw [HX3.out]; exact ((Below.refl _ X2).alloc (Nat.le_refl _) _).alloc (by simp) _⟩
    have HC1 : Aside0 (X3.heap[X2.heap.size]? = some (.cells #[.slice A5 x.f5.length c5] 77 (0, 0))) := ⟨by rw [HX3.out]; exact (Below.heap_alloc _ _ _ (by simp)).trans (blk_new X2 _)⟩
    have HC2 : Aside0 (X3.heap[X2.heap.size + 1]? = some (.cells #[.int .i64 (wrap64 (deep + 1))] 3 (0, 0))) := ⟨by rw [HX3.out]; have := blk_new (X2.alloc (.cells #[.slice A5 x.f5.length c5] 77 (0, 0))) (.cells #[.int .i64 (wrap64 (deep + 1))] 3 (0, 0)); rwa [World.size_alloc] at this⟩
    have HLTM : Aside0 (∀ r ∈ ds2, r < X3.heap.size) := ⟨fun r hr => by have h1 := HMX.out.lt r hr; have h2 := HS3.out; omega⟩
    have HW3 : Aside0 (W.heap.size < X3.heap.size) := ⟨by have := HSX.out; have h2 := HS3.out; omega⟩
    have HB5 : Aside0 (bb < X3.heap.size) := ⟨by have := lt_of_blk_ H5X.out; have h2 := HS3.out; omega⟩
    have HQ : Aside0 (X2.heap.size < X3.heap.size ∧ X2.heap.size + 1 < X3.heap.size ∧ W.heap.size ≤ X2.heap.size) := ⟨by have h2 := HS3.out; have := HSX.out; omega⟩
    refine wpB_block ?_
    refine wpB_rangeFuncP (gf := 82) (lb := #[.pointer (some ⟨X2.heap.size, 0, none⟩), .pointer (some ⟨X2.heap.size + 1, 0, none⟩)]) rfl (enters_of Try.func82 (by kernel_rfl) rfl) ⟨_, Try.func82⟩ (HSUB.out (wrap64 (deep + 1)) A5 c5 X2.heap.size (X2.heap.size + 1) w0 HG5.out HL5.out) ?hsz
     (fun s X => J (visAlts deep (l.take i) ++ visNodes b deep (b.f0.take j) ++ [⟨x, b, deep⟩] ++ s) X ∧ Marks W.heap.size X ds2 ∧ X.heap[W.heap.size]? = some (.cells #[.func (.yield ly) #[] #[]] 140 (0, 0)) ∧ X.heap[bb]? = some (.cells #[.slice (some ad2) b.f0.length cb] 82 (0, 0)) ∧ X.heap[X2.heap.size]? = some (.cells #[.slice A5 x.f5.length c5] 77 (0, 0)) ∧ X.heap[X2.heap.size + 1]? = some (.cells #[.int .i64 (wrap64 (deep + 1))] 3 (0, 0)))
     (fun X ch => Jp X ch ∧ Marks W.heap.size X ds2) ?h0 ?hD ?hst ?hstp ?hround ?hdone ?hpanic
    case hsz => rintro v args ⟨_, _, _, _, _, _, rfl, _⟩; rfl
    case h0 => exact ⟨by rw [List.append_nil]; exact HST.out _ _ _ HJX.out (HB3.out.mono HSX.out), HMX.out.below HB3.out HMX.out.lt, blk_below H3X.out HB3.out, blk_below H5X.out HB3.out, HC1.out, HC2.out⟩
    case hD => exact fun s X h => ⟨(HD.out _ _ h.1).1, h.2.2.2.2.1, h.2.2.2.2.2⟩
    case hst => exact fun s X X' h hb => ⟨HST.out _ _ _ h.1 (hb.mono (Nat.le_of_lt HW3.out)), h.2.1.below hb HLTM.out, (hb.block _ HW3.out).trans h.2.2.1, (hb.block _ HB5.out).trans h.2.2.2.1, (hb.block _ HQ.out.1).trans h.2.2.2.2.1, (hb.block _ HQ.out.2.1).trans h.2.2.2.2.2⟩
    case hstp => exact fun X X' ch h hb => ⟨HSTP.out _ _ _ h.1 (hb.mono (Nat.le_of_lt HW3.out)), h.2.below hb HLTM.out⟩
    case hround =>
     rintro l2 s v tt args X hss hl1 hl2 ⟨hJ, hM, h3, h5, hc1, hc2⟩ hv
     have HSS : Aside0 (visAlts deep l = (visAlts deep (l.take i) ++ visNodes b deep (b.f0.take j) ++ [⟨x, b, deep⟩] ++ s) ++ v :: (tt ++ (visNodes b deep (b.f0.drop (j + 1)) ++ visAlts deep (l.drop (i + 1))))) := ⟨by rw [HSP2.out, hss]; simp only [List.append_assoc, List.cons_append, List.nil_append]⟩
     clear hss
     obtain ⟨A2', c2', A5', c5', A6', c6', rfl, hvr⟩ := hv
     have HJa := Aside0.mk hJ
     have HMa := Aside0.mk hM
     have H3a := Aside0.mk h3
     have H5a := Aside0.mk h5
     have HC1a := Aside0.mk hc1
     have HC2a := Aside0.mk hc2
     have HVa := Aside0.mk hvr
     have HL1 := Aside0.mk hl1
     have HL2 := Aside0.mk hl2
     clear hJ hM h3 h5 hc1 hc2 hvr hl1 hl2
     gi_wp2
     have HXA := Aside0.mk ((Below.refl X.heap.size X).alloc (Nat.le_refl _) (.cells #[.string v.n.f0, .string v.n.f1, .slice A2' v.n.f2.length c2', .bool v.n.f3, .bool v.n.f4, .slice A5' v.n.f5.length c5', .slice A6' v.b.f0.length c6', .int .i64 v.d] 130 (0, 0)))
     have HVB := Aside0.mk (blk_new X (.cells #[.string v.n.f0, .string v.n.f1, .slice A2' v.n.f2.length c2', .bool v.n.f3, .bool v.n.f4, .slice A5' v.n.f5.length c5', .slice A6' v.b.f0.length c6', .int .i64 v.d] 130 (0, 0)))
     refine ⟨HXA.out, ?_⟩
     intro X4 hku hbl
     have hl3 : X3.heap.size ≤ X.heap.size := Nat.le_of_lt (Nat.lt_of_le_of_lt HL1.out HL2.out)
     have hb34 : Below X3.heap.size X X4 := (HXA.out.mono hl3).trans (hbl.mono HL1.out)
     have HJb := Aside0.mk (HST.out _ _ _ HJa.out (hb34.mono (Nat.le_of_lt HW3.out)))
     have HMb := Aside0.mk (HMa.out.below hb34 HLTM.out)
     have H3b := Aside0.mk ((hb34.block _ HW3.out).trans H3a.out)
     have H5b := Aside0.mk ((hb34.block _ HB5.out).trans H5a.out)
     have HC1b := Aside0.mk ((hb34.block _ HQ.out.1).trans HC1a.out)
     have HC2b := Aside0.mk ((hb34.block _ HQ.out.2.1).trans HC2a.out)
     have hVB := hku.blk HL2.out HVB.out
     have q0 : X4.cell? ⟨X.heap.size, 0, none⟩ = some (.string v.n.f0) := (blk_cell hVB 0).trans rfl
     have q1 : X4.cell? ⟨X.heap.size, 1, none⟩ = some (.string v.n.f1) := (blk_cell hVB 1).trans rfl
     have q2 : X4.cell? ⟨X.heap.size, 2, none⟩ = some (.slice A2' v.n.f2.length c2') := (blk_cell hVB 2).trans rfl
     have q3 : X4.cell? ⟨X.heap.size, 3, none⟩ = some (.bool v.n.f3) := (blk_cell hVB 3).trans rfl
     have q4 : X4.cell? ⟨X.heap.size, 4, none⟩ = some (.bool v.n.f4) := (blk_cell hVB 4).trans rfl
     have q5 : X4.cell? ⟨X.heap.size, 5, none⟩ = some (.slice A5' v.n.f5.length c5') := (blk_cell hVB 5).trans rfl
     have q6 : X4.cell? ⟨X.heap.size, 6, none⟩ = some (.slice A6' v.b.f0.length c6') := (blk_cell hVB 6).trans rfl
     have q7 : X4.cell? ⟨X.heap.size, 7, none⟩ = some (.int .i64 v.d) := (blk_cell hVB 7).trans rfl
     have z3 : X4.cell? ⟨W.heap.size, 0, none⟩ = some (.func (.yield ly) #[] #[]) := (blk_cell H3b.out 0).trans rfl
     have HVK2 : Aside0 (VK w0 v #[.agg #[.string v.n.f0, .string v.n.f1, .slice A2' v.n.f2.length c2', .bool v.n.f3, .bool v.n.f4, .slice A5' v.n.f5.length c5', .slice A6' v.b.f0.length c6', .int .i64 v.d]]) := ⟨⟨A2', c2', A5', c5', A6', c6', rfl, HVa.out⟩⟩
     obtain ⟨fn, tmps, assign, body, hy, hR⟩ := HY.out _ _ _ _ _ HSS.out HJb.out HVK2.out
     have HR := Aside0.mk hR
     change (Instr.yield ly #[.agg #[.string v.n.f0, .string v.n.f1, .slice A2' v.n.f2.length c2', .bool v.n.f3, .bool v.n.f4, .slice A5' v.n.f5.length c5', .slice A6' v.b.f0.length c6', .int .i64 v.d]]).run Try.prog X4 = _ at hy
     clear hR hVB hku hbl hb34 HJa HMa H3a H5a HC1a HC2a HXA HVB
     gi_wp2
     refine ⟨rfl, RoundIn.mono (F := Fence.wide.inRound l2) HR.out ?_⟩
     rintro e X5 ⟨hk, (⟨rfl, hj5⟩ | ⟨ch, rfl, hp⟩)⟩
     ·have hJ5 := hj5
      rw [List.append_assoc] at hJ5
      gi_wp2
      exact ⟨hk.mono (Nat.le_of_lt HW3.out), hJ5, HMb.out.keep hk, hk.blk (Nat.le_refl _) H3b.out, hk.blk HBS.out H5b.out, hk.blk HQ.out.2.2 HC1b.out, hk.blk (Nat.le_succ_of_le HQ.out.2.2) HC2b.out⟩
     ·exact ⟨rfl, hk.mono (Nat.le_of_lt HW3.out), hp, HMb.out.keep hk⟩
    case hdone =>
     intro d Wd hd hJd hmark
     have hmm := Marks.cons hJd.2.1 (Nat.le_trans (Nat.le_of_lt HW3.out) hd) (fun hin => by have := HLTM.out d hin; omega) hmark
     have hjj : J (visAlts deep (l.take i) ++ visNodes b deep (b.f0.take (j + 1))) Wd := by rw [HTK2.out]; have := hJd.1; simpa only [List.append_assoc, List.cons_append, List.nil_append, List.singleton_append] using this
     have h3d := hJd.2.2.1
     have h5d := hJd.2.2.2.1
     have hsd := Nat.le_of_lt (lt_of_blk_ h3d)
     show wpB _ _ _ _ _ _
     refine wpB_in ?_
     have HJd := Aside0.mk hjj
     have HMd := Aside0.mk hmm
     have H3d := Aside0.mk h3d
     have H5d := Aside0.mk h5d
     have HSd := Aside0.mk hsd
     clear hJd hmark hmm hjj h3d h5d hsd
     gi_wp2
     have hwj : wrap64 ((j : Int) + 1) = ((j + 1 : Nat) : Int) := by have := hlj; have := HMB.out; unfold wrap64; omega
     rw [hwj]
     refine ⟨⟨j + 1, d :: ds2, ?_⟩, ?_⟩
     ·(repeat apply Exists.intro)
      exact ⟨⟨by omega, HJd, HMd, H3d, H5d, HSd⟩, rfl⟩
     ·show b.f0.length - ((j + 1 : Nat) : Int).toNat < b.f0.length - ((j : Nat) : Int).toNat
      omega
    case hpanic =>
     intro d ch Wd hd hJd hmark
     have hmm := Marks.cons hJd.2 (Nat.le_trans (Nat.le_of_lt HW3.out) hd) (fun hin => by have := HLTM.out d hin; omega) hmark
     refine leaves_marks (B := W.heap.size) (.panicking ch) (by simp) (d :: ds2) Wd hmm (fun W' hW' => ?_)
     exact .inr ⟨ch, rfl, HSTP.out _ _ _ hJd.1 hW'⟩
   ·have hMX := (HMK.out.keep (KeepUp.of_below HKX.out (Nat.le_refl _))).keep hk
    refine leaves_marks (B := W.heap.size) (.panicking ch) (by simp) ds2 X2 hMX (fun W' hW' => ?_)
    exact .inr ⟨ch, rfl, HSTP.out _ _ _ hp hW'⟩
  ·obtain rfl : j = b.f0.length := by omega
   have HJE := Aside0.mk (show J (visAlts deep (l.take (i + 1))) wq by have := HJ.out; rw [List.take_length] at this; rw [HTK.out]; exact this)
   (refine wpB_seq_k (fun K hK => ?_); gi_wp2; refine hK.out _ _ ?_; clear hK K)
   (refine wpB_seq_k (fun K hK => ?_); gi_wp2; clear hK K)
   refine wpB_in ?_
   gi_wp2
   have hwi : wrap64 ((i : Int) + 1) = ((i + 1 : Nat) : Int) := by have := HLT.out; have := HM.out; unfold wrap64; omega
   rw [hwi]
   refine ⟨⟨i + 1, ds2, ?_⟩, ?_⟩
   ·(repeat apply Exists.intro)
    exact ⟨⟨by have := HLT.out; omega, HJE, HMK, H3, HSZ⟩, rfl⟩
   ·show l.length - ((i + 1 : Nat) : Int).toNat < l.length - ((i : Nat) : Int).toNat
    have := HLT.out; omega
 ·obtain rfl : i = l.length := by omega
  have HJE := Aside0.mk (show J (visAlts deep l) wr by have := HJ.out; rwa [List.take_length] at this)
  (refine wpB_seq_k (fun K hK => ?_); gi_wp2; refine hK.out _ _ ?_; clear hK K)
  (refine wpB_seq_k (fun K hK => ?_); gi_wp2)
  refine leaves_marks .returning (by simp) ds wr HMK.out (fun W' hW' => ?_)
  exact ⟨.tuple #[], results_none rfl _ _ _, .inl ⟨_, rfl, HST.out _ _ _ HJE.out hW'⟩⟩
theorem nodes_all (n : Nat) : ∀ l : List S82, SizeOf.sizeOf l < n → NodesC l := by
 induction n with
 | zero => intro l h; exact absurd h (Nat.not_lt_zero _)
 | succ n ih =>
  intro l h
  refine nodes_walk l (fun b hb x hx => ih _ ?_)
  have h1 := List.sizeOf_lt_of_mem hb
  have h2 : SizeOf.sizeOf x < SizeOf.sizeOf b := by
   have := List.sizeOf_lt_of_mem hx
   cases b
   simp only [SB82.mk.sizeOf_spec] at *
   omega
  have h3 : SizeOf.sizeOf x.f5 < SizeOf.sizeOf x := by
   cases x
   simp only [S79.mk.sizeOf_spec]
   omega
  omega
theorem nodes_iter (l : List S82) : NodesC l := nodes_all (SizeOf.sizeOf l + 1) l (by omega)
end Go.Proofs.Ytihpndignekheaa.F
end

section
namespace Go.Proofs.Ytihpndignekheaa.F
open Go.RowKit Go.Proofs.YtihpndignekheaaW.PrintWords Go.Proofs.YtihpndignekheaaW.PrintLast Go.Proofs.YtihpndignekheaaW.PrintMore
attribute [local go_sem] max2_int min2_int max_two min_two max_three min_three max_four min_four
set_option linter.unusedVariables false
set_option linter.unusedSimpArgs false
def arcOk (n : Int) (a : S147) : Bool := decide (0 ≤ a.f0) && decide (a.f0 < n) && decide (0 ≤ a.f1) && decide (a.f1 < n)
def onStep (on : Nat → Nat) (a : S147) : Nat → Nat := fun i => if i = a.f1.toNat then on i ||| 2 ^ a.f0.toNat else on i
def onOf (l : List S147) : Nat → Nat := l.foldl onStep (fun _ => 0)
def gCells (n : Int) (on : Nat → Nat) : Array Value := (Value.int .i64 n :: (List.range 64).map fun i => Value.int .u64 (on i)).toArray
def strayV : Value := .iface 154 (.agg #[])
set_option maxHeartbeats 2000000 in
theorem one_lit (a : Nat) (ha : a < 64) (w : World) : Calls Try.prog 103 #[.int .i64 a] w fun e w' => e = .returned (.int .u64 ((2 ^ a : Nat) : Int)) ∧ w' = w := by
 have h0 : (0 : Int) ≤ (a : Int) := by omega
 have h1 : (a : Int) < 64 := by omega
 have h2 : IntKind.u64.wrap (a : Int) = a := by rw [IntKind.wrap_u64]; omega
 go_enter Try.func103, Try.ntmps103
 go_wp2
 go_ret
 refine ⟨?_, rfl⟩
 have hp : (2 : Nat) ^ a < 2 ^ 64 := Nat.pow_lt_pow_right (by omega) ha
 have hp2 : IntKind.u64.wrap (2 ^ a) = ((2 ^ a : Nat) : Int) := by
  have hw : ∀ x : Nat, x < 2 ^ 64 → IntKind.u64.wrap (x : Int) = x := fun x hx => by rw [IntKind.wrap_u64]; omega
  rw [show ((2 : Int) ^ a) = ((2 ^ a : Nat) : Int) from by rw [Int.natCast_pow]; rfl]
  exact hw _ hp
 rw [hp2]
 rfl
theorem arcOk_iff {n : Int} {a : S147} : arcOk n a = true ↔ (0 ≤ a.f0 ∧ a.f0 < n ∧ 0 ≤ a.f1 ∧ a.f1 < n) := by simp [arcOk, and_assoc]
theorem gCells_size (n : Int) (on : Nat → Nat) : (gCells n on).size = 65 := by simp [gCells]
theorem gCells_zero (n : Int) (on : Nat → Nat) : (gCells n on)[0]? = some (.int .i64 n) := by simp [gCells]
theorem gCells_at (n : Int) (on : Nat → Nat) (i : Nat) (h : i < 64) : (gCells n on)[i + 1]? = some (.int .u64 (on i)) := by
 simp [gCells, h]
theorem gCells_set (n : Int) (on : Nat → Nat) (a : S147) (h : a.f1.toNat < 64) : (gCells n on).setIfInBounds (a.f1.toNat + 1) (.int .u64 ((on a.f1.toNat ||| 2 ^ a.f0.toNat : Nat) : Int)) = gCells n (onStep on a) := by
 apply Array.ext
 ·simp [gCells]
 ·intro i h1 h2
  rw [Array.getElem_setIfInBounds (by simpa using h1)]
  cases i with
  | zero => simp [gCells]
  | succ i =>
   have hi : i < 64 := by rw [gCells_size] at h2; omega
   by_cases e : i = a.f1.toNat
   ·subst e
    simp [gCells, onStep]
   ·simp [gCells, onStep, e, Ne.symm e]
theorem onOf_take (l : List S147) (i : Nat) (h : i < l.length) : onOf (l.take (i + 1)) = onStep (onOf (l.take i)) l[i] := by
 unfold onOf
 rw [List.take_succ_eq_append_getElem h, List.foldl_append]; rfl
theorem on_lt (l : List S147) (n : Int) (hn : n ≤ 64) (h : ∀ a ∈ l, arcOk n a = true) (on : Nat → Nat) (ho : ∀ i, on i < 2 ^ 64) (i : Nat) : l.foldl onStep on i < 2 ^ 64 := by
 induction l generalizing on with
 | nil => exact ho i
 | cons a l ih =>
  refine ih (fun b hb => h b (List.mem_cons_of_mem _ hb)) _ (fun j => ?_)
  have := arcOk_iff.1 (h a List.mem_cons_self)
  unfold onStep
  split
  ·exact Nat.or_lt_two_pow (ho j) (Nat.pow_lt_pow_right (by omega) (by omega))
  ·exact ho j
set_option maxHeartbeats 8000000 in
set_option maxRecDepth 100000 in
theorem made_bad (n : Int) (l0 : List S147) (A0 : Option Addr) (c0 : Nat) (w : World) (hr0 : Kd.C k147 w A0 l0.length l0) (hb : ¬ (0 ≤ n ∧ n ≤ 64 ∧ l0.length ≤ 4096)) :
  Calls Try.prog 96 #[.int .i64 n, .slice A0 l0.length c0] w fun e w' => e = .panicked [{ v := strayV, recovered := false }] ∧ Below w.heap.size w w' := by
 have hm := Kd.C_max hr0
 clear hr0
 go_enter Try.func96, Try.ntmps96
 go_wp2
 all_goals (first | exact ⟨rfl, rfl, Below.refl _ _⟩ | (exfalso; omega))
theorem region_tail_ {P : Program} {id : Nat} {Q : Exit → Act → World → Prop} {a : Act} {w : World} {l : List Oper} (n : Nat) (hm : P.follows .mixedOrders = true) (hB : Region.lexTailB .any l.toArray n = true) (W2 : World) (hW : W2 = w.drew)
  (h : wpStill P l.toArray W2 (fun a' => wpList P l.toArray Q (l.drop n) a' W2) (l.take n) a) : (Code.region id l.toArray true).wp P Q a w := by
 subst hW
 exact wp_region_still_tail n hm hB h
def MadeP (n : Int) (l0 : List S147) (w : World) (e : Ending) (w' : World) : Prop := Below w.heap.size w w' ∧ (if l0.all (arcOk n) then e = .returned (.pointer (some ⟨w.heap.size, 0, none⟩)) ∧ w'.heap[w.heap.size]? = some (.cells (gCells n (onOf l0)) 164 (0, 0)) else e = .panicked [{ v := strayV, recovered := false }])
set_option maxHeartbeats 8000000 in
set_option maxRecDepth 100000 in
theorem made_loop (n : Int) (l0 : List S147) (A0 : Option Addr) (c0 : Nat) (w : World) (hr0 : Kd.C k147 w A0 l0.length l0) (hn0 : 0 ≤ n) (hn1 : n ≤ 64) (hl : l0.length ≤ 4096) :
  Calls Try.prog 96 #[.int .i64 n, .slice A0 l0.length c0] w (MadeP n l0 w) := by
 have HR := Aside0.mk hr0
 have HL := Aside0.mk hl
 clear hr0
 go_enter Try.func96, Try.ntmps96
 go_wp2
 have hz : Try.zeroCells164.setIfInBounds 0 (Value.int IntKind.i64 n) = gCells n (fun _ => 0) := rfl
 rw [hz]
 clear hz
 go_loopg [26] l0.length (fun kq v26 w' => ∃ i : Nat, i + kq = l0.length ∧ v26 = .int .i64 i ∧ Aside0 ((l0.take i).all (arcOk n) = true) ∧ Aside0 (w'.heap[w.heap.size]? = some (.cells (gCells n (onOf (l0.take i))) 164 (0, 0))) ∧ Aside0 (Below w.heap.size w w'))
 case atStart => exact ⟨0, by omega, rfl, ⟨rfl⟩, ⟨heap_alloc_new w _⟩, ⟨(Below.refl _ _).alloc (Nat.le_refl _) _⟩⟩
 case round =>
  obtain ⟨i, hi, rfl, HA, HG, HB⟩ := hrel
  cases gk with
  | zero =>
   obtain rfl : i = l0.length := by omega
   have HA2 := Aside0.mk (show l0.all (arcOk n) = true by have := HA.out; rwa [List.take_length] at this)
   have HG2 := Aside0.mk (show wr.heap[w.heap.size]? = some (.cells (gCells n (onOf l0)) 164 (0, 0)) by have := HG.out; rwa [List.take_length] at this)
   go_wp2
   go_ret
   unfold MadeP
   rw [if_pos HA2.out]
   exact ⟨HB.out, rfl, HG2.out⟩
  | succ k =>
   have hlt : i < l0.length := by omega
   obtain ⟨ad, e0, x0, x1⟩ := at_T147 (Kd.C_below HR.out HB.out) (i : Int) (by omega) (by omega)
   rw [Int.toNat_natCast] at x0 x1
   have hrd : rd_T147 l0 (i : Int) = l0[i] := by unfold rd_T147; rw [Int.toNat_natCast, List.getD_eq_getElem?_getD, List.getElem?_eq_getElem hlt]; rfl
   rw [hrd] at x0 x1
   subst e0
   have HO := Aside0.mk (onOf_take l0 i hlt)
   have HT : Aside0 ((l0.take (i + 1)).all (arcOk n) = arcOk n l0[i]) := ⟨by rw [List.take_succ_eq_append_getElem hlt, List.all_append, HA.out]; simp⟩
   have HX : Aside0 (arcOk n l0[i] = false → l0.all (arcOk n) = false) := ⟨fun h => by rw [List.all_eq_false]; exact ⟨_, List.getElem_mem hlt, by rw [h]; simp⟩⟩
   obtain ⟨⟨xf, xt⟩, hx⟩ : ∃ x, l0[i] = x := ⟨_, rfl⟩
   rw [hx] at x0 x1 HO HT HX
   simp only at x0 x1
   have hlt' : (i : Int) < (l0.length : Int) := by omega
   have h0 : (0 : Int) ≤ i := by omega
   have HI2 := Aside0.mk hi
   have HON : Aside0 (∀ j, onOf (l0.take i) j < 2 ^ 64) := ⟨fun j => on_lt (l0.take i) n hn1 (fun a ha => by have := HA.out; rw [List.all_eq_true] at this; exact this a ha) _ (fun _ => by decide) j⟩
   clear hx hrd hi
   by_cases hok : arcOk n ⟨xf, xt⟩ = true
   ·obtain ⟨b1, b2, b3, b4⟩ := arcOk_iff.1 hok
    have HOK := Aside0.mk hok
    simp only at b1 b2 b3 b4
    clear hok
    obtain ⟨tn, rfl⟩ := Int.eq_ofNat_of_zero_le b3
    obtain ⟨fn, rfl⟩ := Int.eq_ofNat_of_zero_le b1
    have ht : tn < 64 := by omega
    have hf : fn < 64 := by omega
    have HT64 := Aside0.mk ht
    have HF64 := Aside0.mk hf
    obtain ⟨W2, hW2⟩ : ∃ W, W = (wr.alloc (.cells #[.int .i64 fn, .int .i64 tn] 147)).drew := ⟨_, rfl⟩
    have hG : W2.heap[w.heap.size]? = some (.cells (gCells n (onOf (l0.take i))) 164 (0, 0)) := by rw [hW2]; exact blk_drew (blk_alloc HG.out _)
    have hA : W2.heap[wr.heap.size]? = some (.cells #[.int .i64 fn, .int .i64 tn] 147 (0, 0)) := by rw [hW2]; exact blk_drew (blk_new wr _)
    have y0 : W2.cell? ⟨wr.heap.size, 0, none⟩ = some (.int .i64 fn) := (blk_cell hA 0).trans rfl
    have y1 : W2.cell? ⟨wr.heap.size, 1, none⟩ = some (.int .i64 tn) := (blk_cell hA 1).trans rfl
    have y2 : W2.cell? ⟨w.heap.size, 1 + tn, none⟩ = some (.int .u64 ((onOf (l0.take i) tn : Nat) : Int)) := by
     refine (blk_cell hG (1 + tn)).trans ?_
     rw [Nat.add_comm]; exact gCells_at n _ tn ht
    have y3 : W2.frozen? ⟨w.heap.size, 1 + tn, none⟩ = false := blk_frozen hG _
    have HW2 := Aside0.mk hW2
    have HG2 := Aside0.mk hG
    have htn : (tn : Int) < 64 := by omega
    have hor : bits .or .u64 ((onOf (l0.take i) tn : Nat) : Int) ((2 : Int) ^ fn) = ((onOf (l0.take i) tn ||| 2 ^ fn : Nat) : Int) := by
     have := u64_or_nat _ _ (HON.out tn) (Nat.pow_lt_pow_right (by omega : 1 < 2) hf)
     rwa [Int.natCast_pow] at this
    have HOR := Aside0.mk hor
    clear hG hA hW2 hor
    go_wp2_with (fail)
    refine region_tail_ 14 (by kernel_rfl) (by kernel_rfl) W2 HW2.out ?_
    simp only [List.take_succ_cons, List.take_zero, List.drop_succ_cons, List.drop_zero]
    iterate 9 still_step
    still_call (one_lit fn HF64.out _)
    iterate 4 still_step
    refine wpStill_nil ?_
    go_wp2
    go_roundg k
    case measure => omega
    case rel =>
     have HS : (W2.setCell ⟨w.heap.size, 1 + tn, none⟩ (.int .u64 ((onOf (l0.take i) tn ||| 2 ^ fn : Nat) : Int))).heap[w.heap.size]? = some (.cells (gCells n (onStep (onOf (l0.take i)) ⟨fn, tn⟩)) 164 (0, 0)) := blk_put HG2.out (1 + tn) _ (by rw [Nat.add_comm]; exact gCells_set n (onOf (l0.take i)) ⟨fn, tn⟩ HT64.out)
     rw [HOR.out]
     refine ⟨i + 1, by have := HI2.out; omega, by go_num, ⟨by rw [HT.out, HOK.out]⟩, ⟨by rw [HO.out]; exact HS⟩, ⟨?_⟩⟩
     refine Below.setCell (p := ⟨w.heap.size, 1 + tn, none⟩) ?_ (Nat.le_refl _) _
     rw [HW2.out]
     exact below_drew (HB.out.alloc HB.out.size _)
   ·have HOK := Aside0.mk hok
    have hno : ¬ (0 ≤ xf ∧ xf < n ∧ 0 ≤ xt ∧ xt < n) := fun h => hok (arcOk_iff.2 h)
    have HF := Aside0.mk (HX.out (by simpa using hok))
    clear hok
    go_wp2
    all_goals (refine ⟨rfl, ?_⟩; unfold MadeP; rw [if_neg (by rw [HF.out]; simp)]; exact ⟨HB.out.alloc HB.out.size _, rfl⟩)
end Go.Proofs.Ytihpndignekheaa.F
end

section
namespace Go.Proofs.Ytihpndignekheaa.F
open Go.RowKit Go.Proofs.YtihpndignekheaaW.PrintWords Go.Proofs.YtihpndignekheaaW.PrintLast Go.Proofs.YtihpndignekheaaW.PrintMore
attribute [local go_sem] max2_int min2_int max_two min_two max_three min_three max_four min_four
set_option linter.unusedVariables false
set_option linter.unusedSimpArgs false
def hasText (l : List ByteArray) (s : ByteArray) : Bool := l.any fun t => s.toList == t.toList
def arcsN (b : List S79) (i : Int) : List ByteArray → List ByteArray → List S147 → Option (List S147)
 | _, [], out => some out
 | bef, s :: r, out => if (decide (0 ≤ namedI b s) && namedI b s != i) && !hasText bef s then arcsN b i (bef ++ [s]) r (out ++ [⟨namedI b s, i⟩]) else none
def arcsL (b : List S79) : Int → List S79 → List S147 → Option (List S147)
 | _, [], out => some out
 | i, x :: l, out => match arcsN b i [] x.f2 out with
  | none => none
  | some o => arcsL b (i + 1) l o
def ArcsP (o : Option (List S147)) (w : World) (e : Ending) (w' : World) : Prop := Below w.heap.size w w' ∧ (match o with | some l => ∃ v, e = .returned v ∧ Kd.R k147 147 w' w.heap.size (fun _ => True) v l | none => ∃ why, e = .panicked [{ v := faultV why, recovered := false }])
theorem index_of (l : List ByteArray) (s : ByteArray) (hl : l.length ≤ 9223372036854775807) (d : Nat) : ∀ (k i : Nat), i + d = l.length → d < k → slices_Index_string_string.l0 k l s (l.length : Int) i = some (idxF (fun t => s.toList == t.toList) (l.drop i) i) := by
 induction d with
 | zero =>
  intro k i hi hk
  obtain ⟨k, rfl⟩ : ∃ m, k = m + 1 := ⟨k - 1, by omega⟩
  simp only [slices_Index_string_string.l0]
  rw [if_neg (by omega), List.drop_eq_nil_of_le (by omega)]
  rfl
 | succ d ih =>
  intro k i hi hk
  obtain ⟨k, rfl⟩ : ∃ m, k = m + 1 := ⟨k - 1, by omega⟩
  simp only [slices_Index_string_string.l0]
  have hlt : i < l.length := by omega
  rw [if_pos (by omega), if_pos (by omega), if_pos (by omega), idxF_drop _ _ _ hlt]
  have hrd : rdOf ByteArray.empty l (i : Int) = l[i] := by unfold rdOf; rw [Int.toNat_natCast, List.getD_eq_getElem?_getD, List.getElem?_eq_getElem hlt]; rfl
  rw [hrd]
  by_cases h : s.toList = l[i].toList
  ·rw [if_pos h]; simp [h]
  ·rw [if_neg h, show wrap64 ((i : Int) + 1) = ((i + 1 : Nat) : Int) by unfold wrap64; omega, ih k (i + 1) (by omega) (by omega)]
   simp [h]
theorem contains_of (l : List ByteArray) (s : ByteArray) (hl : l.length ≤ 9223372036854775807) : slices_Contains_string_string.f (l.length + 1) l s = some (hasText l s) := by
 unfold slices_Contains_string_string.f slices_Index_string_string.f
 rw [show (0 : Int) = ((0 : Nat) : Int) from rfl, index_of l s hl l.length (l.length + 1) 0 (by omega) (by omega)]
 simp only [Option.bind_some, List.drop_zero]
 rw [show ((0 : Nat) : Int) = 0 from rfl, idxF_any _ _ _ (by omega)]
 rfl
theorem nodup_len {α : Type} [DecidableEq α] : ∀ (l m : List α), l.Nodup → (∀ x ∈ l, x ∈ m) → l.length ≤ m.length
 | [], m, _, _ => Nat.zero_le _
 | x :: l, m, h, hs => by
  obtain ⟨h1, h2⟩ := List.nodup_cons.1 h
  have hx := hs x List.mem_cons_self
  have ih := nodup_len l (m.erase x) h2 (fun y hy => (List.mem_erase_of_ne (fun e => h1 (by rw [← e]; exact hy))).2 (hs y (List.mem_cons_of_mem _ hy)))
  rw [List.length_erase_of_mem hx] at ih
  have := List.length_pos_of_mem hx
  simp only [List.length_cons]
  omega
def goodPre (b : List S79) (l : List ByteArray) : Prop := (l.map (·.toList)).Nodup ∧ ∀ s ∈ l, 0 ≤ namedI b s
theorem idxF_mem {α : Type} (p : α → Bool) : ∀ (l : List α) (i : Int), 0 ≤ i → 0 ≤ idxF p l i → ∃ x ∈ l, p x = true
 | [], i, _, h => by simp [idxF] at h
 | x :: l, i, hi, h => by
  unfold idxF at h
  cases hx : p x with
  | true => exact ⟨x, List.mem_cons_self, hx⟩
  | false =>
   rw [hx] at h
   obtain ⟨y, hy, hp⟩ := idxF_mem p l (i + 1) (by omega) h
   exact ⟨y, List.mem_cons_of_mem _ hy, hp⟩
theorem goodPre_len {b : List S79} {l : List ByteArray} (h : goodPre b l) : l.length ≤ b.length := by
 have h1 := nodup_len (l.map (·.toList)) (b.map (·.f0.toList)) h.1 (fun x hx => by
  obtain ⟨s, hs, rfl⟩ := List.mem_map.1 hx
  obtain ⟨y, hy, hp⟩ := idxF_mem _ b 0 (by omega) (h.2 s hs)
  refine List.mem_map.2 ⟨y, hy, ?_⟩
  simpa [isName] using hp)
 simpa using h1
theorem goodPre_snoc {b : List S79} {l : List ByteArray} {s : ByteArray} (h : goodPre b l) (hs : 0 ≤ namedI b s) (hn : hasText l s = false) : goodPre b (l ++ [s]) := by
 refine ⟨?_, fun t ht => ?_⟩
 ·rw [List.map_append, List.nodup_append]
  refine ⟨h.1, by simp, fun x hx y hy => ?_⟩
  simp only [List.map_cons, List.map_nil, List.mem_singleton] at hy
  subst hy
  obtain ⟨t, ht, rfl⟩ := List.mem_map.1 hx
  intro e
  unfold hasText at hn
  rw [List.any_eq_false] at hn
  exact hn t ht (by simp [e])
 ·rcases List.mem_append.1 ht with ht | ht
  ·exact h.2 t ht
  ·rw [List.mem_singleton.1 ht]; exact hs
set_option maxHeartbeats 8000000 in
set_option maxRecDepth 100000 in
theorem arcs_walk (A0 : Option Addr) (c0 : Nat) (b : List S79) (w : World) (hr0 : Kd.C k79 w A0 b.length b) (hc0 : b.length ≤ c0) (hb16 : b.length ≤ 16) :
  Calls Try.prog 81 #[.agg #[.slice A0 b.length c0]] w (ArcsP (arcsL b 0 b []) w) := by
 have HR := Aside0.mk hr0
 have HM := Aside0.mk (Kd.C_max hr0)
 have H16 := Aside0.mk hb16
 have HG := Aside0.mk (blk_new w (.cells #[.slice A0 b.length c0] 82 (0, 0)))
 have HB0 := Aside0.mk ((Below.refl w.heap.size w).alloc (Nat.le_refl _) (.cells #[.slice A0 b.length c0] 82 (0, 0)))
 clear hr0 hc0 hb16
 go_enter Try.func81, Try.ntmps81
 go_wp2
 go_loopg [3, 12] b.length (fun kq v3 v12 w' => ∃ (i : Nat) (out : List S147), i + kq = b.length ∧ v12 = .int .i64 i ∧ (∃ A c, v3 = .slice A out.length c) ∧ Aside0 (out.length ≤ 16 * i) ∧ Aside0 (arcsL b 0 b [] = arcsL b i (b.drop i) out) ∧ Aside0 (Kd.R k147 147 w' w.heap.size (fun k => k ≠ w.heap.size) v3 out) ∧ Aside0 (w'.heap[w.heap.size]? = some (.cells #[.slice A0 b.length c0] 82 (0, 0))) ∧ Aside0 (Below w.heap.size w w'))
 case atStart => exact ⟨0, [], by omega, rfl, ⟨none, 0, rfl⟩, ⟨by simp⟩, ⟨rfl⟩, ⟨Kd.R_nil _ _ _ _ _⟩, HG, HB0⟩
 case round =>
  obtain ⟨wo, hwo⟩ : ∃ x, x = wr := ⟨_, rfl⟩
  subst hwo
  obtain ⟨i, out, hi, rfl, ⟨A3, c3, rfl⟩, HLI, HI, HO, HG, HB⟩ := hrel
  have hm := HM.out
  cases gk with
  | zero =>
   obtain rfl : i = b.length := by omega
   have HE : Aside0 (arcsL b 0 b [] = some out) := ⟨by rw [HI.out, List.drop_eq_nil_of_le (Nat.le_refl _)]; rfl⟩
   go_wp2
   go_ret
   refine ⟨HB.out, ?_⟩
   rw [HE.out]
   exact ⟨_, rfl, Kd.R_mono HO.out (fun _ _ => trivial)⟩
  | succ k =>
   have hlt : i < b.length := by omega
   obtain ⟨ad, A2, c2, A5, c5, e0, x0, x1, x2, x3, x4, x5, l2, g2, l5, g5⟩ := at_T79 HR.out (i : Int) (by omega) (by omega)
   rw [Int.toNat_natCast] at x0 x1 x2 x3 x4 x5
   replace x0 := (HB.out.cell (World.block_lt_of_cell? w _ x0)).trans x0
   replace x1 := (HB.out.cell (World.block_lt_of_cell? w _ x1)).trans x1
   replace x2 := (HB.out.cell (World.block_lt_of_cell? w _ x2)).trans x2
   replace x3 := (HB.out.cell (World.block_lt_of_cell? w _ x3)).trans x3
   replace x4 := (HB.out.cell (World.block_lt_of_cell? w _ x4)).trans x4
   replace x5 := (HB.out.cell (World.block_lt_of_cell? w _ x5)).trans x5
   have hrd : rd_T79 b (i : Int) = b[i] := by unfold rd_T79; rw [Int.toNat_natCast, List.getD_eq_getElem?_getD, List.getElem?_eq_getElem hlt]; rfl
   rw [hrd] at x0 x1 x2 x3 x4 x5 l2 g2 l5 g5
   subst e0
   have HD : Aside0 (arcsL b i (b.drop i) out = match arcsN b i [] b[i].f2 out with | none => none | some o => arcsL b (i + 1) (b.drop (i + 1)) o) := ⟨by rw [List.drop_eq_getElem_cons hlt]; rfl⟩
   obtain ⟨⟨nm, un, af, sb, vi, al⟩, hx⟩ : ∃ x, b[i] = x := ⟨_, rfl⟩
   rw [hx] at x0 x1 x2 x3 x4 x5 l2 g2 l5 g5 HD
   simp only at x0 x1 x2 x3 x4 x5 l2 g2
   have hlt' : (i : Int) < (b.length : Int) := by omega
   have h0 : (0 : Int) ≤ i := by omega
   have HI2 := Aside0.mk hi
   have HL2 := Aside0.mk l2
   have HAF := Aside0.mk g2
   have HAM := Aside0.mk (Kd.C_max g2)
   clear hx hrd hi l5 g5 g2 l2
   have HN := Aside0.mk (blk_new wo (.cells #[.string nm, .string un, .slice A2 af.length c2, .bool sb, .bool vi, .slice A5 al.length c5] 79 (0, 0)))
   have HO1 := Aside0.mk (Kd.R_alloc (Kd.R_mono (Kd.R_bound HO.out) (fun k hk => (⟨hk.1, by have := hk.2.2.1; omega⟩ : k ≠ w.heap.size ∧ k ≠ wo.heap.size))) (.cells #[.string nm, .string un, .slice A2 af.length c2, .bool sb, .bool vi, .slice A5 al.length c5] 79 (0, 0)))
   have HG1 := Aside0.mk (blk_alloc HG.out (.cells #[.string nm, .string un, .slice A2 af.length c2, .bool sb, .bool vi, .slice A5 al.length c5] 79 (0, 0)))
   have HB1 := Aside0.mk (HB.out.alloc HB.out.size (.cells #[.string nm, .string un, .slice A2 af.length c2, .bool sb, .bool vi, .slice A5 al.length c5] 79 (0, 0)))
   have HSZ := Aside0.mk (Nat.lt_of_lt_of_le (blk_lt HG.out) (Nat.le_refl _))
   go_wp2
   clear x0 x1 x2 x3 x4 x5
   obtain ⟨WS, HWS⟩ : ∃ n, Aside0 (wo.heap.size = n) := ⟨_, ⟨rfl⟩⟩
   rw [HWS.out] at HN HO1
   have HAF0 : Aside0 (∀ W, Below w.heap.size w W → Kd.string.C W A2 af.length af) := ⟨fun W h => Kd.C_below HAF.out h⟩
   have HWW : Aside0 (w.heap.size < WS) := ⟨by rw [← HWS.out]; exact HSZ.out⟩
   go_loopg [3, 20] af.length (fun kq v3 v20 w' => ∃ (j : Nat) (o2 : List S147), j + kq = af.length ∧ v20 = .int .i64 j ∧ (∃ A c, v3 = .slice A o2.length c) ∧ Aside0 (o2.length = out.length + j) ∧ Aside0 (goodPre b (af.take j)) ∧ Aside0 (arcsN b i [] af out = arcsN b i (af.take j) (af.drop j) o2) ∧ Aside0 (Kd.R k147 147 w' w.heap.size (fun k => k ≠ w.heap.size ∧ k ≠ WS) v3 o2) ∧ Aside0 (w'.heap[w.heap.size]? = some (.cells #[.slice (some ad) b.length c0] 82 (0, 0))) ∧ Aside0 (w'.heap[WS]? = some (.cells #[.string nm, .string un, .slice A2 af.length c2, .bool sb, .bool vi, .slice A5 al.length c5] 79 (0, 0))) ∧ Aside0 (Below w.heap.size w w') ∧ Aside0 (WS < w'.heap.size))
   case atStart => exact ⟨0, out, by omega, rfl, ⟨_, _, rfl⟩, ⟨rfl⟩, ⟨⟨by simp, fun s hs => by simp at hs⟩⟩, ⟨rfl⟩, HO1, HG1, HN, HB1, ⟨by have := HWS.out; simp; omega⟩⟩
   case round =>
    obtain ⟨j, o2, hj, rfl, ⟨A4, c4, rfl⟩, HLJ, HGP, HJ, HO2, HG2, HN2, HB2, HSS⟩ := hrel
    have hm2 := HAM.out
    cases gk with
    | zero =>
     obtain rfl : j = af.length := by omega
     have HE : Aside0 (arcsN b i [] af out = some o2) := ⟨by rw [HJ.out, List.drop_eq_nil_of_le (Nat.le_refl _)]; rfl⟩
     go_wp2
     go_roundg k
     case measure => omega
     case rel => exact ⟨i + 1, o2, by have := HI2.out; omega, by go_num, ⟨_, _, rfl⟩, ⟨by have h1 := HLI.out; have h2 := HLJ.out; have h3 := goodPre_len HGP.out; have h4 := H16.out; rw [List.take_length] at h3; omega⟩, ⟨by rw [HI.out, HD.out, HE.out]; rfl⟩, ⟨Kd.R_mono HO2.out (fun _ hk => hk.1)⟩, HG2, HB2⟩
    | succ k2 =>
     have hlt2 : j < af.length := by omega
     obtain ⟨ad2, e2, y0⟩ := Kd.at_string (HAF0.out _ HB2.out) (j : Int) (by omega) (by omega)
     rw [Int.toNat_natCast] at y0
     have hrd2 : rdOf ByteArray.empty af (j : Int) = af[j] := by unfold rdOf; rw [Int.toNat_natCast, List.getD_eq_getElem?_getD, List.getElem?_eq_getElem hlt2]; rfl
     rw [hrd2] at y0
     subst e2
     have HS : Aside0 (arcsN b i (af.take j) (af.drop j) o2 = if (decide (0 ≤ namedI b af[j]) && namedI b af[j] != i) && !hasText (af.take j) af[j] then arcsN b i (af.take (j + 1)) (af.drop (j + 1)) (o2 ++ [⟨namedI b af[j], i⟩]) else none) := ⟨by rw [List.drop_eq_getElem_cons hlt2, List.take_succ_eq_append_getElem hlt2]; rfl⟩
     obtain ⟨s, hs⟩ : ∃ s, af[j] = s := ⟨_, rfl⟩
     rw [hs] at y0 HS
     have hlt2' : (j : Int) < (af.length : Int) := by omega
     have h02 : (0 : Int) ≤ j := by omega
     have hjc : (j : Int) ≤ (c2 : Int) := by have := HL2.out; omega
     have HJ2 := Aside0.mk hj
     have HGP2 : Aside0 (0 ≤ namedI b s → hasText (af.take j) s = false → goodPre b (af.take (j + 1))) := ⟨fun h1 h2 => by rw [List.take_succ_eq_append_getElem hlt2, hs]; exact goodPre_snoc HGP.out h1 h2⟩
     have HLB : Aside0 (o2.length ≤ 4096) := ⟨by have h1 := HLI.out; have h2 := HLJ.out; have h3 := goodPre_len HGP.out; have h4 := H16.out; rw [List.length_take] at h3; omega⟩
     have HCT : Aside0 (∀ W, Kd.string.C W (some ad2) af.length af → Calls Try.prog 90 #[.slice (some ad2) j c2, .string s] W fun e w' => e = .returned (.bool (hasText (af.take j) s)) ∧ Drawn0 W w') := ⟨fun W hW => by
      have hl : (af.take j).length = j := by rw [List.length_take]; omega
      have h1 := Kd.C_take hW (show j ≤ af.length by omega)
      have h2 := slices_Contains_string_string.calls ((af.take j).length + 1) (some ad2) c2 (af.take j) s _ W h1 (by rw [hl]; have := HL2.out; omega) (contains_of (af.take j) s (by rw [hl]; omega))
      rw [hl] at h2
      exact h2⟩
     have c0w := (blk_cell HG2.out 0).trans rfl
     have HRB := Aside0.mk (Kd.C_below HR.out HB2.out)
     clear hs hrd2 hj
     have HNM := Aside0.mk (fun (W : World) (h : Kd.C k79 W (some ad) b.length b) => named_walk (some ad) c0 b s W h)
     generalize namedI b s = q at HNM HS HGP2
     by_cases hq0 : 0 ≤ q
     ·by_cases hqi : q = (i : Int)
      ·have hb1 : decide (0 ≤ q) = true := decide_eq_true hq0
       have hb2 : (q != (i : Int)) = false := by simpa using hqi
       have HE : Aside0 (arcsN b i [] af out = none) := ⟨by rw [HJ.out, HS.out, hb1, hb2]; rfl⟩
       clear hqi
       go_wp2_with (first
        | (go_at_call 62; refine (HNM.out _ HRB.out).mono ?_; rintro e w2 ⟨rfl, hb⟩; have HB3 := Aside0.mk (HB2.out.trans (hb.mono HB2.out.size)); clear hb)
        | (go_at_call 69; (with_reducible refine (must_no _ _).mono ?_); rintro e w2 ⟨rfl, rfl⟩))
       refine ⟨rfl, HB3.out, ?_⟩
       rw [HI.out, HD.out, HE.out]
       exact ⟨_, rfl⟩
      ·have hb1 : decide (0 ≤ q) = true := decide_eq_true hq0
       have hb2 : (q != (i : Int)) = true := by simpa using hqi
       clear hqi
       obtain ⟨x, hx⟩ : ∃ x, hasText (af.take j) s = x := ⟨_, rfl⟩
       have HX := Aside0.mk hx
       clear hx
       cases x
       ·have HE : Aside0 (arcsN b i [] af out = arcsN b i (af.take (j + 1)) (af.drop (j + 1)) (o2 ++ [⟨q, i⟩])) := ⟨by rw [HJ.out, HS.out, hb1, hb2, HX.out]; rfl⟩
        go_wp2_with (first
         | (go_at_call 62; (with_reducible refine (HNM.out _ HRB.out).mono ?_); rintro e w2 ⟨rfl, hb⟩; have HB3 := Aside0.mk (HB2.out.trans (hb.mono HB2.out.size)); have HG3 := Aside0.mk (blk_below HG2.out hb); have HN3 := Aside0.mk (blk_below HN2.out hb); have HO3 := Aside0.mk (Kd.R_below HO2.out hb); have HS5 := Aside0.mk (Nat.lt_trans HWW.out (Nat.lt_of_lt_of_le HSS.out hb.size)); have HS6 := Aside0.mk (Nat.lt_of_lt_of_le HSS.out hb.size); have n2 : w2.cell? ⟨wo.heap.size, 2, none⟩ = some (.slice (some ad2) af.length c2) := (congrArg (fun n => w2.cell? ⟨n, 2, none⟩) HWS.out).trans ((blk_cell HN3.out 2).trans rfl); clear hb)
         | (go_at_call 90; refine (HCT.out _ (HAF0.out _ HB3.out)).mono ?_; rw [HX.out]; rintro e w2 ⟨rfl, ⟨nq, rfl⟩⟩)
         | (go_at_call 69; (with_reducible refine (must_yes _ _).mono ?_); rintro e w2 ⟨rfl, rfl⟩)
         | (((with_reducible refine gate_builtin (b := .append) (xs := #[.tmp 44, .tmp 48]) rfl ?_); (try (refine gate_guard (by rfl) ?_; dsimp only)); at_builtin; go_loud (refine Kd.R_append k147 (w0 := w) w.heap.size rfl (.tmp 44) (.tmp 48) 138 147 (.agg #[.int .i64 0, .int .i64 0]) 16 rfl Try.underlying138 info147 rfl (by decide) (by omega) (.slice A4 o2.length c4) o2 ⟨q, i⟩ [.int .i64 q, .int .i64 i] (fun k => k ≠ w.heap.size ∧ k ≠ WS) (fun _ => False) rfl (by simp [Act.eval]) ?aP (fun _ hk => hk.elim) ?aF ?aO ?aB ?aS ?aL ?_; (case aP => exact k147_mkM _ _ _ ⟨q, i⟩); (case aF => exact (fun k hk => ⟨by have := HS5.out; have hk2 : w2.heap.size ≤ k := hk; omega, by have := HS6.out; have hk2 : w2.heap.size ≤ k := hk; omega⟩)); (case aO => exact (by (with_reducible repeat (first | apply Kd.R_alloc | apply Kd.R_drewN | apply Kd.R_drew)); exact HO3.out)); (case aB => exact pw_below_drewN HB3.out _); (case aS => exact Nat.le_trans HB3.out.size (by simp)); (case aL => have := HLB.out; omega); intro v4 w4 ho hb hg hat; have HO4 := Aside0.mk ho; have HB4 := Aside0.mk hb; have HG4 := Aside0.mk hg; have HV4 := Aside0.mk (Kd.R_slice ho); clear ho hb hg hat))))
        go_roundg k2
        case measure => omega
        case rel =>
         obtain ⟨A9, c9, rfl⟩ := HV4.out
         have hne1 := Kd.R_away HO3.out (g := w.heap.size) (fun k hk => hk.1)
         have hne2 := Kd.R_away HO3.out (g := WS) (fun k hk => hk.2)
         refine ⟨j + 1, o2 ++ [⟨q, i⟩], by have := HJ2.out; omega, by go_num, ⟨A9, c9, rfl⟩, ⟨by have := HLJ.out; simp; omega⟩, ⟨HGP2.out hq0 HX.out⟩, HE, HO4, ⟨blk_grown (blk_drewN HG3.out _) HG4.out hne1⟩, ⟨blk_grown (blk_drewN HN3.out _) HG4.out hne2⟩, HB4, ⟨Nat.lt_of_lt_of_le HS6.out HG4.out.size⟩⟩
       ·have HE : Aside0 (arcsN b i [] af out = none) := ⟨by rw [HJ.out, HS.out, hb1, hb2, HX.out]; rfl⟩
        go_wp2_with (first
         | (go_at_call 62; refine (HNM.out _ HRB.out).mono ?_; rintro e w2 ⟨rfl, hb⟩; have HB3 := Aside0.mk (HB2.out.trans (hb.mono HB2.out.size)); have n2 : w2.cell? ⟨wo.heap.size, 2, none⟩ = some (.slice (some ad2) af.length c2) := (congrArg (fun n => w2.cell? ⟨n, 2, none⟩) HWS.out).trans ((blk_cell (blk_below HN2.out hb) 2).trans rfl); clear hb)
         | (go_at_call 90; refine (HCT.out _ (HAF0.out _ HB3.out)).mono ?_; rw [HX.out]; rintro e w2 ⟨rfl, ⟨nq, rfl⟩⟩)
         | (go_at_call 69; (with_reducible refine (must_yes _ _).mono ?_); rintro e w2 ⟨rfl, rfl⟩)
         | (go_at_call 69; (with_reducible refine (must_no _ _).mono ?_); rintro e w2 ⟨rfl, rfl⟩))
        refine ⟨rfl, pw_below_drewN HB3.out _, ?_⟩
        rw [HI.out, HD.out, HE.out]
        exact ⟨_, rfl⟩
     ·have hb1 : decide (0 ≤ q) = false := decide_eq_false hq0
      have HE : Aside0 (arcsN b i [] af out = none) := ⟨by rw [HJ.out, HS.out, hb1]; rfl⟩
      clear hq0
      go_wp2_with (first
       | (go_at_call 62; refine (HNM.out _ HRB.out).mono ?_; rintro e w2 ⟨rfl, hb⟩; have HB3 := Aside0.mk (HB2.out.trans (hb.mono HB2.out.size)); clear hb)
       | (go_at_call 69; (with_reducible refine (must_no _ _).mono ?_); rintro e w2 ⟨rfl, rfl⟩))
      refine ⟨rfl, HB3.out, ?_⟩
      rw [HI.out, HD.out, HE.out]
      exact ⟨_, rfl⟩
end Go.Proofs.Ytihpndignekheaa.F
end

section
namespace Go.Proofs.Ytihpndignekheaa.F
open Go.RowKit Go.Proofs.YtihpndignekheaaW.PrintWords Go.Proofs.YtihpndignekheaaW.PrintLast Go.Proofs.YtihpndignekheaaW.PrintMore
attribute [local go_sem] max2_int min2_int max_two min_two max_three min_three max_four min_four
set_option linter.unusedVariables false
set_option linter.unusedSimpArgs false
def freeB (on : Nat → Nat) (done i : Nat) : Bool := (done &&& 2 ^ i == 0) && (on i &&& (18446744073709551615 - done) == 0)
def nextF (on : Nat → Nat) (done : Nat) : Nat → Nat → Option Nat
 | 0, _ => none
 | f + 1, i => if freeB on done i then some i else nextF on done f (i + 1)
def orderF (on : Nat → Nat) (n : Nat) : Nat → Nat → List Int → Option (List Int)
 | 0, _, out => some out
 | f + 1, done, out => match nextF on done n 0 with
  | none => none
  | some i => orderF on n f (done ||| 2 ^ i) (out ++ [(i : Int)])
def circleV : Value := .iface 152 (.agg #[])
def NextP (o : Option Nat) (w : World) (e : Ending) (w' : World) : Prop := w' = w ∧ (match o with | some i => e = .returned (.int .i64 (i : Int)) | none => e = .panicked [{ v := circleV, recovered := false }])
theorem nextF_lt (on : Nat → Nat) (done : Nat) : ∀ (f i j : Nat), nextF on done f i = some j → j < i + f
 | 0, i, j, h => by cases h
 | f + 1, i, j, h => by
  unfold nextF at h
  split at h
  ·cases h; omega
  ·have := nextF_lt on done f (i + 1) j h; omega
set_option maxHeartbeats 8000000 in
set_option maxRecDepth 100000 in
theorem next_walk (n : Nat) (hn : n ≤ 64) (on : Nat → Nat) (hon : ∀ i, on i < 2 ^ 64) (done : Nat) (hd : done < 2 ^ 64) (g : Nat) (w : World) (hg : w.heap[g]? = some (.cells (gCells n on) 164 (0, 0))) :
  Calls Try.prog 104 #[.pointer (some ⟨g, 0, none⟩), .int .u64 done] w (NextP (nextF on done n 0) w) := by
 have c0 : w.cell? ⟨g, 0, none⟩ = some (.int .i64 n) := (blk_cell hg 0).trans (gCells_zero n on)
 have HG := Aside0.mk hg
 have HON := Aside0.mk hon
 have HD := Aside0.mk hd
 have HN := Aside0.mk hn
 clear hg hon hd hn
 go_enter Try.func104, Try.ntmps104
 go_wp2
 clear c0
 go_loopg [10] n (fun kq v10 w' => ∃ i : Nat, i + kq = n ∧ v10 = .int .i64 i ∧ Aside0 (nextF on done n 0 = nextF on done kq i) ∧ w = w')
 case atStart => exact ⟨0, by omega, rfl, ⟨rfl⟩, rfl⟩
 case round =>
  obtain ⟨i, hi, rfl, HI, rfl⟩ := hrel
  cases gk with
  | zero =>
   obtain rfl : i = n := by omega
   have HE : Aside0 (nextF on done i 0 = none) := ⟨by rw [HI.out]; rfl⟩
   go_wp2
   refine ⟨rfl, ?_⟩
   unfold NextP
   rw [HE.out]
   exact ⟨rfl, rfl⟩
  | succ k =>
   have hlt : (i : Int) < (n : Int) := by omega
   have h0 : (0 : Int) ≤ (i : Int) := by omega
   have hi64 : i < 64 := by have := HN.out; omega
   have hpw : (2 : Nat) ^ i < 2 ^ 64 := Nat.pow_lt_pow_right (by omega) hi64
   have HA : bits .and .u64 (done : Int) ((2 : Int) ^ i) = ((done &&& 2 ^ i : Nat) : Int) := by
    have := u64_and_nat done (2 ^ i) HD.out hpw
    rwa [Int.natCast_pow] at this
   have HB : bits .andNot .u64 ((on i : Nat) : Int) (done : Int) = ((on i &&& (18446744073709551615 - done) : Nat) : Int) := u64_andNot_nat _ _ (HON.out i) HD.out
   have y1 : w.cell? ⟨g, 1 + i, none⟩ = some (.int .u64 ((on i : Nat) : Int)) := by
    refine (blk_cell HG.out (1 + i)).trans ?_
    rw [Nat.add_comm]; exact gCells_at n _ i hi64
   have HI2 := Aside0.mk hi
   have H64 := Aside0.mk hi64
   have htn : (i : Int) < 64 := by omega
   have HS : Aside0 (nextF on done (k + 1) i = if freeB on done i then some i else nextF on done k (i + 1)) := ⟨rfl⟩
   have HV : Aside0 (freeB on done i = ((done &&& 2 ^ i == 0) && (on i &&& (18446744073709551615 - done) == 0))) := ⟨rfl⟩
   clear hi hi64 hpw
   generalize (done &&& 2 ^ i) = x at HA HV
   generalize (on i &&& (18446744073709551615 - done)) = y at HB HV
   go_wp2_with (go_at_call 103; refine (one_lit i H64.out _).mono ?_; rintro e w2 ⟨rfl, rfl⟩)
   ·have hy : y = 0 := by have := (by assumption : ((y : Int) == 0) = true); simpa using this
    have hv : freeB on done i = true := by rw [HV.out]; simp [*]
    go_ret
    unfold NextP
    rw [HI.out, HS.out, hv]
    exact ⟨rfl, rfl⟩
   ·have hy : ¬ y = 0 := by have := (by assumption : ((y : Int) == 0) = false); simpa using this
    have hv : freeB on done i = false := by rw [HV.out]; simp [*]
    go_roundg k
    case measure => omega
    case rel => exact ⟨i + 1, by have := HI2.out; omega, by go_num, ⟨by rw [HI.out, HS.out, hv]; rfl⟩, rfl⟩
   ·have hv : freeB on done i = false := by rw [HV.out]; simp [*]
    go_roundg k
    case measure => omega
    case rel => exact ⟨i + 1, by have := HI2.out; omega, by go_num, ⟨by rw [HI.out, HS.out, hv]; rfl⟩, rfl⟩
theorem or_lt (done i : Nat) (hd : done < 2 ^ 64) (hi : i < 64) : done ||| 2 ^ i < 2 ^ 64 := Nat.or_lt_two_pow hd (Nat.pow_lt_pow_right (by omega) hi)
def OrderP (o : Option (List Int)) (w : World) (e : Ending) (w' : World) : Prop := Below w.heap.size w w' ∧ (match o with | some l => ∃ v, e = .returned v ∧ Kd.R (Kd.int .i64) 3 w' w.heap.size (fun _ => True) v l | none => e = .panicked [{ v := circleV, recovered := false }])
set_option maxHeartbeats 8000000 in
set_option maxRecDepth 100000 in
theorem order_walk (n : Nat) (hn : n ≤ 64) (on : Nat → Nat) (hon : ∀ i, on i < 2 ^ 64) (g : Nat) (w : World) (hg : w.heap[g]? = some (.cells (gCells n on) 164 (0, 0))) :
  Calls Try.prog 97 #[.pointer (some ⟨g, 0, none⟩)] w (OrderP (orderF on n n 0 []) w) := by
 have HG := Aside0.mk hg
 have HON := Aside0.mk hon
 have HN := Aside0.mk hn
 clear hg hon hn
 go_enter Try.func97, Try.ntmps97
 go_wp2
 go_loopg [3, 4] n (fun kq v3 v4 w' => ∃ (done : Nat) (out : List Int), v3 = .int .u64 (done : Int) ∧ (∃ A c, v4 = .slice A out.length c) ∧ Aside0 (out.length + kq = n) ∧ Aside0 (done < 2 ^ 64) ∧ Aside0 (orderF on n n 0 [] = orderF on n kq done out) ∧ Aside0 (Kd.R (Kd.int .i64) 3 w' w.heap.size (fun _ => True) v4 out) ∧ Aside0 (Below w.heap.size w w'))
 case atStart => exact ⟨0, [], rfl, ⟨none, 0, rfl⟩, ⟨by simp⟩, ⟨by decide⟩, ⟨rfl⟩, ⟨Kd.R_nil _ _ _ _ _⟩, ⟨Below.refl _ _⟩⟩
 case round =>
  obtain ⟨done, out, rfl, ⟨A, c, rfl⟩, HL, HD, HI, HO, HB⟩ := hrel
  have HG2 := Aside0.mk (blk_below HG.out HB.out)
  have c0 : wr.cell? ⟨g, 0, none⟩ = some (.int .i64 n) := (blk_cell HG2.out 0).trans (gCells_zero n on)
  have hl := HL.out
  have hn := HN.out
  cases gk with
  | zero =>
   have hlt : ¬ ((out.length : Int) < (n : Int)) := by omega
   clear hl hn
   go_wp2
   go_ret
   unfold OrderP
   rw [HI.out]
   exact ⟨HB.out, _, rfl, HO.out⟩
  | succ k =>
   have hlt : (out.length : Int) < (n : Int) := by omega
   have hol : out.length < 64 := by omega
   have HOL := Aside0.mk hol
   clear hl hn hol
   have HS : Aside0 (orderF on n (k + 1) done out = match nextF on done n 0 with | none => none | some i => orderF on n k (done ||| 2 ^ i) (out ++ [(i : Int)])) := ⟨rfl⟩
   have HX : Aside0 (∀ i, nextF on done n 0 = some i → i < 64) := ⟨fun i hi => by have := nextF_lt on done n 0 i hi; have := HN.out; omega⟩
   obtain ⟨o, ho⟩ : ∃ o, nextF on done n 0 = o := ⟨_, rfl⟩
   have HO1 := Aside0.mk ho
   clear ho
   cases o with
   | none =>
    go_wp2_with (go_at_call 104; refine (next_walk n HN.out on HON.out done HD.out g _ HG2.out).mono ?_; rw [HO1.out]; rintro e w2 ⟨rfl, rfl⟩)
    refine ⟨rfl, ?_⟩
    unfold OrderP
    rw [HI.out, HS.out, HO1.out]
    exact ⟨HB.out, rfl⟩
   | some i =>
    have HI64 := Aside0.mk (HX.out i HO1.out)
    have hor : bits .or .u64 (done : Int) ((2 : Int) ^ i) = ((done ||| 2 ^ i : Nat) : Int) := by
     have := u64_or_nat done (2 ^ i) HD.out (Nat.pow_lt_pow_right (by omega : 1 < 2) HI64.out)
     rwa [Int.natCast_pow] at this
    have HD2 := Aside0.mk (or_lt done i HD.out HI64.out)
    have HS2 : Aside0 (orderF on n n 0 [] = orderF on n k (done ||| 2 ^ i) (out ++ [(i : Int)])) := ⟨by rw [HI.out, HS.out, HO1.out]⟩
    generalize done ||| 2 ^ i = done2 at hor HD2 HS2
    go_wp2_with (first
     | (go_at_call 104; refine (next_walk n HN.out on HON.out done HD.out g _ HG2.out).mono ?_; rw [HO1.out]; rintro e w2 ⟨rfl, rfl⟩)
     | (go_at_call 103; refine (one_lit i HI64.out _).mono ?_; rintro e w2 ⟨rfl, rfl⟩)
     | (((with_reducible refine gate_builtin (b := .append) (xs := #[.tmp 20, .tmp 22]) rfl ?_); (try (refine gate_guard (by rfl) ?_; dsimp only)); at_builtin; refine Kd.R_append (Kd.int .i64) (w0 := w) w.heap.size rfl (.tmp 20) (.tmp 22) 35 3 (.int .i64 0) 8 rfl Try.underlying35 info3 rfl (by decide) (by omega) (.slice A out.length c) out (i : Int) [.int .i64 (i : Int)] (fun _ => True) (fun _ => False) rfl (by simp [Act.eval]) ?aP (fun _ hk => hk.elim) ?aF ?aO ?aB ?aS ?aL ?_; (case aP => exact rfl); (case aF => exact (fun _ _ => trivial)); (case aO => exact (by (with_reducible repeat (first | apply Kd.R_alloc | apply Kd.R_drewN | apply Kd.R_drew)); exact HO.out)); (case aB => exact HB.out); (case aS => exact HB.out.size); (case aL => have := HOL.out; omega); intro v4 w4 ho hb hg hat; have HO4 := Aside0.mk ho; have HB4 := Aside0.mk hb; obtain ⟨A4, c4, hv4⟩ := Kd.R_slice ho; clear ho hb hg hat)))
    go_roundg k
    case measure => omega
    case rel => exact ⟨done2, out ++ [(i : Int)], rfl, ⟨A4, c4, by simp⟩, ⟨by have := HL.out; simp; omega⟩, HD2, HS2, ⟨by have h := HO4.out; rw [hv4] at h; simpa using h⟩, HB4⟩
end Go.Proofs.Ytihpndignekheaa.F
end

section
namespace Go.Proofs.Ytihpndignekheaa.F
open Go.RowKit Go.Proofs.YtihpndignekheaaW.PrintWords Go.Proofs.YtihpndignekheaaW.PrintLast Go.Proofs.YtihpndignekheaaW.PrintMore
attribute [local go_sem] max2_int min2_int max_two min_two max_three min_three max_four min_four
set_option linter.unusedVariables false
set_option linter.unusedSimpArgs false
def boundsOk (n : Int) (l : List S147) : Bool := decide (0 ≤ n) && decide (n ≤ 64) && decide (l.length ≤ 4096)
def ordE (n : Int) (l : List S147) : Int := if boundsOk n l then (if l.all (arcOk n) then (if (orderF (onOf l) n.toNat n.toNat 0 []).isSome then 0 else 13) else 2) else 2
set_option maxHeartbeats 2000000 in
set_option maxRecDepth 100000 in
theorem try_idle (p : Addr) (w : World) :
  CallsD Try.prog 95 #[.pointer (some p)] .returning w fun e u' w' => e = .returned (.tuple #[]) ∧ u' = .returning ∧ w' = w := by
 refine callsD_of_wpS Try.func95 rfl fun c₀ cs hu => ?_
 apply wpS_seq
 apply wpS_region
 simp [wpOpsS, go_sem, recoverD, hu, Try.ntmps95, Exit.thenS]
 refine wpS_of_wp ?_
 go_wp2
 cases c₀
 simp_all [bodyPostS, results, Try.results95, go_sem]
theorem ta_yes (w : World) : (Instr.typeAssert (.iface 152 (.agg #[])) 20 152 true).run Try.prog w = .ok (.tuple #[.agg #[], .bool true]) w := by kernel_rfl
theorem ta_no (w : World) : (Instr.typeAssert (.iface 154 (.agg #[])) 20 152 true).run Try.prog w = .ok (.tuple #[.agg #[], .bool false]) w := by kernel_rfl
theorem ta_must (w : World) : (Instr.typeAssert (.iface 154 (.agg #[])) 20 154 false).run Try.prog w = .ok (.agg #[]) w := by kernel_rfl
set_option maxHeartbeats 4000000 in
set_option maxRecDepth 100000 in
theorem try_circle (g : Nat) (x : Int) (w : World) (hg : w.heap[g]? = some (.cells #[.int .i64 x] 29 (0, 0))) :
  CallsD Try.prog 95 #[.pointer (some ⟨g, 0, none⟩)] (.panicking [{ v := circleV, recovered := false }]) w fun e u' w' => e = .returned (.tuple #[]) ∧ u' = .panicking [{ v := circleV, recovered := true }] ∧ ∃ o, w' = (w.alloc o).setCell ⟨g, 0, none⟩ (.int .i64 13) := by
 have hG := blk_alloc hg (.cells #[] 152 (0, 0))
 have hz := blk_frozen hG 0
 have hc : (w.alloc (.cells #[] 152)).cell? ⟨g, 0, none⟩ = some (.int .i64 x) := (blk_cell hG 0).trans rfl
 clear hG hg
 refine callsD_of_wpS Try.func95 rfl fun c₀ cs hu => ?_
 apply wpS_seq
 apply wpS_region
 simp [wpOpsS, go_sem, recoverD, hu, Try.ntmps95, Exit.thenS, circleV, strayV]
 refine wpS_of_wp ?_
 clear hu
 have h1 := ta_yes
 go_wp2
 cases c₀
 simp_all [bodyPostS, results, Try.results95, go_sem]
 try exact ⟨_, rfl⟩
set_option maxHeartbeats 4000000 in
set_option maxRecDepth 100000 in
theorem try_stray (g : Nat) (x : Int) (w : World) (hg : w.heap[g]? = some (.cells #[.int .i64 x] 29 (0, 0))) :
  CallsD Try.prog 95 #[.pointer (some ⟨g, 0, none⟩)] (.panicking [{ v := strayV, recovered := false }]) w fun e u' w' => e = .returned (.tuple #[]) ∧ u' = .panicking [{ v := strayV, recovered := true }] ∧ ∃ o, w' = (w.alloc o).setCell ⟨g, 0, none⟩ (.int .i64 2) := by
 have hG := blk_alloc hg (.cells #[] 152 (0, 0))
 have hz := blk_frozen hG 0
 have hc : (w.alloc (.cells #[] 152)).cell? ⟨g, 0, none⟩ = some (.int .i64 x) := (blk_cell hG 0).trans rfl
 clear hG hg
 refine callsD_of_wpS Try.func95 rfl fun c₀ cs hu => ?_
 apply wpS_seq
 apply wpS_region
 simp [wpOpsS, go_sem, recoverD, hu, Try.ntmps95, Exit.thenS, circleV, strayV]
 refine wpS_of_wp ?_
 clear hu
 have h1 := ta_no
 have h2 := ta_must
 go_wp2
 cases c₀
 simp_all [bodyPostS, results, Try.results95, go_sem]
 try exact ⟨_, rfl⟩
def TryP (b : Nat) (n : Int) (l : List S147) (w : World) (e : Ending) (w' : World) : Prop := e = .returned (.int .i64 (ordE n l)) ∧ Below b w w' ∧ ∃ v, w'.heap[b]? = some (.cells #[v] 35 (0, 0))
set_option maxHeartbeats 2000000 in
set_option maxRecDepth 100000 in
theorem do_lit (b g : Nat) (A : Option Addr) (n c : Nat) (w : World) (hb : w.heap[b]? = some (.cells #[.slice none 0 0] 35 (0, 0))) :
  Calls Try.prog 89 #[.pointer (some ⟨g, 0, none⟩), .slice A n c, .pointer (some ⟨b, 0, none⟩)] w fun e w' => e = .returned (.tuple #[]) ∧ w' = w.setCell ⟨b, 0, none⟩ (.slice A n c) := by
 have hz := blk_frozen hb 0
 have hc : w.cell? ⟨b, 0, none⟩ = some (.slice none 0 0) := (blk_cell hb 0).trans rfl
 clear hb
 go_enter Try.func89, Try.ntmps89
 go_wp2
 exact ⟨rfl, _, results_none rfl _ _ _, rfl, rfl⟩
set_option maxHeartbeats 8000000 in
set_option maxRecDepth 100000 in
theorem try_bounds (b : Nat) (m : Int) (l0 : List S147) (A0 : Option Addr) (c0 : Nat) (w : World) (hr0 : Kd.C k147 w A0 l0.length l0) (hb : w.heap[b]? = some (.cells #[.slice none 0 0] 35 (0, 0))) (hbad : boundsOk m l0 = false) :
  Calls Try.prog 88 #[.int .i64 m, .slice A0 l0.length c0, .func (.func 89) #[] #[.pointer (some ⟨b, 0, none⟩)]] w (TryP b m l0 w) := by
 have hmf : ∀ (fn : Fn) (first cap : Array Value) (w : World), (Instr.makeFunc fn first cap).run Try.prog w = .ok (.func fn first cap) w := fun _ _ _ _ => rfl
 have HR := Aside0.mk (Kd.C_alloc hr0 (.cells #[.int .i64 0] 29))
 have HG := Aside0.mk (blk_new w (.cells #[.int .i64 0] 29 (0, 0)))
 have HBX := Aside0.mk (blk_alloc hb (.cells #[.int .i64 0] 29 (0, 0)))
 have HBL := Aside0.mk (blk_lt hb)
 have HB0 := Aside0.mk ((Below.refl b w).alloc (Nat.le_of_lt (blk_lt hb)) (.cells #[.int .i64 0] 29 (0, 0)))
 have hbad2 : ¬ (0 ≤ m ∧ m ≤ 64 ∧ l0.length ≤ 4096) := fun h => by simp [boundsOk, h.1, h.2.1, h.2.2] at hbad
 have HO : Aside0 (ordE m l0 = 2) := ⟨by simp [ordE, hbad]⟩
 have HBAD := Aside0.mk hbad2
 clear hr0 hb hbad hbad2
 go_enter_defers Try.func88, Try.ntmps88
 go_wp2_with (go_at_call 96; refine (made_bad m l0 A0 c0 _ HR.out HBAD.out).mono ?_; rintro e w2 ⟨rfl, hb⟩; have HB2 := Aside0.mk (HB0.out.trans (hb.mono (by simp; exact Nat.le_succ_of_le (Nat.le_of_lt HBL.out)))); have HG2 := Aside0.mk (blk_below HG.out hb); have HBX2 := Aside0.mk (blk_below HBX.out hb); clear hb)
 refine leaves_cons (f := 95) (args := #[.pointer (some ⟨w.heap.size, 0, none⟩)]) (by simp) (by simp [go_sem]) ?_
 refine (try_stray w.heap.size 0 _ HG2.out).mono ?_
 rintro e u' w'' ⟨rfl, rfl, o, rfl⟩
 have hG3 := blk_put (blk_alloc HG2.out o) 0 (.int .i64 2) rfl
 have hcl := (blk_cell hG3 0).trans rfl
 refine ⟨.int .i64 2, by simp [results, Try.results88, go_sem, hcl], ?_⟩
 refine ⟨by rw [HO.out], ((HB2.out.alloc (Nat.le_trans (Nat.le_of_lt HBL.out) HB2.out.size) _).setCell (p := ⟨w.heap.size, 0, none⟩) (Nat.le_of_lt HBL.out) _), _, blk_far (blk_alloc HBX2.out o) (Nat.ne_of_lt HBL.out) _⟩
set_option maxHeartbeats 8000000 in
set_option maxRecDepth 100000 in
theorem try_arcs (b : Nat) (m : Int) (l0 : List S147) (A0 : Option Addr) (c0 : Nat) (w : World) (hr0 : Kd.C k147 w A0 l0.length l0) (hb : w.heap[b]? = some (.cells #[.slice none 0 0] 35 (0, 0))) (h0 : 0 ≤ m) (h1 : m ≤ 64) (h2 : l0.length ≤ 4096) (hA : l0.all (arcOk m) = false) :
  Calls Try.prog 88 #[.int .i64 m, .slice A0 l0.length c0, .func (.func 89) #[] #[.pointer (some ⟨b, 0, none⟩)]] w (TryP b m l0 w) := by
 have hmf : ∀ (fn : Fn) (first cap : Array Value) (w : World), (Instr.makeFunc fn first cap).run Try.prog w = .ok (.func fn first cap) w := fun _ _ _ _ => rfl
 have HR := Aside0.mk (Kd.C_alloc hr0 (.cells #[.int .i64 0] 29))
 have HG := Aside0.mk (blk_new w (.cells #[.int .i64 0] 29 (0, 0)))
 have HBX := Aside0.mk (blk_alloc hb (.cells #[.int .i64 0] 29 (0, 0)))
 have HBL := Aside0.mk (blk_lt hb)
 have HB0 := Aside0.mk ((Below.refl b w).alloc (Nat.le_of_lt (blk_lt hb)) (.cells #[.int .i64 0] 29 (0, 0)))
 have HO : Aside0 (ordE m l0 = 2) := ⟨by simp [ordE, boundsOk, h0, h1, h2, hA]⟩
 have HA := Aside0.mk hA
 have H0 := Aside0.mk h0
 have H1 := Aside0.mk h1
 have H2 := Aside0.mk h2
 clear hr0 hb h0 h1 h2 hA
 go_enter_defers Try.func88, Try.ntmps88
 go_wp2_with (go_at_call 96; refine (made_loop m l0 A0 c0 _ HR.out H0.out H1.out H2.out).mono ?_; rintro e w2 ⟨hb, he⟩; rw [if_neg (by rw [HA.out]; simp)] at he; subst he; have HB2 := Aside0.mk (HB0.out.trans (hb.mono (by simp; exact Nat.le_succ_of_le (Nat.le_of_lt HBL.out)))); have HG2 := Aside0.mk (blk_below HG.out hb); have HBX2 := Aside0.mk (blk_below HBX.out hb); clear hb)
 refine leaves_cons (f := 95) (args := #[.pointer (some ⟨w.heap.size, 0, none⟩)]) (by simp) (by simp [go_sem]) ?_
 refine (try_stray w.heap.size 0 _ HG2.out).mono ?_
 rintro e u' w'' ⟨rfl, rfl, o, rfl⟩
 have hG3 := blk_put (blk_alloc HG2.out o) 0 (.int .i64 2) rfl
 have hcl := (blk_cell hG3 0).trans rfl
 refine ⟨.int .i64 2, by simp [results, Try.results88, go_sem, hcl], ?_⟩
 refine ⟨by rw [HO.out], ((HB2.out.alloc (Nat.le_trans (Nat.le_of_lt HBL.out) HB2.out.size) _).setCell (p := ⟨w.heap.size, 0, none⟩) (Nat.le_of_lt HBL.out) _), _, blk_far (blk_alloc HBX2.out o) (Nat.ne_of_lt HBL.out) _⟩
set_option maxHeartbeats 8000000 in
set_option maxRecDepth 100000 in
theorem try_cycle (b : Nat) (m : Int) (l0 : List S147) (A0 : Option Addr) (c0 : Nat) (w : World) (hr0 : Kd.C k147 w A0 l0.length l0) (hb : w.heap[b]? = some (.cells #[.slice none 0 0] 35 (0, 0))) (n : Nat) (hn : m = (n : Int)) (h1 : n ≤ 64) (h2 : l0.length ≤ 4096) (hA : l0.all (arcOk m) = true) (ho : orderF (onOf l0) n n 0 [] = none) :
  Calls Try.prog 88 #[.int .i64 m, .slice A0 l0.length c0, .func (.func 89) #[] #[.pointer (some ⟨b, 0, none⟩)]] w (TryP b m l0 w) := by
 have hmf : ∀ (fn : Fn) (first cap : Array Value) (w : World), (Instr.makeFunc fn first cap).run Try.prog w = .ok (.func fn first cap) w := fun _ _ _ _ => rfl
 have HR := Aside0.mk (Kd.C_alloc hr0 (.cells #[.int .i64 0] 29))
 have HG := Aside0.mk (blk_new w (.cells #[.int .i64 0] 29 (0, 0)))
 have HBX := Aside0.mk (blk_alloc hb (.cells #[.int .i64 0] 29 (0, 0)))
 have HBL := Aside0.mk (blk_lt hb)
 have HB0 := Aside0.mk ((Below.refl b w).alloc (Nat.le_of_lt (blk_lt hb)) (.cells #[.int .i64 0] 29 (0, 0)))
 subst hn
 have HO : Aside0 (ordE (n : Int) l0 = 13) := ⟨by simp [ordE, boundsOk, h1, h2, hA, ho]; omega⟩
 have H1 := Aside0.mk h1
 have H2 := Aside0.mk h2
 have HA := Aside0.mk hA
 have HON : Aside0 (∀ j, onOf l0 j < 2 ^ 64) := ⟨fun j => on_lt l0 (n : Int) (by omega) (fun a ha => by rw [List.all_eq_true] at hA; exact hA a ha) (fun _ => 0) (fun _ => by decide) j⟩
 have HOO := Aside0.mk ho
 have HN0 := Aside0.mk (show (0 : Int) ≤ (n : Int) by omega)
 have HN1 := Aside0.mk (show (n : Int) ≤ 64 by omega)
 clear hr0 hb h1 h2 hA ho
 go_enter_defers Try.func88, Try.ntmps88
 go_wp2_with (first
  | (go_at_call 96; refine (made_loop n l0 A0 c0 _ HR.out HN0.out HN1.out H2.out).mono ?_; rintro e w2 ⟨hb, he⟩; rw [if_pos HA.out] at he; simp only [World.size_alloc] at he; obtain ⟨rfl, hgr⟩ := he; have HGR := Aside0.mk hgr; have HB1 := Aside0.mk (HB0.out.trans (hb.mono (by simp; exact Nat.le_succ_of_le (Nat.le_of_lt HBL.out)))); have HG1 := Aside0.mk (blk_below HG.out hb); have HBX1 := Aside0.mk (blk_below HBX.out hb); have HS1 := Aside0.mk (Nat.lt_of_lt_of_le (show b < (w.alloc (.cells #[.int .i64 0] 29 (0, 0))).heap.size by simp; exact Nat.lt_succ_of_lt HBL.out) hb.size); clear hb hgr)
  | (go_at_call 97; refine (order_walk n H1.out (onOf l0) HON.out _ _ HGR.out).mono ?_; rintro e w3 ⟨hb, he⟩; rw [HOO.out] at he; subst he; have HB2 := Aside0.mk (HB1.out.trans (hb.mono (Nat.le_of_lt HS1.out))); have HG2 := Aside0.mk (blk_below HG1.out hb); have HBX2 := Aside0.mk (blk_below HBX1.out hb); clear hb))
 refine leaves_cons (f := 95) (args := #[.pointer (some ⟨w.heap.size, 0, none⟩)]) (by simp) (by simp [go_sem]) ?_
 refine (try_circle w.heap.size 0 _ HG2.out).mono ?_
 rintro e u' w'' ⟨rfl, rfl, o, rfl⟩
 have hG3 := blk_put (blk_alloc HG2.out o) 0 (.int .i64 13) rfl
 have hcl := (blk_cell hG3 0).trans rfl
 refine ⟨.int .i64 13, by simp [results, Try.results88, go_sem, hcl], ?_⟩
 refine ⟨by rw [HO.out], ((HB2.out.alloc (Nat.le_trans (Nat.le_of_lt HBL.out) HB2.out.size) _).setCell (p := ⟨w.heap.size, 0, none⟩) (Nat.le_of_lt HBL.out) _), _, blk_far (blk_alloc HBX2.out o) (Nat.ne_of_lt HBL.out) _⟩
set_option maxHeartbeats 8000000 in
set_option maxRecDepth 100000 in
theorem try_fine (b : Nat) (m : Int) (l0 : List S147) (A0 : Option Addr) (c0 : Nat) (w : World) (hr0 : Kd.C k147 w A0 l0.length l0) (hb : w.heap[b]? = some (.cells #[.slice none 0 0] 35 (0, 0))) (n : Nat) (hn : m = (n : Int)) (h1 : n ≤ 64) (h2 : l0.length ≤ 4096) (hA : l0.all (arcOk m) = true) (out : List Int) (ho : orderF (onOf l0) n n 0 [] = some out) :
  Calls Try.prog 88 #[.int .i64 m, .slice A0 l0.length c0, .func (.func 89) #[] #[.pointer (some ⟨b, 0, none⟩)]] w (TryP b m l0 w) := by
 have hmf : ∀ (fn : Fn) (first cap : Array Value) (w : World), (Instr.makeFunc fn first cap).run Try.prog w = .ok (.func fn first cap) w := fun _ _ _ _ => rfl
 have HR := Aside0.mk (Kd.C_alloc hr0 (.cells #[.int .i64 0] 29))
 have HG := Aside0.mk (blk_new w (.cells #[.int .i64 0] 29 (0, 0)))
 have HBX := Aside0.mk (blk_alloc hb (.cells #[.int .i64 0] 29 (0, 0)))
 have HBL := Aside0.mk (blk_lt hb)
 have HB0 := Aside0.mk ((Below.refl b w).alloc (Nat.le_of_lt (blk_lt hb)) (.cells #[.int .i64 0] 29 (0, 0)))
 subst hn
 have HO : Aside0 (ordE (n : Int) l0 = 0) := ⟨by simp [ordE, boundsOk, h1, h2, hA, ho]; omega⟩
 have H1 := Aside0.mk h1
 have H2 := Aside0.mk h2
 have HA := Aside0.mk hA
 have HON : Aside0 (∀ j, onOf l0 j < 2 ^ 64) := ⟨fun j => on_lt l0 (n : Int) (by omega) (fun a ha => by rw [List.all_eq_true] at hA; exact hA a ha) (fun _ => 0) (fun _ => by decide) j⟩
 have HOO := Aside0.mk ho
 have HN0 := Aside0.mk (show (0 : Int) ≤ (n : Int) by omega)
 have HN1 := Aside0.mk (show (n : Int) ≤ 64 by omega)
 clear hr0 hb h1 h2 hA ho
 go_enter_defers Try.func88, Try.ntmps88
 go_wp2_with (first
  | (go_at_call 96; refine (made_loop n l0 A0 c0 _ HR.out HN0.out HN1.out H2.out).mono ?_; rintro e w2 ⟨hb, he⟩; rw [if_pos HA.out] at he; simp only [World.size_alloc] at he; obtain ⟨rfl, hgr⟩ := he; have HGR := Aside0.mk hgr; have HB1 := Aside0.mk (HB0.out.trans (hb.mono (by simp; exact Nat.le_succ_of_le (Nat.le_of_lt HBL.out)))); have HG1 := Aside0.mk (blk_below HG.out hb); have HBX1 := Aside0.mk (blk_below HBX.out hb); have HS1 := Aside0.mk (Nat.lt_of_lt_of_le (show b < (w.alloc (.cells #[.int .i64 0] 29 (0, 0))).heap.size by simp; exact Nat.lt_succ_of_lt HBL.out) hb.size); clear hb hgr)
  | (go_at_call 97; refine (order_walk n H1.out (onOf l0) HON.out _ _ HGR.out).mono ?_; rintro e w3 ⟨hb, he⟩; rw [HOO.out] at he; obtain ⟨v, rfl, hv⟩ := he; obtain ⟨A9, c9, rfl⟩ := Kd.R_slice hv; have HB2 := Aside0.mk (HB1.out.trans (hb.mono (Nat.le_of_lt HS1.out))); have HG2 := Aside0.mk (blk_below HG1.out hb); have HBX2 := Aside0.mk (blk_below HBX1.out hb); clear hb hv)
  | (go_at_call 89; refine (do_lit b _ A9 _ c9 _ HBX2.out).mono ?_; rintro e w4 ⟨rfl, hw4⟩; have HB4 : Aside0 (Below b w w4) := ⟨by rw [hw4]; exact HB2.out.setCell (p := ⟨b, 0, none⟩) (Nat.le_refl _) _⟩; have HG4 : Aside0 (w4.heap[w.heap.size]? = some (.cells #[.int .i64 0] 29 (0, 0))) := ⟨by rw [hw4]; exact blk_far HG2.out (Nat.ne_of_gt HBL.out) _⟩; have HBX4 : Aside0 (w4.heap[b]? = some (.cells #[.slice A9 out.length c9] 35 (0, 0))) := ⟨by rw [hw4]; exact blk_put HBX2.out 0 _ rfl⟩; have y0 : w4.cell? ⟨w.heap.size, 0, none⟩ = some (.int .i64 0) := (blk_cell HG4.out 0).trans rfl; have y1 := blk_frozen HG4.out 0; clear hw4))
 refine leaves_cons (f := 95) (args := #[.pointer (some ⟨w.heap.size, 0, none⟩)]) (by simp) (by simp [go_sem]) ?_
 refine (try_idle ⟨w.heap.size, 0, none⟩ _).mono ?_
 rintro e u' w'' ⟨rfl, rfl, rfl⟩
 have hG3 := blk_put HG4.out 0 (.int .i64 0) rfl
 have hcl := (blk_cell hG3 0).trans rfl
 refine ⟨.int .i64 0, by simp [results, Try.results88, go_sem, hcl], ?_⟩
 refine ⟨by rw [HO.out], HB4.out.setCell (p := ⟨w.heap.size, 0, none⟩) (Nat.le_of_lt HBL.out) _, _, blk_far HBX4.out (Nat.ne_of_lt HBL.out) _⟩
theorem try_all (b : Nat) (m : Int) (l0 : List S147) (A0 : Option Addr) (c0 : Nat) (w : World) (hr0 : Kd.C k147 w A0 l0.length l0) (hb : w.heap[b]? = some (.cells #[.slice none 0 0] 35 (0, 0))) :
  Calls Try.prog 88 #[.int .i64 m, .slice A0 l0.length c0, .func (.func 89) #[] #[.pointer (some ⟨b, 0, none⟩)]] w (TryP b m l0 w) := by
 cases hbo : boundsOk m l0 with
 | false => exact try_bounds b m l0 A0 c0 w hr0 hb hbo
 | true =>
  simp only [boundsOk, Bool.and_eq_true, decide_eq_true_eq] at hbo
  obtain ⟨⟨h0, h1⟩, h2⟩ := hbo
  cases hA : l0.all (arcOk m) with
  | false => exact try_arcs b m l0 A0 c0 w hr0 hb h0 h1 h2 hA
  | true =>
   obtain ⟨n, rfl⟩ := Int.eq_ofNat_of_zero_le h0
   cases ho : orderF (onOf l0) n n 0 [] with
   | none => exact try_cycle b n l0 A0 c0 w hr0 hb n rfl (by omega) h2 hA ho
   | some out => exact try_fine b n l0 A0 c0 w hr0 hb n rfl (by omega) h2 hA out ho
def OrdP (m : Int) (l : List S147) (w : World) (e : Ending) (w' : World) : Prop := ∃ v, e = .returned (.tuple #[v, .int .i64 (ordE m l)]) ∧ Below w.heap.size w w'
set_option maxHeartbeats 4000000 in
set_option maxRecDepth 100000 in
theorem ord_walk (m : Int) (l0 : List S147) (A0 : Option Addr) (c0 : Nat) (w : World) (hr0 : Kd.C k147 w A0 l0.length l0) :
  Calls Try.prog 80 #[.int .i64 m, .slice A0 l0.length c0] w (OrdP m l0 w) := by
 have hmf : ∀ (fn : Fn) (first cap : Array Value) (w : World), (Instr.makeFunc fn first cap).run Try.prog w = .ok (.func fn first cap) w := fun _ _ _ _ => rfl
 have HR := Aside0.mk (Kd.C_alloc hr0 (.cells #[.slice none 0 0] 35))
 have HG := Aside0.mk (blk_new w (.cells #[.slice none 0 0] 35 (0, 0)))
 have HB0 := Aside0.mk ((Below.refl w.heap.size w).alloc (Nat.le_refl _) (.cells #[.slice none 0 0] 35 (0, 0)))
 clear hr0
 go_enter Try.func80, Try.ntmps80
 go_wp2_with (go_at_call 88; refine (try_all w.heap.size m l0 A0 c0 _ HR.out HG.out).mono ?_; rintro e w2 ⟨rfl, hb, v, hv⟩; have HB2 := Aside0.mk (HB0.out.trans hb); have y0 : w2.cell? ⟨w.heap.size, 0, none⟩ = some v := (blk_cell hv 0).trans rfl; clear hb hv)
 go_ret2
 exact ⟨v, rfl, HB2.out⟩
end Go.Proofs.Ytihpndignekheaa.F
end

section
namespace Go.Proofs.Ytihpndignekheaa.F
open Go.RowKit Go.Proofs.YtihpndignekheaaW.PrintWords Go.Proofs.YtihpndignekheaaW.PrintLast Go.Proofs.YtihpndignekheaaW.PrintMore
attribute [local go_sem] max2_int min2_int max_two min_two max_three min_three max_four min_four
set_option linter.unusedVariables false
set_option linter.unusedSimpArgs false
def bodySound (b : S82) : Bool := (decide (0 < b.f0.length) && decide (b.f0.length ≤ 16)) && (match arcsL b.f0 0 b.f0 [] with | none => false | some a => ordE b.f0.length a == 0)
def soundB (l : List S82) : Bool := decide (l.length ≤ 4) && l.all bodySound
def SoundP (o : Bool) (w : World) (e : Ending) (w' : World) : Prop := Below w.heap.size w w' ∧ (if o then e = .returned (.tuple #[]) else ∃ why, e = .panicked [{ v := faultV why, recovered := false }])
structure SoundS (A1 : Option Addr) (b : List S79) (base w' : World) : Prop where
 c : Kd.C k79 w' A1 b.length b
 b : Below base.heap.size base w'
theorem SoundS.below {A1 : Option Addr} {b : List S79} {base W w' : World} (h : SoundS A1 b base W) (hb : Below W.heap.size W w') : Below base.heap.size base w' := h.b.trans (hb.mono h.b.size)
theorem SoundS.step {A1 : Option Addr} {b : List S79} {base W w' : World} (h : SoundS A1 b base W) (hb : Below W.heap.size W w') : SoundS A1 b base w' := ⟨Kd.C_below h.c hb, h.below hb⟩
set_option maxHeartbeats 8000000 in
set_option maxRecDepth 100000 in
theorem sound_walk (A0 : Option Addr) (c0 : Nat) (l : List S82) (w : World) (hr0 : Kd.C k82 w A0 l.length l) (hc0 : l.length ≤ c0) :
  Calls Try.prog 72 #[.slice A0 l.length c0] w (SoundP (soundB l) w) := by
 have HR := Aside0.mk hr0
 have HM := Aside0.mk (Kd.C_max hr0)
 clear hr0 hc0
 by_cases h4 : l.length ≤ 4
 ·have hb4 : decide ((l.length : Int) ≤ 4) = true := decide_eq_true (by omega)
  have HV : Aside0 (soundB l = l.all bodySound) := ⟨by simp [soundB, h4]⟩
  have H4 := Aside0.mk h4
  go_enter Try.func72, Try.ntmps72
  go_wp2_with (go_at_call 69; (with_reducible refine (must_yes _ _).mono ?_); rintro e w2 ⟨rfl, rfl⟩)
  clear hb4
  go_loopg [12] l.length (fun kq v12 w' => ∃ i : Nat, i + kq = l.length ∧ v12 = .int .i64 i ∧ Aside0 (l.all bodySound = (l.drop i).all bodySound) ∧ Aside0 (Below w2.heap.size w2 w'))
  case atStart => exact ⟨0, by omega, rfl, ⟨rfl⟩, ⟨Below.refl _ _⟩⟩
  case round =>
   obtain ⟨i, hi, rfl, HI, HB⟩ := hrel
   have hm := HM.out
   cases gk with
   | zero =>
    obtain rfl : i = l.length := by omega
    have HE : Aside0 (soundB l = true) := ⟨by rw [HV.out, HI.out, List.drop_eq_nil_of_le (Nat.le_refl _)]; rfl⟩
    go_wp2
    refine ⟨rfl, _, results_none rfl _ _ _, HB.out, ?_⟩
    rw [if_pos HE.out]
   | succ k =>
    have hlt : i < l.length := by omega
    obtain ⟨ad, A1, c1, e0, x0, l0, g0⟩ := at_T82 (Kd.C_below HR.out HB.out) (i : Int) (by omega) (by omega)
    rw [Int.toNat_natCast] at x0
    have hrd : rd_T82 l (i : Int) = l[i] := by unfold rd_T82; rw [Int.toNat_natCast, List.getD_eq_getElem?_getD, List.getElem?_eq_getElem hlt]; rfl
    rw [hrd] at x0 l0 g0
    subst e0
    have HD : Aside0 ((l.drop i).all bodySound = (bodySound l[i] && (l.drop (i + 1)).all bodySound)) := ⟨by rw [List.drop_eq_getElem_cons hlt]; rfl⟩
    obtain ⟨⟨b⟩, hb⟩ : ∃ b, l[i] = b := ⟨_, rfl⟩
    rw [hb] at x0 l0 g0 HD
    simp only at x0 l0 g0
    have hlt' : (i : Int) < (l.length : Int) := by omega
    have h0 : (0 : Int) ≤ i := by omega
    have HI2 := Aside0.mk hi
    have HL0 := Aside0.mk l0
    have HBM := Aside0.mk (Kd.C_max g0)
    have HG0 := Aside0.mk (Kd.C_alloc g0 (.cells #[.slice A1 b.length c1] 82 (0, 0)))
    have HN := Aside0.mk (blk_new wr (.cells #[.slice A1 b.length c1] 82 (0, 0)))
    have HB1 := Aside0.mk (HB.out.alloc HB.out.size (.cells #[.slice A1 b.length c1] 82 (0, 0)))
    clear hrd hi hb g0 l0
    have hbm := HBM.out
    by_cases hp : 0 < b.length
    ·by_cases h16 : b.length ≤ 16
     ·have q1 : decide ((b.length : Int) > 0) = true := decide_eq_true (by omega)
      have q2 : decide ((b.length : Int) ≤ 16) = true := decide_eq_true (by omega)
      have HX : Aside0 (bodySound ⟨b⟩ = match arcsL b 0 b [] with | none => false | some a => ordE b.length a == 0) := ⟨by simp [bodySound, hp, h16]⟩
      have H16 := Aside0.mk h16
      go_wp2_with (go_at_call 69; (with_reducible refine (must_yes _ _).mono ?_); rintro e w3 ⟨rfl, rfl⟩)
      obtain ⟨WN, HWN⟩ : ∃ W, Aside0 (W = wr.alloc (.cells #[.slice A1 b.length c1] 82 (0, 0))) := ⟨_, ⟨rfl⟩⟩
      rw [← HWN.out] at HG0 HN HB1
      have hcl : WN.drew.cell? ⟨wr.heap.size, 0, none⟩ = some (.slice A1 b.length c1) := (blk_cell (blk_drew HN.out) 0).trans rfl
      have hS0 : SoundS A1 b w2 WN.drew := ⟨Kd.C_drew HG0.out, below_drew HB1.out⟩
      have HLT := Aside0.mk (blk_lt (blk_drew HN.out))
      rw [show wr.alloc (.cells #[.slice A1 b.length c1] 82) = WN from HWN.out.symm]
      cases ha : arcsL b 0 b [] with
      | none =>
       have HX2 : Aside0 (soundB l = false) := ⟨by rw [HV.out, HI.out, HD.out, HX.out, ha]; rfl⟩
       have HA := Aside0.mk ha
       clear ha
       have HS0 := Aside0.mk hS0
       clear hS0
       refine start_ (n := 11) (S := fun w' => w'.cell? ⟨wr.heap.size, 0, none⟩ = some (.slice A1 b.length c1)) (ds := []) #[false, false, false, false, false, false, false, false, false, false, false] (by kernel_rfl) rfl rfl hcl (fun hHeld => ?_)
       generalize WN.drew = W5 at hcl HS0 hHeld ⊢
       refine pure_ (i := 0) (N := (some 28)) (v := ?_) (a' := ?_) #[true, false, false, false, false, false, false, false, false, false, false] rfl rfl (by kernel_rfl) (fun _ _ _ h => h) (Or.inl ⟨by rfl, ?_⟩) ?_ ?_
       rotate_left
       ·intro w'
        go_simp
        with_reducible rfl
       rotate_left
       ·simp only [Act.put, List.setIfInBounds_toArray, List.set_cons_zero, List.set_cons_succ, i64_w, i32_w]
        rfl
       refine take_ (i := 1) (N := (some 29)) (v := ?_) (a' := ?_) #[true, true, false, false, false, false, false, false, false, false, false] rfl rfl (by kernel_rfl) (fun _ _ _ h => h) (Or.inl ⟨by rfl, ?_⟩) hHeld ?_ ?_
       rotate_left
       ·rintro w' s0
        go_simp
        with_reducible rfl
       rotate_left
       ·simp only [Act.put, List.setIfInBounds_toArray, List.set_cons_zero, List.set_cons_succ, i64_w, i32_w]
        rfl
       refine pure_ (i := 2) (N := (some 30)) (v := ?_) (a' := ?_) #[true, true, true, false, false, false, false, false, false, false, false] rfl rfl (by kernel_rfl) (fun _ _ _ h => h) (Or.inl ⟨by rfl, ?_⟩) ?_ ?_
       rotate_left
       ·intro w'
        go_simp
        with_reducible rfl
       rotate_left
       ·simp only [Act.put, List.setIfInBounds_toArray, List.set_cons_zero, List.set_cons_succ, i64_w, i32_w]
        rfl
       refine take_ (i := 3) (N := (some 31)) (v := ?_) (a' := ?_) #[true, true, true, true, false, false, false, false, false, false, false] rfl rfl (by kernel_rfl) (fun _ _ _ h => h) (Or.inl ⟨by rfl, ?_⟩) hHeld ?_ ?_
       rotate_left
       ·rintro w' s0
        go_simp
        with_reducible rfl
       rotate_left
       ·simp only [Act.put, List.setIfInBounds_toArray, List.set_cons_zero, List.set_cons_succ, i64_w, i32_w]
        rfl
       refine one_ (i := 4) (N := (some 32)) #[true, true, true, true, true, false, false, false, false, false, false] rfl rfl (by kernel_rfl) (by decide) (fun K hK => ?_)
       refine goesP_ Try.func81 (by kernel_rfl) rfl #[.agg #[.slice A1 b.length c1]] (by rfl) rfl rfl (by first | rfl | (simp only [List.map_toArray, List.map_cons, List.map_nil]; rfl)) ?_
       refine (arcs_walk A1 c1 b _ HS0.out.c HL0.out H16.out).mono ?_
       rintro e w3 ⟨hb, he⟩
       rw [HA.out] at he
       obtain ⟨why, rfl⟩ := he
       refine ⟨rfl, SoundS.below HS0.out hb, ?_⟩
       rw [if_neg (by rw [HX2.out]; simp)]
       exact ⟨_, rfl⟩
      | some a =>
       have HA := Aside0.mk ha
       rw [ha] at HX
       clear ha
       have HS0 := Aside0.mk hS0
       clear hS0
       have hx : bodySound ⟨b⟩ = (ordE b.length a == 0) := HX.out
       refine start_ (n := 11) (S := fun w' => w'.cell? ⟨wr.heap.size, 0, none⟩ = some (.slice A1 b.length c1)) (ds := []) #[false, false, false, false, false, false, false, false, false, false, false] (by kernel_rfl) rfl rfl hcl (fun hHeld => ?_)
       generalize WN.drew = W5 at hcl HS0 hHeld ⊢
       refine pure_ (i := 0) (N := (some 28)) (v := ?_) (a' := ?_) #[true, false, false, false, false, false, false, false, false, false, false] rfl rfl (by kernel_rfl) (fun _ _ _ h => h) (Or.inl ⟨by rfl, ?_⟩) ?_ ?_
       rotate_left
       ·intro w'
        go_simp
        with_reducible rfl
       rotate_left
       ·simp only [Act.put, List.setIfInBounds_toArray, List.set_cons_zero, List.set_cons_succ, i64_w, i32_w]
        rfl
       refine take_ (i := 1) (N := (some 29)) (v := ?_) (a' := ?_) #[true, true, false, false, false, false, false, false, false, false, false] rfl rfl (by kernel_rfl) (fun _ _ _ h => h) (Or.inl ⟨by rfl, ?_⟩) hHeld ?_ ?_
       rotate_left
       ·rintro w' s0
        go_simp
        with_reducible rfl
       rotate_left
       ·simp only [Act.put, List.setIfInBounds_toArray, List.set_cons_zero, List.set_cons_succ, i64_w, i32_w]
        rfl
       refine pure_ (i := 2) (N := (some 30)) (v := ?_) (a' := ?_) #[true, true, true, false, false, false, false, false, false, false, false] rfl rfl (by kernel_rfl) (fun _ _ _ h => h) (Or.inl ⟨by rfl, ?_⟩) ?_ ?_
       rotate_left
       ·intro w'
        go_simp
        with_reducible rfl
       rotate_left
       ·simp only [Act.put, List.setIfInBounds_toArray, List.set_cons_zero, List.set_cons_succ, i64_w, i32_w]
        rfl
       refine take_ (i := 3) (N := (some 31)) (v := ?_) (a' := ?_) #[true, true, true, true, false, false, false, false, false, false, false] rfl rfl (by kernel_rfl) (fun _ _ _ h => h) (Or.inl ⟨by rfl, ?_⟩) hHeld ?_ ?_
       rotate_left
       ·rintro w' s0
        go_simp
        with_reducible rfl
       rotate_left
       ·simp only [Act.put, List.setIfInBounds_toArray, List.set_cons_zero, List.set_cons_succ, i64_w, i32_w]
        rfl
       refine one_ (i := 4) (N := (some 32)) #[true, true, true, true, true, false, false, false, false, false, false] rfl rfl (by kernel_rfl) (by decide) (fun K hK => ?_)
       refine goesP_ Try.func81 (by kernel_rfl) rfl #[.agg #[.slice A1 b.length c1]] (by rfl) rfl rfl (by first | rfl | (simp only [List.map_toArray, List.map_cons, List.map_nil]; rfl)) ?_
       refine (arcs_walk A1 c1 b _ HS0.out.c HL0.out H16.out).mono ?_
       rintro e w3 ⟨hb, he⟩
       rw [HA.out] at he
       obtain ⟨v, rfl, hv⟩ := he
       obtain ⟨A9, c9, rfl⟩ := Kd.R_slice hv
       have HS3 := Aside0.mk (SoundS.step HS0.out hb)
       have HC9 := Aside0.mk (Kd.R_reads' hv).2.2
       have hn3 := (hb.cell (World.block_lt_of_cell? _ _ hHeld)).trans hHeld
       clear hb hv
       refine hK.out _ _ hn3 (fun hHeld => ?_)
       clear hK K
       refine norm_ (a' := ?_) ?_ ?_
       rotate_left
       ·show Act.put _ (some 32) _ = _
        simp only [Act.put, List.setIfInBounds_toArray, List.set_cons_zero, List.set_cons_succ, i64_w, i32_w]
        rfl
       refine one_ (i := 5) (N := (some 33)) #[true, true, true, true, true, true, false, false, false, false, false] rfl rfl (by kernel_rfl) (by decide) (fun K hK => ?_)
       refine goesP_ Try.func80 (by kernel_rfl) rfl #[.int .i64 b.length, .slice A9 a.length c9] (by rfl) rfl rfl (by first | rfl | (simp only [List.map_toArray, List.map_cons, List.map_nil]; rfl)) ?_
       refine (ord_walk _ a A9 c9 _ HC9.out).mono ?_
       rintro e w4 ⟨v4, rfl, hb⟩
       have HS4 := Aside0.mk (SoundS.step HS3.out hb)
       have hn4 := (hb.cell (World.block_lt_of_cell? _ _ hHeld)).trans hHeld
       clear hb
       refine hK.out _ _ hn4 (fun hHeld => ?_)
       clear hK K
       refine norm_ (a' := ?_) ?_ ?_
       rotate_left
       ·show Act.put _ (some 33) _ = _
        simp only [Act.put, List.setIfInBounds_toArray, List.set_cons_zero, List.set_cons_succ, i64_w, i32_w]
        rfl
       refine pure_ (i := 6) (N := (some 27)) (v := ?_) (a' := ?_) #[true, true, true, true, true, true, true, false, false, false, false] rfl rfl (by kernel_rfl) (fun _ _ _ h => h) (Or.inl ⟨by rfl, ?_⟩) ?_ ?_
       rotate_left
       ·intro w'
        go_simp
        with_reducible rfl
       rotate_left
       ·simp only [Act.put, List.setIfInBounds_toArray, List.set_cons_zero, List.set_cons_succ, i64_w, i32_w]
        rfl
       refine pure_ (i := 7) (N := (some 34)) (v := ?_) (a' := ?_) #[true, true, true, true, true, true, true, true, false, false, false] rfl rfl (by kernel_rfl) (fun _ _ _ h => h) (Or.inl ⟨by rfl, ?_⟩) ?_ ?_
       rotate_left
       ·intro w'
        go_simp
        with_reducible rfl
       rotate_left
       ·simp only [Act.put, List.setIfInBounds_toArray, List.set_cons_zero, List.set_cons_succ, i64_w, i32_w]
        rfl
       refine pure_ (i := 8) (N := (some 35)) (v := ?_) (a' := ?_) #[true, true, true, true, true, true, true, true, true, false, false] rfl rfl (by kernel_rfl) (fun _ _ _ h => h) (Or.inl ⟨by rfl, ?_⟩) ?_ ?_
       rotate_left
       ·intro w'
        go_simp
        with_reducible rfl
       rotate_left
       ·simp only [Act.put, List.setIfInBounds_toArray, List.set_cons_zero, List.set_cons_succ, i64_w, i32_w]
        rfl
       refine pure_ (i := 9) (N := (some 4)) (v := ?_) (a' := ?_) #[true, true, true, true, true, true, true, true, true, true, false] rfl rfl (by kernel_rfl) (fun _ _ _ h => h) (Or.inl ⟨by rfl, ?_⟩) ?_ ?_
       rotate_left
       ·intro w'
        go_simp
        with_reducible rfl
       rotate_left
       ·simp only [Act.put, List.setIfInBounds_toArray, List.set_cons_zero, List.set_cons_succ, i64_w, i32_w]
        rfl
       refine pure_ (i := 10) (N := (some 5)) (v := ?_) (a' := ?_) #[true, true, true, true, true, true, true, true, true, true, true] rfl rfl (by kernel_rfl) (fun _ _ _ h => h) (Or.inl ⟨by rfl, ?_⟩) ?_ ?_
       rotate_left
       ·intro w'
        go_simp
        with_reducible rfl
       rotate_left
       ·simp only [Act.put, List.setIfInBounds_toArray, List.set_cons_zero, List.set_cons_succ, i64_w, i32_w]
        rfl
       refine done_ (by kernel_rfl) ?_
       cases hv : (ordE b.length a == 0) with
       | true =>
        rw [hv] at hx
        have hx2 := Aside0.mk hx
        clear hx
        go_wp2_with (go_at_call 69; (with_reducible refine (must_yes _ _).mono ?_); rintro e w5 ⟨rfl, rfl⟩)
        go_roundg k
        case measure => omega
        case rel => exact ⟨i + 1, by have := HI2.out; omega, by go_num, ⟨by rw [HI.out, HD.out, hx2.out]; rfl⟩, ⟨HS4.out.b⟩⟩
       | false =>
        rw [hv] at hx
        have HX2 : Aside0 (soundB l = false) := ⟨by rw [HV.out, HI.out, HD.out, hx]; rfl⟩
        clear hx
        go_wp2_with (go_at_call 69; (with_reducible refine (must_no _ _).mono ?_); rintro e w5 ⟨rfl, rfl⟩)
        refine ⟨rfl, HS4.out.b, ?_⟩
        rw [if_neg (by rw [HX2.out]; simp)]
        exact ⟨_, rfl⟩
     ·have q1 : decide ((b.length : Int) > 0) = true := decide_eq_true (by omega)
      have q2 : decide ((b.length : Int) ≤ 16) = false := decide_eq_false (by omega)
      have HX : Aside0 (soundB l = false) := ⟨by rw [HV.out, HI.out, HD.out]; simp [bodySound, h16]⟩
      go_wp2_with (go_at_call 69; (with_reducible refine (must_no _ _).mono ?_); rintro e w3 ⟨rfl, rfl⟩)
      refine ⟨rfl, HB1.out, ?_⟩
      rw [if_neg (by rw [HX.out]; simp)]
      exact ⟨_, rfl⟩
    ·have q1 : decide ((b.length : Int) > 0) = false := decide_eq_false (by omega)
     have HX : Aside0 (soundB l = false) := ⟨by rw [HV.out, HI.out, HD.out]; simp [bodySound, hp]⟩
     go_wp2_with (go_at_call 69; (with_reducible refine (must_no _ _).mono ?_); rintro e w3 ⟨rfl, rfl⟩)
     refine ⟨rfl, HB1.out, ?_⟩
     rw [if_neg (by rw [HX.out]; simp)]
     exact ⟨_, rfl⟩
 ·have hb4 : decide ((l.length : Int) ≤ 4) = false := decide_eq_false (by omega)
  have HV : Aside0 (soundB l = false) := ⟨by simp [soundB, h4]⟩
  go_enter Try.func72, Try.ntmps72
  go_wp2_with (go_at_call 69; (with_reducible refine (must_no _ _).mono ?_); rintro e w2 ⟨rfl, rfl⟩)
  refine ⟨rfl, Below.refl _ _, ?_⟩
  rw [if_neg (by rw [HV.out]; simp)]
  exact ⟨_, rfl⟩
end Go.Proofs.Ytihpndignekheaa.F
end
