-- Texts of this seat's, joined.
import Derived.Test.YtloijngccppfgaaGreatZTaskOrder1
import Derived.Test.YtloijngccppfgaaGreatZTaskOrder4
import Derived.BigRegion
import Derived.Deep.RegionHeld2
import Derived.WalkSmall
import Derived.RegionCalls
import Derived.Shelf.Abstract
import Derived.Recover
import Derived.Test.YtloijngccppfgaaGreatProg
import Derived.Below
import Derived.Deep.Draws
import Derived.Deep.AppendLies
import Derived.Maps.AppendAt
import Derived.OwnWalk
import Derived.Laws.BytesArg
import Derived.Laws.MakeOwn
import Derived.Laws.OwnMore
import Derived.Deep.OwnRows
import Derived.Tactics
import Derived.Lib.ConvBytes
import Derived.Laws.Slices
import Derived.WalkKit
import Derived.KernelRfl
import Derived.RowKit3
import Derived.Deep.LoopGhost
import Derived.Deep.QuietTactic
import Derived.BigQuiet
import Derived.WideLaws
import Derived.Deep.DeepCutAuto
import Derived.Deep.CutBlock
import Derived.Deep.RegionHeld3
import Derived.Laws.Rows
import Derived.Lib.AppendStr
import Derived.ArgAppend
import Derived.Laws.IdiomCopy
import Derived.OrdersHeld
import Derived.Laws.BitsLemmas
import Derived.RowKit
import Derived.Laws.StructEq
import Derived.Test.YtloijngccppfgaaGreatZTaskOrder3
import Derived.RangeFuncNested
import Derived.RangeFuncLeaves
import Derived.RegionIn
import Derived.LoopIn
import Derived.TacticsInMore
import Derived.OwnWalkIn
import Derived.Shelf.AbstractIn
section
namespace Go.Proofs.YtloijngccppfgaaGreat.F
open Go.RowKit Go.Proofs.YtloijngccppfgaaGreatW.PrintWords Go.Proofs.YtloijngccppfgaaGreatW.PrintLast Go.Proofs.YtloijngccppfgaaGreatW.PrintMore
attribute [local go_sem] max2_int min2_int max_two min_two max_three min_three max_four min_four
set_option linter.unusedVariables false
set_option linter.unusedSimpArgs false
def fl0 : Fl := ⟨false, false, false, false, false, 0⟩
def stZ : St := ⟨fun _ => fl0, fun _ _ => ⟨false, false, false⟩⟩
theorem zero_board (pv lv : Value) : (Tryz.zeroCells130.setIfInBounds 0 pv).setIfInBounds 1 lv = bCells (memOf pv lv stZ) := by kernel_rfl
def stA : St := ⟨fun _ => fl0, fun _ _ => ⟨false, true, true⟩⟩
def stB (i k : Nat) : St := ⟨fun _ => fl0, fun a b => if a < i ∨ (a = i ∧ b < k) then ⟨false, true, true⟩ else ⟨false, false, false⟩⟩
theorem BoardAt.congr {w : World} {g : Nat} {pv lv : Value} {s s' : St} (h : BoardAt w g pv lv s) (h1 : ∀ i, i < 64 → s.it i = s'.it i) (h2 : ∀ i k, i < 64 → k < 4 → s.bo i k = s'.bo i k) : BoardAt w g pv lv s' := by
 refine BoardAt.of h (fun j hj => ?_)
 unfold memOf
 by_cases h0 : j = 0
 ·rw [if_pos h0, if_pos h0]
 by_cases h3 : j = 1
 ·rw [if_neg h0, if_pos h3, if_neg h0, if_pos h3]
 by_cases h4 : j < 386
 ·rw [if_neg h0, if_neg h3, if_pos h4, if_neg h0, if_neg h3, if_pos h4, h1 _ (by omega)]
 ·rw [if_neg h0, if_neg h3, if_neg h4, if_neg h0, if_neg h3, if_neg h4, h2 _ _ (by omega) (by omega)]
theorem BoardAt.putBy {w : World} {g : Nat} {pv lv : Value} {s : St} (h : BoardAt w g pv lv s) (i k : Nat) (hi : i < 64) (hk : k < 4) (b : By) : BoardAt (((w.setCell ⟨g, 386 + i * 12 + k * 3, none⟩ (.bool b.fa)).setCell ⟨g, 386 + i * 12 + k * 3 + 1, none⟩ (.bool b.wh)).setCell ⟨g, 386 + i * 12 + k * 3 + 2, none⟩ (.bool b.cl)) g pv lv (s.setBo i k b) :=
 ((h.putBo i k 0 hi hk (by omega) (.bool b.fa) ⟨b.fa, (s.bo i k).wh, (s.bo i k).cl⟩ (by exact by3_ rfl rfl rfl)).reBo 1 hi hk (by omega) (.bool b.wh) ⟨b.fa, b.wh, (s.bo i k).cl⟩ (by exact by3_ rfl rfl rfl)).reBo 2 hi hk (by omega) (.bool b.cl) b (by exact by3_ rfl rfl rfl)
theorem stB_zero {w : World} {g : Nat} {pv lv : Value} (h : BoardAt w g pv lv stZ) : BoardAt w g pv lv (stB 0 0) := h.congr (fun _ _ => rfl) (fun i k _ _ => by simp [stB, stZ])
theorem stB_next {w : World} {g : Nat} {pv lv : Value} {i k : Nat} (h : BoardAt w g pv lv ((stB i k).setBo i k ⟨false, true, true⟩)) : BoardAt w g pv lv (stB i (k + 1)) := h.congr (fun _ _ => rfl) (fun a b _ _ => by
 unfold stB St.setBo
 dsimp only
 by_cases h1 : a = i ∧ b = k
 ·rw [if_pos h1, if_pos (by omega)]
 ·rw [if_neg h1]
  by_cases h2 : a < i ∨ (a = i ∧ b < k)
  ·rw [if_pos h2, if_pos (by omega)]
  ·rw [if_neg h2, if_neg (by omega)])
theorem stB_row {w : World} {g : Nat} {pv lv : Value} {i : Nat} (h : BoardAt w g pv lv (stB i 4)) : BoardAt w g pv lv (stB (i + 1) 0) := h.congr (fun _ _ => rfl) (fun a b _ hb => by
 unfold stB
 dsimp only
 by_cases h2 : a < i ∨ (a = i ∧ b < 4)
 ·rw [if_pos h2, if_pos (by omega)]
 ·rw [if_neg h2, if_neg (by omega)])
theorem stB_all {w : World} {g : Nat} {pv lv : Value} (h : BoardAt w g pv lv (stB 64 0)) : BoardAt w g pv lv stA := h.congr (fun _ _ => rfl) (fun a b ha _ => by
 unfold stB stA
 dsimp only
 rw [if_pos (by omega)])
def turnS (p : List S39) (l : List S50) (s : St) (i : Nat) : St :=
 let s1 := if (rd_T39 p (i : Int)).f2 then s.setIt i (sagaS (rd_T39 p (i : Int)).f4.toNat (s.bo i) (s.it i)) else s.setIt i (stepS (rd_T50 l (i : Int)))
 if i = 0 then s1 else handS (rd_T39 p (i : Int)).f3 (rd_T50 l (i : Int)).f0 (s1.it i) s1 (rd_T39 p (i : Int)).f5.toNat (rd_T39 p (i : Int)).f6.toNat
def downS (p : List S39) (l : List S50) : Nat → St → St
 | 0, s => s
 | m + 1, s => downS p l m (turnS p l s m)
def haltF (p : List S39) (s : St) (i : Nat) : Fl := ⟨(s.it i).cl, (s.it i).tc, (s.it i).dn, (s.it i).sp, (s.bo (rd_T39 p (i : Int)).f5.toNat (rd_T39 p (i : Int)).f6.toNat).fa || (s.it (rd_T39 p (i : Int)).f5.toNat).ha, (s.it i).at_⟩
def haltS (p : List S39) (s : St) (i : Nat) : St := if i = 0 then s else s.setIt i (haltF p s i)
def upS (p : List S39) : Nat → Nat → St → St
 | _, 0, s => s
 | i, d + 1, s => upS p (i + 1) d (haltS p s i)
def madeS (p : List S39) (l : List S50) : St := upS p 0 p.length (downS p l p.length stA)
def ShapeP (p : List S39) : Prop := p.length ≤ 64 ∧ ∀ i : Nat, i < p.length → (0 ≤ (rd_T39 p (i : Int)).f4 ∧ (rd_T39 p (i : Int)).f4 ≤ 4) ∧ (i ≠ 0 → 0 ≤ (rd_T39 p (i : Int)).f5 ∧ (rd_T39 p (i : Int)).f5 < i ∧ 0 ≤ (rd_T39 p (i : Int)).f6 ∧ (rd_T39 p (i : Int)).f6 < 4)
def MadeB (w0 : World) (p : List S39) (Ap : Option Addr) (cp : Nat) (l : List S50) (s : St) (w' : World) (g : Nat) : Prop :=
 Below w0.heap.size w0 w' ∧ w0.heap.size ≤ g ∧ ∃ Al cl, BoardAt w' g (.slice Ap p.length cp) (.slice Al l.length cl) s ∧ Kd.F k50 w' (fun k_ => w0.heap.size ≤ k_) Al l.length l
set_option maxHeartbeats 8000000 in
set_option maxRecDepth 100000 in
theorem made_board_walk (p : List S39) (Ap : Option Addr) (cp : Nat) (l : List S50) (A1 : Option Addr) (c1 : Nat) (w : World) (hr : Kd.C k39 w Ap p.length p) (hl : Kd.C k50 w A1 l.length l) (hpl : l.length = p.length) (hs : ShapeP p) :
  Calls Tryz.prog 63 #[.agg #[.slice Ap p.length cp], .slice A1 l.length c1] w fun e w' => ∃ g, e = .returned (.pointer (some ⟨g, 0, none⟩)) ∧ MadeB w p Ap cp l (madeS p l) w' g := by
 have HR := Aside0.mk hr
 have HL := Aside0.mk hl
 have HPL := Aside0.mk hpl
 have HS := Aside0.mk hs
 clear hr hl hpl hs
 go_enter Tryz.func63, Tryz.ntmps63
 go_wp2_with (fail)
 have HCL := Aside0.mk (fun (W : World) (hb : Below w.heap.size w W) => clone_walk A1 c1 l W (Kd.C_below HL.out hb) (by have := HPL.out; have := HS.out.1; omega))
 go_region_held2 (fun w' => w'.cell? ⟨w.heap.size, 0, none⟩ = some (.slice Ap p.length cp)) (first | (go_keep; done) | exact (blk_cell (blk_below (blk_drew (blk_new _ _)) hb2) 0).trans rfl) ((go_at_call 94; refine (HCL.out _ (below_drewN (below_alloc (Below.refl _ _) _) 1)).mono ?_; rintro e w2 ⟨v, rfl, hR2, hb2⟩; obtain ⟨A2, c2, rfl⟩ := Kd.R_slice hR2; have HR2 := Aside0.mk hR2))
 rw [zero_board]
 have HB2 := Aside0.mk ((below_drewN (below_alloc (Below.refl w.heap.size w) (.cells #[.slice Ap p.length cp] 24 (0, 0))) 1).trans (hb2.mono (by simp)))
 have HP2 : Aside0 (w2.heap[w.heap.size]? = some (.cells #[.slice Ap p.length cp] 24 (0, 0))) := ⟨blk_below (blk_drew (blk_new _ _)) hb2⟩
 have HL2 : Aside0 (Kd.C k50 w2 A2 l.length l) := ⟨(Kd.R_reads' HR2.out).2.2⟩
 have HLF2 : Aside0 (Kd.F k50 w2 (fun k_ => w.heap.size ≤ k_) A2 l.length l) := ⟨Kd.F_mono (Kd.R_F (Kd.R_tight rfl HR2.out)) (fun k hk => Nat.le_trans (by simp) (Kd.R_base HR2.out k hk.symm))⟩
 have HR1 : Aside0 (Kd.C k39 w2 Ap p.length p) := ⟨Kd.C_below HR.out HB2.out⟩
 clear hR2 hb2 HCL HL HR
 obtain ⟨W, hW⟩ : ∃ W, W = w2.alloc (.cells (bCells (memOf (.slice Ap p.length cp) (.slice A2 l.length c2) stZ)) 130 (0, 0)) := ⟨_, rfl⟩
 have HBW : Aside0 (Below w2.heap.size w2 W) := ⟨by rw [hW]; exact below_alloc (Below.refl _ _) _⟩
 have HGW : Aside0 (BoardAt W w2.heap.size (.slice Ap p.length cp) (.slice A2 l.length c2) (stB 0 0)) := ⟨stB_zero (by rw [hW]; exact blk_new _ _)⟩
 rw [← hW]
 clear hW
 generalize hg : w2.heap.size = g at HGW ⊢
 go_wp2
 go_loopg [16] 64 (fun kq v16 w' => ∃ i : Nat, i + kq = 64 ∧ v16 = .int .i64 i ∧ Aside0 (Below w2.heap.size w2 w') ∧ Aside0 (BoardAt w' g (.slice Ap p.length cp) (.slice A2 l.length c2) (stB i 0)))
 case atStart => exact ⟨0, by omega, rfl, HBW, HGW⟩
 case round =>
  obtain ⟨i, hi, rfl, HB, HG⟩ := hrel
  cases gk with
  | zero =>
   obtain rfl : i = 64 := by omega
   have HG0 := Aside0.mk (stB_all HG.out)
   have HGE : Aside0 (w2.heap.size ≤ g) := ⟨by omega⟩
   clear HG HBW HGW hg hi
   have hlm : (l.length : Int) ≤ 64 := by have := HPL.out; have := HS.out.1; omega
   go_wp2
   go_loopg [8] l.length (fun kq v8 w' => ∃ s : St, v8 = .int .i64 ((kq : Int) - 1) ∧ Aside0 (kq ≤ l.length) ∧ Aside0 (Below w2.heap.size w2 w') ∧ Aside0 (BoardAt w' g (.slice Ap p.length cp) (.slice A2 l.length c2) s) ∧ Aside0 (downS p l kq s = downS p l l.length stA))
   case atStart => exact ⟨stA, rfl, ⟨Nat.le_refl _⟩, HB, HG0, ⟨rfl⟩⟩
   case round =>
    obtain ⟨s, rfl, HK, HBd, HGd, HD⟩ := hrel
    cases gk with
    | zero =>
     have HD0 : Aside0 (s = downS p l p.length stA) := ⟨by have := HD.out; rw [HPL.out] at this; exact this⟩
     clear HD HG0 HB
     have hn0 : (((0 : Nat) : Int) - 1) = -1 := by omega
     rw [hn0]
     clear hn0
     have yp : wr.cell? ⟨w.heap.size, 0, none⟩ = some (.slice Ap p.length cp) := (blk_cell (blk_below HP2.out HBd.out) 0).trans rfl
     go_wp2
     clear yp
     have hpm : (p.length : Int) ≤ 64 := by have := HS.out.1; omega
     go_loopg [59] p.length (fun kq v59 w' => ∃ (i : Nat) (s : St), i + kq = p.length ∧ v59 = .int .i64 i ∧ Aside0 (Below w2.heap.size w2 w') ∧ Aside0 (BoardAt w' g (.slice Ap p.length cp) (.slice A2 l.length c2) s) ∧ Aside0 (upS p i kq s = madeS p l))
     case atStart => exact ⟨0, s, by omega, rfl, HBd, HGd, ⟨by unfold madeS; rw [HD0.out]⟩⟩
     case round =>
      clear HGd HD0
      obtain ⟨i, s, hi, rfl, HB, HG, HU⟩ := hrel
      cases gk with
      | zero =>
       obtain rfl : i = p.length := by omega
       have HU2 : Aside0 (s = madeS p l) := ⟨HU.out⟩
       go_wp2
       go_ret
       exact ⟨g, rfl, HB2.out.trans (HB.out.mono HB2.out.size), Nat.le_trans HB2.out.size HGE.out, A2, c2, by rw [← HU2.out]; exact HG.out, Kd.F_below HLF2.out HB.out⟩
      | succ d =>
       have hip : i < p.length := by omega
       have hi0 : (0 : Int) ≤ i := by omega
       have hi1 : (i : Int) < (p.length : Int) := by omega
       have hi6 : (i : Int) < 64 := by omega
       have HI := Aside0.mk hi
       have HIP := Aside0.mk hip
       have HU2 : Aside0 (upS p (i + 1) d (haltS p s i) = madeS p l) := ⟨HU.out⟩
       obtain ⟨ad, A7, c7, e0, x0, x1, x2, x3, x4, x5, x6, x7, _, _⟩ := at_T39 (Kd.C_below HR1.out HB.out) (i : Int) hi0 hi1
       subst e0
       rw [Int.toNat_natCast] at x0 x1 x2 x3 x4 x5 x6 x7
       clear hi HU
       by_cases hz : i = 0
       ·have HZ := Aside0.mk hz
        have hmz : ¬ (i : Int) > 0 := by omega
        clear hz
        go_wp2
        go_roundg d
        case measure => omega
        case rel => exact ⟨i + 1, s, by have := HI.out; omega, by go_num, ⟨below_step HB.out (below_alloc (Below.refl _ _) _)⟩, ⟨blk_alloc HG.out _⟩, ⟨by have := HU2.out; unfold haltS at this; rwa [if_pos HZ.out] at this⟩⟩
       ·obtain ⟨q1, q2, q3, q4⟩ := (HS.out.2 i hip).2 hz
        obtain ⟨j, hj⟩ := Int.eq_ofNat_of_zero_le q1
        obtain ⟨k, hk⟩ := Int.eq_ofNat_of_zero_le q3
        rw [hj] at x5
        rw [hk] at x6
        have HH : Aside0 (haltS p s i = s.setIt i ⟨(s.it i).cl, (s.it i).tc, (s.it i).dn, (s.it i).sp, (s.bo j k).fa || (s.it j).ha, (s.it i).at_⟩) := ⟨by unfold haltS haltF; rw [if_neg hz, hj, hk, Int.toNat_natCast, Int.toNat_natCast]⟩
        have hmz : (i : Int) > 0 := by omega
        have hj64 : j < 64 := by omega
        have hk4 : k < 4 := by omega
        clear hj hk q1 q2 q3 q4 hz
        go_wp2_with (fail)
        refine at_letter_ (fun W => Aside0 (Below w2.heap.size w2 W) ∧ Aside0 (BoardAt W g (.slice (some ad) p.length cp) (.slice A2 l.length c2) s) ∧ W.cell? ⟨wr.heap.size, 5, none⟩ = some (.int .i64 j) ∧ W.cell? ⟨wr.heap.size, 6, none⟩ = some (.int .i64 k))
         ⟨⟨below_step HB.out (below_alloc (Below.refl _ _) _)⟩, ⟨blk_alloc HG.out _⟩, (blk_cell (blk_new _ _) 5).trans rfl, (blk_cell (blk_new _ _) 6).trans rfl⟩ (fun W ⟨HB3, HG3, x5, x6⟩ => ?_)
        clear x0 x1 x2 x3 x4 x7 HB HG
        generalize wr.heap.size = gx at x5 x6 ⊢
        have hi64 : i < 64 := by omega
        have hj6 : (j : Int) < 64 := by omega
        have hj0 : (0 : Int) ≤ j := by omega
        have hk6 : (k : Int) < 4 := by omega
        have hk0 : (0 : Int) ≤ k := by omega
        have z0 : W.cell? ⟨g, 386 + j * 12 + k * 3, none⟩ = some (.bool (s.bo j k).fa) := HG3.out.bo j k 0 hj64 hk4 (by omega)
        have z1 : W.cell? ⟨g, 2 + j * 6 + 4, none⟩ = some (.bool (s.it j).ha) := HG3.out.it j 4 hj64 (by omega)
        have z2 := HG3.out.cell (2 + i * 6 + 4) (by omega)
        have y2 := HG3.out.free (2 + i * 6 + 4)
        obtain ⟨fa, hfa⟩ : ∃ b, (s.bo j k).fa = b := ⟨_, rfl⟩
        rw [hfa] at z0
        have HH2 : Aside0 (haltS p s i = s.setIt i ⟨(s.it i).cl, (s.it i).tc, (s.it i).dn, (s.it i).sp, fa || (s.it j).ha, (s.it i).at_⟩) := ⟨by rw [HH.out, hfa]⟩
        clear hfa HH
        cases fa
        all_goals
         go_region
         go_wp2
         go_roundg d
         case measure => omega
         case rel => first | exact ⟨i + 1, s.setIt i ⟨(s.it i).cl, (s.it i).tc, (s.it i).dn, (s.it i).sp, false || (s.it j).ha, (s.it i).at_⟩, by have := HI.out; omega, by go_num, ⟨below_drewN (HB3.out.setCell HGE.out _) 1⟩, ⟨(HG3.out.putIt i 4 hi64 (by omega) (.bool _) ⟨(s.it i).cl, (s.it i).tc, (s.it i).dn, (s.it i).sp, false || (s.it j).ha, (s.it i).at_⟩ (by exact fl6_ rfl rfl rfl rfl rfl rfl)).drew⟩, ⟨by have := HU2.out; rw [HH2.out] at this; exact this⟩⟩ | exact ⟨i + 1, s.setIt i ⟨(s.it i).cl, (s.it i).tc, (s.it i).dn, (s.it i).sp, true || (s.it j).ha, (s.it i).at_⟩, by have := HI.out; omega, by go_num, ⟨below_drewN (HB3.out.setCell HGE.out _) 1⟩, ⟨(HG3.out.putIt i 4 hi64 (by omega) (.bool _) ⟨(s.it i).cl, (s.it i).tc, (s.it i).dn, (s.it i).sp, true || (s.it j).ha, (s.it i).at_⟩ (by exact fl6_ rfl rfl rfl rfl rfl rfl)).drew⟩, ⟨by have := HU2.out; rw [HH2.out] at this; exact this⟩⟩
    | succ m =>
     have hms : m < l.length := by have := HK.out; omega
     have hmp : m < p.length := by have := HPL.out; omega
     rw [show (((m + 1 : Nat) : Int) - 1) = (m : Int) from by omega]
     have hm0 : (0 : Int) ≤ m := by omega
     have hm1 : (m : Int) < (p.length : Int) := by omega
     have hm6 : (m : Int) < 64 := by omega
     have HT : Aside0 (downS p l m (turnS p l s m) = downS p l l.length stA) := ⟨HD.out⟩
     have hsh := HS.out.2 m hmp
     obtain ⟨n, hn⟩ := Int.eq_ofNat_of_zero_le hsh.1.1
     have HN : Aside0 ((rd_T39 p (m : Int)).f4 = n ∧ n ≤ 4) := ⟨hn, by have := hsh.1.2; omega⟩
     obtain ⟨ad, A7, c7, e0, x0, x1, x2, x3, x4, x5, x6, x7, _, _⟩ := at_T39 (Kd.C_below HR1.out HBd.out) (m : Int) hm0 hm1
     subst e0
     rw [Int.toNat_natCast] at x2
     clear x0 x1 x3 x4 x5 x6 x7 hn hsh HD
     have yp : wr.cell? ⟨w.heap.size, 0, none⟩ = some (.slice (some ad) p.length cp) := (blk_cell (blk_below HP2.out HBd.out) 0).trans rfl
     obtain ⟨sub, hsub⟩ : ∃ b, (rd_T39 p (m : Int)).f2 = b := ⟨_, rfl⟩
     rw [hsub] at x2
     have HSUB := Aside0.mk hsub
     have HHM := Aside0.mk (And.intro hms hmp)
     clear hsub
     obtain ⟨s1, hs1⟩ : ∃ s1, (if sub then s.setIt m (sagaS n (s.bo m) (s.it m)) else s.setIt m (stepS (rd_T50 l (m : Int)))) = s1 := ⟨_, rfl⟩
     have HS1 := Aside0.mk hs1
     clear hs1
     by_cases hz : m = 0
     ·have hmz : ¬ (m : Int) > 0 := by omega
      have HZ := Aside0.mk hz
      clear hz
      have HT2 : Aside0 (turnS p l s m = s1) := ⟨by unfold turnS; rw [HSUB.out, HN.out.1, Int.toNat_natCast]; rw [if_pos HZ.out]; exact HS1.out⟩
      cases sub
      all_goals
       go_wp2_with (first
        | (go_at_call 95; refine (saga_walk p (some ad) cp _ s w2 _ g m n HR1.out HBd.out HGE.out HGd.out HHM.out.2 HS.out.1 HN.out.1 HN.out.2).mono ?_; rintro e w3 ⟨rfl, hb3, hG3⟩; have HB3 := Aside0.mk hb3; have HG3 := Aside0.mk hG3; clear hb3 hG3)
        | (go_at_call 96; refine (step_walk l A2 c2 _ s w2 _ g m HL2.out HBd.out HGE.out HGd.out HHM.out.1 (by have := HPL.out; have := HS.out.1; omega)).mono ?_; rintro e w3 ⟨rfl, hb3, hG3⟩; have HB3 := Aside0.mk hb3; have HG3 := Aside0.mk hG3; clear hb3 hG3))
       go_roundg m
       case measure => omega
       case rel => exact ⟨s1, by go_num, ⟨Nat.le_of_lt HHM.out.1⟩, HB3, ⟨by rw [← HS1.out]; exact HG3.out⟩, ⟨by rw [← HT2.out]; exact HT.out⟩⟩
     ·have hmpos : (0 : Int) < m := by omega
      have hsh := HS.out.2 m hmp
      obtain ⟨q1, q2, q3, q4⟩ := hsh.2 hz
      obtain ⟨j, hj⟩ := Int.eq_ofNat_of_zero_le q1
      obtain ⟨k, hk⟩ := Int.eq_ofNat_of_zero_le q3
      have HJ : Aside0 ((rd_T39 p (m : Int)).f5 = j ∧ (rd_T39 p (m : Int)).f6 = k ∧ j < 64 ∧ k < 4) := ⟨hj, hk, by omega, by omega⟩
      have HT2 : Aside0 (turnS p l s m = handS (rd_T39 p (m : Int)).f3 (rd_T50 l (m : Int)).f0 (s1.it m) s1 j k) := ⟨by unfold turnS; rw [HSUB.out, HN.out.1, Int.toNat_natCast, HJ.out.1, HJ.out.2.1, Int.toNat_natCast, Int.toNat_natCast]; rw [if_neg hz]; rw [← HS1.out]⟩
      clear hsh q1 q2 q3 q4 hj hk
      cases sub
      all_goals
       go_wp2_with (first
        | (go_at_call 95; refine (saga_walk p (some ad) cp _ s w2 _ g m n HR1.out HBd.out HGE.out HGd.out HHM.out.2 HS.out.1 HN.out.1 HN.out.2).mono ?_; rintro e w3 ⟨rfl, hb3, hG3⟩; have HB3 := Aside0.mk hb3; have HG3 : Aside0 (BoardAt w3 g (.slice (some ad) p.length cp) (.slice A2 l.length c2) s1) := ⟨by rw [← HS1.out]; exact hG3⟩; clear hb3 hG3)
        | (go_at_call 96; refine (step_walk l A2 c2 _ s w2 _ g m HL2.out HBd.out HGE.out HGd.out HHM.out.1 (by have := HPL.out; have := HS.out.1; omega)).mono ?_; rintro e w3 ⟨rfl, hb3, hG3⟩; have HB3 := Aside0.mk hb3; have HG3 : Aside0 (BoardAt w3 g (.slice (some ad) p.length cp) (.slice A2 l.length c2) s1) := ⟨by rw [← HS1.out]; exact hG3⟩; clear hb3 hG3)
        | (go_at_call 97; refine (hand_walk p (some ad) cp l A2 c2 s1 w2 _ g m j k HR1.out HL2.out HPL.out HB3.out HGE.out HG3.out HHM.out.2 HS.out.1 HJ.out.1 HJ.out.2.1 HJ.out.2.2.1 HJ.out.2.2.2).mono ?_; rintro e w4 ⟨rfl, hb4, hG4⟩; have HB4 := Aside0.mk hb4; have HG4 := Aside0.mk hG4; clear hb4 hG4))
       go_roundg m
       case measure => omega
       case rel => exact ⟨_, by go_num, ⟨Nat.le_of_lt HHM.out.1⟩, HB4, HG4, ⟨by rw [← HT2.out]; exact HT.out⟩⟩
  | succ d =>
   have h64 : (i : Int) < 64 := by omega
   have h0 : (0 : Int) ≤ i := by omega
   have HI := Aside0.mk hi
   have HGE : Aside0 (w2.heap.size ≤ g) := ⟨by omega⟩
   clear hi hg
   go_wp2
   go_loopg [19] 4 (fun kq v19 w' => ∃ k : Nat, k + kq = 4 ∧ v19 = .int .i64 k ∧ Aside0 (Below w2.heap.size w2 w') ∧ Aside0 (BoardAt w' g (.slice Ap p.length cp) (.slice A2 l.length c2) (stB i k)))
   case atStart => exact ⟨0, by omega, rfl, HB, HG⟩
   case round =>
    obtain ⟨k, hk, rfl, HBi, HGi⟩ := hrel
    cases gk with
    | zero =>
     obtain rfl : k = 4 := by omega
     go_wp2
     go_roundg d
     case measure => omega
     case rel => exact ⟨i + 1, by have := HI.out; omega, by go_num, HBi, ⟨stB_row HGi.out⟩⟩
    | succ e =>
     have hk4 : (k : Int) < 4 := by omega
     have hk0 : (0 : Int) ≤ k := by omega
     have hi6 : i < 64 := by omega
     have HK := Aside0.mk hk
     have z0 := HGi.out.cell (386 + i * 12 + k * 3) (by omega)
     have z1 := HGi.out.cell (386 + i * 12 + k * 3 + 1) (by omega)
     have z2 := HGi.out.cell (386 + i * 12 + k * 3 + 2) (by omega)
     have y0 := HGi.out.free (386 + i * 12 + k * 3)
     have y1 := HGi.out.free (386 + i * 12 + k * 3 + 1)
     have y2 := HGi.out.free (386 + i * 12 + k * 3 + 2)
     clear hk
     go_wp2
     go_roundg e
     case measure => omega
     case rel => exact ⟨k + 1, by have := HK.out; omega, by go_num, ⟨((HBi.out.setCell HGE.out _).setCell HGE.out _).setCell HGE.out _⟩, ⟨stB_next (HGi.out.putBy i k hi6 (by omega) ⟨false, true, true⟩)⟩⟩
end Go.Proofs.YtloijngccppfgaaGreat.F
end

section
namespace Go.Proofs.YtloijngccppfgaaGreat.F
open Go.RowKit Go.Proofs.YtloijngccppfgaaGreatW.PrintWords Go.Proofs.YtloijngccppfgaaGreatW.PrintLast Go.Proofs.YtloijngccppfgaaGreatW.PrintMore
attribute [local go_sem] max2_int min2_int max_two min_two max_three min_three max_four min_four
set_option linter.unusedVariables false
set_option linter.unusedSimpArgs false
structure BdAt (w : World) (g : Nat) (p : List S39) (Ap : Option Addr) (cp : Nat) (l : List S50) (Al : Option Addr) (cl : Nat) (s : St) : Prop where
 bd : BoardAt w g (.slice Ap p.length cp) (.slice Al l.length cl) s
 pl : Kd.C k39 w Ap p.length p
 fl : Kd.C k50 w Al l.length l
 len : l.length = p.length
 few : p.length ≤ 64
theorem BdAt.below {w w' : World} {g : Nat} {p : List S39} {Ap : Option Addr} {cp : Nat} {l : List S50} {Al : Option Addr} {cl : Nat} {s : St} (h : BdAt w g p Ap cp l Al cl s) (hb : Below w.heap.size w w') : BdAt w' g p Ap cp l Al cl s :=
 ⟨blk_below h.bd hb, Kd.C_below h.pl hb, Kd.C_below h.fl hb, h.len, h.few⟩
theorem size_none (w : World) : Calls Tryz.prog 64 #[.pointer none] w fun e w' => e = .returned (.int .i64 0) ∧ w' = w := by
 go_enter Tryz.func64, Tryz.ntmps64
 go_wp2
 go_ret
 exact ⟨rfl, rfl⟩
section
variable {w : World} {g : Nat} {p : List S39} {Ap : Option Addr} {cp : Nat} {l : List S50} {Al : Option Addr} {cl : Nat} {s : St}
theorem size_walk (h : BdAt w g p Ap cp l Al cl s) : Calls Tryz.prog 64 #[.pointer (some ⟨g, 0, none⟩)] w fun e w' => e = .returned (.int .i64 l.length) ∧ w' = w := by
 have y1 : w.cell? ⟨g, 1, none⟩ = some (.slice Al l.length cl) := h.bd.cell 1 (by omega)
 clear h
 go_enter Tryz.func64, Tryz.ntmps64
 go_wp2
 go_ret
 exact ⟨rfl, rfl⟩
def standF (f : S50) : Int := if f.f0 = 0 then 0 else if f.f0 = 1 then 1 else if f.f0 = 3 then 3 else if f.f1 = 0 then 2 else if f.f3 then 5 else 4
theorem stand_walk (f : S50) (w : World) : Calls Tryz.prog 98 #[.agg #[.int .i64 f.f0, .int .i64 f.f1, .int .i64 f.f2, .bool f.f3]] w fun e w' => e = .returned (.int .i64 (standF f)) ∧ Below w.heap.size w w' := by
 obtain ⟨a, b, c, d⟩ := f
 have HB := Aside0.mk (below_alloc (Below.refl w.heap.size w) (.cells #[.int .i64 a, .int .i64 b, .int .i64 c, .bool d] 50 (0, 0)))
 dsimp only
 go_enter Tryz.func98, Tryz.ntmps98
 go_wp2
 all_goals
  go_ret
  refine ⟨?_, HB.out⟩
  unfold standF
  first | rfl | (simp_all; done)
def flagsF (f : Fl) : Int := if f.tc then (if f.dn then 2 else if f.sp then 3 else if f.ha then (if f.cl then 5 else 4) else 1) else 0
def statusB (p : List S39) (l : List S50) (s : St) (i : Nat) : Int := if (rd_T39 p (i : Int)).f2 then flagsF (s.it i) else standF (rd_T50 l (i : Int))
set_option maxHeartbeats 8000000 in
set_option maxRecDepth 100000 in
theorem status_walk (h : BdAt w g p Ap cp l Al cl s) (i : Nat) (hi : i < p.length) : Calls Tryz.prog 65 #[.pointer (some ⟨g, 0, none⟩), .int .i64 i] w fun e w' => e = .returned (.int .i64 (statusB p l s i)) ∧ Below w.heap.size w w' := by
 have hlen := h.len
 have hfew := h.few
 have hi64 : i < 64 := by omega
 obtain ⟨ad, A7, c7, e0, x0, x1, x2, x3, x4, x5, x6, x7, _, _⟩ := at_T39 h.pl (i : Int) (by omega) (by omega)
 obtain ⟨al, e1, q0, q1, q2, q3⟩ := at_T50 h.fl (i : Int) (by omega) (by omega)
 subst e0
 subst e1
 rw [Int.toNat_natCast] at x2 q0 q1 q2 q3
 have y0 : w.cell? ⟨g, 0, none⟩ = some (.slice (some ad) p.length cp) := h.bd.cell 0 (by omega)
 have y1 : w.cell? ⟨g, 1, none⟩ = some (.slice (some al) l.length cl) := h.bd.cell 1 (by omega)
 have z0 : w.cell? ⟨g, 2 + i * 6, none⟩ = some (.bool (s.it i).cl) := h.bd.it i 0 hi64 (by omega)
 have z1 : w.cell? ⟨g, 2 + i * 6 + 1, none⟩ = some (.bool (s.it i).tc) := h.bd.it i 1 hi64 (by omega)
 have z2 : w.cell? ⟨g, 2 + i * 6 + 2, none⟩ = some (.bool (s.it i).dn) := h.bd.it i 2 hi64 (by omega)
 have z3 : w.cell? ⟨g, 2 + i * 6 + 3, none⟩ = some (.bool (s.it i).sp) := h.bd.it i 3 hi64 (by omega)
 have z4 : w.cell? ⟨g, 2 + i * 6 + 4, none⟩ = some (.bool (s.it i).ha) := h.bd.it i 4 hi64 (by omega)
 have z5 : w.cell? ⟨g, 2 + i * 6 + 5, none⟩ = some (.int .i64 (s.it i).at_) := h.bd.it i 5 hi64 (by omega)
 have h0 : (0 : Int) ≤ i := by omega
 have h1 : (i : Int) < (p.length : Int) := by omega
 have h2 : (i : Int) < (l.length : Int) := by omega
 have h6 : (i : Int) < 64 := by omega
 have HSW := Aside0.mk (fun w => stand_walk (rd_T50 l (i : Int)) w)
 unfold statusB
 obtain ⟨⟨fcl, ftc, fdn, fsp, fha, fat⟩, hf⟩ : ∃ f, s.it i = f := ⟨_, rfl⟩
 rw [hf] at z0 z1 z2 z3 z4 z5 ⊢
 obtain ⟨r, hr⟩ : ∃ r, standF (rd_T50 l (i : Int)) = r := ⟨_, rfl⟩
 rw [hr] at HSW ⊢
 obtain ⟨⟨fa, fb, fc, fd⟩, hff⟩ : ∃ f, rd_T50 l (i : Int) = f := ⟨_, rfl⟩
 rw [hff] at q0 q1 q2 q3 HSW
 obtain ⟨sub, hsub⟩ : ∃ b, (rd_T39 p (i : Int)).f2 = b := ⟨_, rfl⟩
 rw [hsub] at x2 ⊢
 clear h x0 x1 x3 x4 x5 x6 x7 hf hff hr hsub hlen hfew hi64 hi
 cases sub
 case false =>
  go_enter Tryz.func65, Tryz.ntmps65
  go_wp2_with (go_at_call 98; refine (HSW.out _).mono ?_; rintro e w2 ⟨rfl, hb⟩; have HB := Aside0.mk hb; clear hb)
  go_ret
  exact ⟨rfl, HB.out⟩
 case true =>
  have HB := Aside0.mk (below_alloc (Below.refl w.heap.size w) (.cells #[.bool fcl, .bool ftc, .bool fdn, .bool fsp, .bool fha, .int .i64 fat] 123 (0, 0)))
  cases ftc
  case' true =>
   cases fdn
   case' false =>
    cases fsp
    case' false =>
     cases fha
     case' true => cases fcl
  all_goals
   go_enter Tryz.func65, Tryz.ntmps65
   go_wp2
   go_ret
   exact ⟨rfl, HB.out⟩
end
end Go.Proofs.YtloijngccppfgaaGreat.F
end

section
namespace Go.Proofs.YtloijngccppfgaaGreat.F
open Go.RowKit Go.Proofs.YtloijngccppfgaaGreatW.PrintWords Go.Proofs.YtloijngccppfgaaGreatW.PrintLast Go.Proofs.YtloijngccppfgaaGreatW.PrintMore
attribute [local go_sem] max2_int min2_int max_two min_two max_three min_three max_four min_four
set_option linter.unusedVariables false
set_option linter.unusedSimpArgs false
def subB (p : List S39) (i : Int) : Bool := decide (0 ≤ i) && (decide (i < (p.length : Int)) && (rd_T39 p i).f2)
section
variable {w : World} {g : Nat} {p : List S39} {Ap : Option Addr} {cp : Nat} {l : List S50} {Al : Option Addr} {cl : Nat} {s : St}
set_option maxHeartbeats 4000000 in
theorem sub_walk (h : BdAt w g p Ap cp l Al cl s) (i : Int) : Calls Tryz.prog 70 #[.pointer (some ⟨g, 0, none⟩), .int .i64 i] w fun e w' => e = .returned (.bool (subB p i)) ∧ w' = w := by
 have hlen : (l.length : Int) = p.length := by have := h.len; omega
 have HZ := Aside0.mk (size_walk h)
 unfold subB
 by_cases h0 : 0 ≤ i
 ·by_cases h1 : i < (p.length : Int)
  ·obtain ⟨ad, A7, c7, e0, x0, x1, x2, x3, x4, x5, x6, x7, _, _⟩ := at_T39 h.pl i h0 h1
   subst e0
   have y0 : w.cell? ⟨g, 0, none⟩ = some (.slice (some ad) p.length cp) := h.bd.cell 0 (by omega)
   have h2 : i < (l.length : Int) := by omega
   clear x0 x1 x3 x4 x5 x6 x7 h hlen
   go_enter Tryz.func70, Tryz.ntmps70
   go_wp2_with (go_at_call 64; refine HZ.out.mono ?_; rintro e w2 ⟨rfl, rfl⟩)
   go_ret
   exact ⟨by simp [h0, h1]; try (intros; omega), rfl⟩
  ·have h2 : ¬ i < (l.length : Int) := by omega
   clear h hlen
   go_enter Tryz.func70, Tryz.ntmps70
   go_wp2_with (go_at_call 64; refine HZ.out.mono ?_; rintro e w2 ⟨rfl, rfl⟩)
   go_ret
   exact ⟨by simp [h0, h1]; try (intros; omega), rfl⟩
 ·clear h hlen
  go_enter Tryz.func70, Tryz.ntmps70
  go_wp2_with (go_at_call 64; refine HZ.out.mono ?_; rintro e w2 ⟨rfl, rfl⟩)
  go_ret
  exact ⟨by simp [h0]; try (intros; omega), rfl⟩
end
theorem clean_none (i : Int) (w : World) : Calls Tryz.prog 50 #[.pointer none, .int .i64 i] w fun e w' => e = .returned (.bool false) ∧ w' = w := by
 by_cases h : 0 ≤ i
 all_goals
  go_enter Tryz.func50, Tryz.ntmps50
  go_wp2_with (go_at_call 64; refine (size_none _).mono ?_; rintro e w2 ⟨rfl, rfl⟩)
  go_ret
  exact ⟨by simp; try omega, rfl⟩
section
variable {w : World} {g : Nat} {p : List S39} {Ap : Option Addr} {cp : Nat} {l : List S50} {Al : Option Addr} {cl : Nat} {s : St}
def atB (p : List S39) (s : St) (i : Int) : Int := if subB p i then (s.it i.toNat).at_ else -1
set_option maxHeartbeats 4000000 in
theorem at_walk (h : BdAt w g p Ap cp l Al cl s) (hp : 0 < p.length) (i : Int) : Calls Tryz.prog 104 #[.pointer (some ⟨g, 0, none⟩), .int .i64 i] w fun e w' => e = .returned (.int .i64 (atB p s i)) ∧ w' = w := by
 have HZ := Aside0.mk (size_walk h)
 have HS := Aside0.mk (sub_walk h i)
 have hl : ¬ (l.length : Int) = 0 := by have := h.len; omega
 unfold atB
 cases hb : subB p i with
 | false =>
  rw [hb] at HS
  clear h hb
  go_enter Tryz.func104, Tryz.ntmps104
  go_wp2_with (first
   | (go_at_call 64; refine HZ.out.mono ?_; rintro e w2 ⟨rfl, rfl⟩)
   | (go_at_call 70; refine HS.out.mono ?_; rintro e w2 ⟨rfl, rfl⟩))
  go_ret
  exact ⟨rfl, rfl⟩
 | true =>
  have hx := hb
  unfold subB at hx
  simp only [Bool.and_eq_true, decide_eq_true_eq] at hx
  obtain ⟨n, rfl⟩ := Int.eq_ofNat_of_zero_le hx.1
  have h6 : (n : Int) < 64 := by have := h.few; omega
  have z5 : w.cell? ⟨g, 2 + n * 6 + 5, none⟩ = some (.int .i64 (s.it n).at_) := h.bd.it n 5 (by omega) (by omega)
  have h0 : (0 : Int) ≤ n := by omega
  rw [hb] at HS
  clear h hb hx
  go_enter Tryz.func104, Tryz.ntmps104
  go_wp2_with (first
   | (go_at_call 64; refine HZ.out.mono ?_; rintro e w2 ⟨rfl, rfl⟩)
   | (go_at_call 70; refine HS.out.mono ?_; rintro e w2 ⟨rfl, rfl⟩))
  go_ret
  exact ⟨by simp, rfl⟩
def cleanB (p : List S39) (s : St) (i : Int) : Bool := decide (0 ≤ i) && (decide (i < (p.length : Int)) && (s.it i.toNat).cl)
set_option maxHeartbeats 4000000 in
theorem clean_walk (h : BdAt w g p Ap cp l Al cl s) (i : Int) : Calls Tryz.prog 50 #[.pointer (some ⟨g, 0, none⟩), .int .i64 i] w fun e w' => e = .returned (.bool (cleanB p s i)) ∧ w' = w := by
 have hlen : (l.length : Int) = p.length := by have := h.len; omega
 have HZ := Aside0.mk (size_walk h)
 unfold cleanB
 by_cases h0 : 0 ≤ i
 ·by_cases h1 : i < (p.length : Int)
  ·obtain ⟨n, rfl⟩ := Int.eq_ofNat_of_zero_le h0
   have h6 : (n : Int) < 64 := by have := h.few; omega
   have z0 : w.cell? ⟨g, 2 + n * 6, none⟩ = some (.bool (s.it n).cl) := h.bd.it n 0 (by omega) (by omega)
   have h2 : (n : Int) < (l.length : Int) := by omega
   clear h hlen
   go_enter Tryz.func50, Tryz.ntmps50
   go_wp2_with (go_at_call 64; refine HZ.out.mono ?_; rintro e w2 ⟨rfl, rfl⟩)
   go_ret
   exact ⟨by simp [h0, h1]; try (intros; omega), rfl⟩
  ·have h2 : ¬ i < (l.length : Int) := by omega
   clear h hlen
   go_enter Tryz.func50, Tryz.ntmps50
   go_wp2_with (go_at_call 64; refine HZ.out.mono ?_; rintro e w2 ⟨rfl, rfl⟩)
   go_ret
   exact ⟨by simp [h0, h1]; try (intros; omega), rfl⟩
 ·clear h hlen
  go_enter Tryz.func50, Tryz.ntmps50
  go_wp2_with (go_at_call 64; refine HZ.out.mono ?_; rintro e w2 ⟨rfl, rfl⟩)
  go_ret
  exact ⟨by simp [h0]; try (intros; omega), rfl⟩
end
end Go.Proofs.YtloijngccppfgaaGreat.F
end

section
namespace Go.Proofs.YtloijngccppfgaaGreat.F
open Go.RowKit Go.Proofs.YtloijngccppfgaaGreatW.PrintWords Go.Proofs.YtloijngccppfgaaGreatW.PrintLast Go.Proofs.YtloijngccppfgaaGreatW.PrintMore
attribute [local go_sem] max2_int min2_int max_two min_two max_three min_three max_four min_four
set_option linter.unusedVariables false
set_option linter.unusedSimpArgs false
theorem all_none (w : World) : Calls Tryz.prog 38 #[.pointer none] w fun e w' => ∃ v, e = .returned v ∧ Kd.R (Kd.int .i64) 35 w' w.heap.size (fun _ => True) v [] ∧ Below w.heap.size w w' := by
 go_enter Tryz.func38, Tryz.ntmps38
 go_wp2_with (go_at_call 64; refine (size_none _).mono ?_; rintro e w2 ⟨rfl, rfl⟩)
 go_loopg [3, 7] 0 (fun kq v3 v7 w' => v3 = .slice none 0 0 ∧ v7 = .int .i64 0 ∧ Aside0 (w' = w2))
 case atStart => exact ⟨rfl, rfl, ⟨rfl⟩⟩
 case round =>
  obtain ⟨rfl, rfl, HW⟩ := hrel
  go_wp2
  go_ret
  exact ⟨_, rfl, Kd.R_nil _ _ _ _ _, by rw [HW.out]; exact Below.refl _ _⟩
section
variable {w : World} {g : Nat} {p : List S39} {Ap : Option Addr} {cp : Nat} {l : List S50} {Al : Option Addr} {cl : Nat} {s : St}
def allB (p : List S39) (l : List S50) (s : St) : List Int := (List.range' 0 p.length).map (statusB p l s)
set_option maxHeartbeats 8000000 in
set_option maxRecDepth 100000 in
theorem all_walk (h : BdAt w g p Ap cp l Al cl s) : Calls Tryz.prog 38 #[.pointer (some ⟨g, 0, none⟩)] w fun e w' => ∃ v, e = .returned v ∧ Kd.R (Kd.int .i64) 35 w' w.heap.size (fun _ => True) v (allB p l s) ∧ Below w.heap.size w w' := by
 have HZ := Aside0.mk (size_walk h)
 have HH := Aside0.mk h
 have hlen := h.len
 have hfew := h.few
 have hl64 : (l.length : Int) ≤ 64 := by omega
 have HLN := Aside0.mk hlen
 clear h hfew hlen
 go_enter Tryz.func38, Tryz.ntmps38
 go_wp2_with (go_at_call 64; refine HZ.out.mono ?_; rintro e w2 ⟨rfl, rfl⟩)
 go_loopg [3, 7] l.length (fun kq v3 v7 w' => ∃ (i : Nat) (out : List Int), i + kq = l.length ∧ v7 = .int .i64 i ∧ (∃ A c, v3 = .slice A out.length c) ∧ Aside0 (out.length = i) ∧ Aside0 (out ++ (List.range' i kq).map (statusB p l s) = allB p l s) ∧ Aside0 (Kd.R (Kd.int .i64) 35 w' w2.heap.size (fun _ => True) v3 out) ∧ Aside0 (Below w2.heap.size w2 w'))
 case atStart => exact ⟨0, [], by omega, rfl, ⟨none, 0, rfl⟩, ⟨rfl⟩, ⟨by unfold allB; rw [HLN.out]; rfl⟩, ⟨Kd.R_nil _ _ _ _ _⟩, ⟨Below.refl _ _⟩⟩
 case round =>
  obtain ⟨i, out, hi, rfl, ⟨A, c, rfl⟩, HO1, HA, HO, HB⟩ := hrel
  cases gk with
  | zero =>
   obtain rfl : i = l.length := by omega
   have HA2 : Aside0 (out = allB p l s) := ⟨by have := HA.out; simpa using this⟩
   clear hi HA
   go_wp2
   go_ret
   exact ⟨_, rfl, by rw [← HA2.out]; exact HO.out, HB.out⟩
  | succ d =>
   have hlt : (i : Int) < (l.length : Int) := by omega
   have HI := Aside0.mk hi
   have HST := Aside0.mk (fun (W : World) (hb : Below w2.heap.size w2 W) => status_walk (HH.out.below hb) i (by have := HLN.out; omega))
   have HA2 : Aside0 ((out ++ [statusB p l s i]) ++ (List.range' (i + 1) d).map (statusB p l s) = allB p l s) := ⟨by have := HA.out; rw [List.range'_succ] at this; simpa using this⟩
   have HOL : Aside0 (out.length < 64) := ⟨by have := HO1.out; omega⟩
   generalize statusB p l s i = x at HST HA2
   clear hi HA
   go_wp2_with (first
    | (go_at_call 65; refine (HST.out _ HB.out).mono ?_; rintro e w3 ⟨rfl, hb⟩; have HB3 := Aside0.mk (HB.out.trans (hb.mono HB.out.size)); have HO3 := Aside0.mk (Kd.R_below HO.out hb); clear hb)
    | (((with_reducible refine gate_builtin (b := .append) (xs := #[.tmp 10, .tmp 14]) rfl ?_); (try (refine gate_guard (by rfl) ?_; dsimp only)); at_builtin; refine Kd.R_append (Kd.int .i64) (w0 := w2) w2.heap.size rfl (.tmp 10) (.tmp 14) 30 35 (.int .i64 0) 8 rfl Tryz.underlying30 info35 rfl (by decide) (by omega) (.slice A out.length c) out x [.int .i64 x] (fun _ => True) (fun _ => False) rfl (by simp [Act.eval]) ?aP (fun _ hk => hk.elim) ?aF ?aO ?aB ?aS ?aL ?_; (case aP => exact rfl); (case aF => exact (fun _ _ => trivial)); (case aO => exact (by (with_reducible repeat (first | apply Kd.R_alloc | apply Kd.R_drewN | apply Kd.R_drew)); exact HO3.out)); (case aB => exact HB3.out); (case aS => exact HB3.out.size); (case aL => have := HOL.out; omega); intro v4 w4 ho hb hg hat; have HO4 := Aside0.mk ho; have HB4 := Aside0.mk hb; obtain ⟨A4, c4, hv4⟩ := Kd.R_slice ho; clear ho hb hg hat)))
   subst hv4
   go_roundg d
   case measure => omega
   case rel => exact ⟨i + 1, out ++ [x], by have := HI.out; omega, by go_num, ⟨A4, c4, by simp⟩, ⟨by have := HO1.out; simp; omega⟩, HA2, ⟨by have h := HO4.out; simpa using h⟩, HB4⟩
end
end Go.Proofs.YtloijngccppfgaaGreat.F
end

section
namespace Go.Proofs.YtloijngccppfgaaGreat.F
open Go.RowKit Go.Proofs.YtloijngccppfgaaGreatW.PrintWords Go.Proofs.YtloijngccppfgaaGreatW.PrintLast Go.Proofs.YtloijngccppfgaaGreatW.PrintMore
attribute [local go_sem] max2_int min2_int max_two min_two max_three min_three max_four min_four
set_option linter.unusedVariables false
set_option linter.unusedSimpArgs false
abbrev kV (f : S50) (t : Int) : Value := .agg #[.int .i64 f.f0, .int .i64 f.f1, .int .i64 f.f2, .bool f.f3, .int .i64 t]
abbrev factV (f : S50) : Value := .agg #[.int .i64 f.f0, .int .i64 f.f1, .int .i64 f.f2, .bool f.f3]
theorem bel_drew {B : Nat} {a w : World} (h : Below B a w) : Below B a w.drew := below_drewN h 1
theorem blk2_ (w : World) (o1 o2 : Obj) : ((w.alloc o1).alloc o2).heap[w.heap.size + 1]? = some o2 := by
 have h := blk_new (w.alloc o1) o2
 rwa [show (w.alloc o1).heap.size = w.heap.size + 1 from by simp] at h
theorem known_start_walk (f : S50) (t : Int) (w : World) : Calls Tryz.prog 153 #[kV f t] w fun e w' => e = .returned (.tuple #[factV ⟨1, 0, 0, false⟩, .bool (f.f0 == 0)]) ∧ Below w.heap.size w w' := by
 obtain ⟨f0, f1, f2, f3⟩ := f
 unfold kV
 go_enter Tryz.func153, Tryz.ntmps153
 go_wp2
 go_region
 go_wp2
 refine bodyPost_ret (results_ct rfl _ _ (w.heap.size + 1) 50 #[.int .i64 1, .int .i64 0, .int .i64 0, .bool false] (0, 0) _ rfl (blk_drew (blk2_ _ _ _)) Tryz.underlying50 rfl (by kernel_rfl)) rfl ?_
 exact ⟨rfl, bel_drew (below_alloc (below_alloc (Below.refl _ _) _) _)⟩
theorem known_ok_walk (f : S50) (t : Int) (w : World) : Calls Tryz.prog 154 #[kV f t] w fun e w' => e = .returned (.tuple #[factV ⟨2, 0, 0, false⟩, .bool (f.f0 == 1)]) ∧ Below w.heap.size w w' := by
 obtain ⟨f0, f1, f2, f3⟩ := f
 unfold kV
 go_enter Tryz.func154, Tryz.ntmps154
 go_wp2
 go_region
 go_wp2
 refine bodyPost_ret (results_ct rfl _ _ (w.heap.size + 1) 50 #[.int .i64 2, .int .i64 0, .int .i64 0, .bool false] (0, 0) _ rfl (blk_drew (blk2_ _ _ _)) Tryz.underlying50 rfl (by kernel_rfl)) rfl ?_
 exact ⟨rfl, bel_drew (below_alloc (below_alloc (Below.refl _ _) _) _)⟩
theorem known_fail_walk (f : S50) (t : Int) (w : World) : Calls Tryz.prog 155 #[kV f t] w fun e w' => e = .returned (.tuple #[factV ⟨3, 0, 0, false⟩, .bool (f.f0 == 1)]) ∧ Below w.heap.size w w' := by
 obtain ⟨f0, f1, f2, f3⟩ := f
 unfold kV
 go_enter Tryz.func155, Tryz.ntmps155
 go_wp2
 go_region
 go_wp2
 refine bodyPost_ret (results_ct rfl _ _ (w.heap.size + 1) 50 #[.int .i64 3, .int .i64 0, .int .i64 0, .bool false] (0, 0) _ rfl (blk_drew (blk2_ _ _ _)) Tryz.underlying50 rfl (by kernel_rfl)) rfl ?_
 exact ⟨rfl, bel_drew (below_alloc (below_alloc (Below.refl _ _) _) _)⟩
theorem known_undo_walk (f : S50) (t : Int) (w : World) : Calls Tryz.prog 156 #[kV f t] w fun e w' => e = .returned (.tuple #[factV ⟨f.f0, wrap64 (f.f1 + 1), f.f2, f.f3⟩, .bool (f.f0 == 2 && !f.f3 && f.f1 == t && f.f2 == t)]) ∧ Below w.heap.size w w' := by
 obtain ⟨f0, f1, f2, f3⟩ := f
 unfold kV factV
 cases c0 : f0 == 2
 case' true =>
  cases f3
  case' false => cases c1 : f1 == t
 all_goals
  go_enter Tryz.func156, Tryz.ntmps156
  go_wp2
  go_region
  go_wp2
  refine bodyPost_ret (results_ct rfl _ _ (w.heap.size + 1) 50 #[_, _, _, _] (0, 0) _ rfl (blk_drew (blk_alloc (blk2_ _ _ _) _)) Tryz.underlying50 rfl (by kernel_rfl)) rfl ?_
  exact ⟨rfl, bel_drew (below_alloc (below_alloc (below_alloc (Below.refl _ _) _) _) _)⟩
set_option maxHeartbeats 8000000 in
theorem known_undone_walk (f : S50) (t : Int) (w : World) : Calls Tryz.prog 157 #[kV f t] w fun e w' => e = .returned (.tuple #[factV ⟨f.f0, f.f1, f.f2, true⟩, .bool (f.f1 == wrap64 (f.f2 + 1) && !f.f3 && f.f2 == t)]) ∧ Below w.heap.size w w' := by
 obtain ⟨f0, f1, f2, f3⟩ := f
 unfold kV factV
 cases c1 : f1 == wrap64 (f2 + 1)
 case' true => cases f3
 all_goals
  go_enter Tryz.func157, Tryz.ntmps157
  go_wp2
  go_region_calls
 all_goals
  go_wp2
  refine bodyPost_ret (results_ct rfl _ _ (w.heap.size + 1) 50 #[_, _, _, _] (0, 0) _ rfl (by repeat (first | refine blk_drew ?_ | exact blk2_ _ _ _ | refine blk_alloc ?_ _)) Tryz.underlying50 rfl (by kernel_rfl)) rfl ?_
  exact ⟨rfl, by repeat (first | exact Below.refl _ _ | refine bel_drew ?_ | refine below_alloc ?_ _)⟩
end Go.Proofs.YtloijngccppfgaaGreat.F
end

section
namespace Go.Proofs.YtloijngccppfgaaGreat.F
open Go.RowKit Go.Proofs.YtloijngccppfgaaGreatW.PrintWords Go.Proofs.YtloijngccppfgaaGreatW.PrintLast Go.Proofs.YtloijngccppfgaaGreatW.PrintMore
attribute [local go_sem] max2_int min2_int max_two min_two max_three min_three max_four min_four
set_option linter.unusedVariables false
set_option linter.unusedSimpArgs false
def fact_known_open.f (a0_0 : Int) (a0_1 : Int) (a0_2 : Int) (a0_3 : Bool) (a0_4 : Int) : Option (Bool) := if a0_1 = (wrap64 (a0_2 + 1)) then (if a0_3 = true then (some false) else (some (a0_2 == a0_4))) else (some false)
set_option maxHeartbeats 8000000 in
set_option maxRecDepth 100000 in
theorem fact_known_open.calls (a0_0 : Int) (a0_1 : Int) (a0_2 : Int) (a0_3 : Bool) (a0_4 : Int) (r : Bool) (w : World) (h : fact_known_open.f a0_0 a0_1 a0_2 a0_3 a0_4 = some r) :
  Calls Tryz.prog 167 #[.agg #[.int .i64 a0_0, .int .i64 a0_1, .int .i64 a0_2, .bool a0_3, .int .i64 a0_4]] w fun e w' => e = .returned (.bool r) ∧ Below w.heap.size w w' := by
 have hu216 := Tryz.underlying216
 have HB := Aside0.mk (Below.refl w.heap.size w)
 have H : (if a0_1 = (wrap64 (a0_2 + 1)) then (if a0_3 = true then (some false) else (some (a0_2 == a0_4))) else (some false)) = some r := h
 clear h
 by_cases c2 : a0_1 = (wrap64 (a0_2 + 1))
 ·rw [if_pos c2] at H
  have c2b0 : (a0_1 == (wrap64 (a0_2 + 1))) = true := beq_iff_eq.mpr c2
  have c2b1 : (a0_1 != (wrap64 (a0_2 + 1))) = false := bne_eq_false_iff_eq.mpr c2
  clear c2
  by_cases c3 : a0_3 = true
  ·subst c3
   have H1 : (some false) = some r := by rw [if_pos rfl] at H; exact H
   clear H
   have H := H1
   clear H1
   obtain rfl := Option.some.inj H
   go_enter Tryz.func167, Tryz.ntmps167
   go_wp2_with (first | ((with_reducible refine gate_dst (N := 1) rfl ?_); refine box_event ?hg (N := 1) ?hd (cs := #[.int .i64 a0_0, .int .i64 a0_1, .int .i64 a0_2, .bool true, .int .i64 a0_4]) (t := 216) ?hr ?_; (case hd => rfl); (case hg => rfl); (case hr => first | (go_simp; done) | (go_simp; rfl)); intro gb127 hg w4 hbox hb; have n0_ := Aside0.mk (below_step (by repeat (first | (with_reducible first | exact HB.out | apply below_alloc | apply pw_below_drewN | apply below_drew1) | exact HB.out)) hb); have n1_ := Aside0.mk (hbox); have n2_ := Aside0.mk ((by rw [hg]; exact (below_size (by repeat (first | (with_reducible first | exact HB.out | apply below_alloc | apply pw_below_drewN | apply below_drew1) | exact HB.out))) : w.heap.size ≤ gb127)); have n3_ := Aside0.mk ((by rw [hg]; exact (below_size (by repeat (first | (with_reducible first | exact HB.out | apply below_alloc | apply pw_below_drewN | apply below_drew1) | exact HB.out))) : w.heap.size ≤ gb127)); clear HB; have HB := n0_; have BK127 := n1_; have GW127 := n2_; have GE127 := n3_; clear n0_ n1_ n2_ n3_; clear hb hbox hg; have hcz5_0 : w4.cell? ⟨gb127, 0, none⟩ = some (.int .i64 a0_0) := (blk_cell BK127.out 0).trans rfl; have hcz5_1 : w4.cell? ⟨gb127, 1, none⟩ = some (.int .i64 a0_1) := (blk_cell BK127.out 1).trans rfl; have hcz5_2 : w4.cell? ⟨gb127, 2, none⟩ = some (.int .i64 a0_2) := (blk_cell BK127.out 2).trans rfl; have hcz5_3 : w4.cell? ⟨gb127, 3, none⟩ = some (.bool true) := (blk_cell BK127.out 3).trans rfl; have hcz5_4 : w4.cell? ⟨gb127, 4, none⟩ = some (.int .i64 a0_4) := (blk_cell BK127.out 4).trans rfl; have hfz5_0 := blk_frozen BK127.out 0; have hfz5_1 := blk_frozen BK127.out 1; have hfz5_2 := blk_frozen BK127.out 2; have hfz5_3 := blk_frozen BK127.out 3; have hfz5_4 := blk_frozen BK127.out 4))
   go_ret
   exact ⟨by first | rfl | (simp [errW_none, errW_some] <;> rfl) | (simp [*, errW_none, errW_some] <;> rfl), by repeat (first | (with_reducible first | exact HB.out | apply below_alloc | apply pw_below_drewN | apply below_drew1 | refine below_set ?_ GE127.out) | exact HB.out)⟩
  ·replace c3 := Bool.eq_false_iff.mpr c3
   subst c3
   have H1 : (some (a0_2 == a0_4)) = some r := by rw [if_neg (show ¬ (false = true) by decide)] at H; exact H
   clear H
   have H := H1
   clear H1
   obtain rfl := Option.some.inj H
   go_enter Tryz.func167, Tryz.ntmps167
   go_wp2_with (first | ((with_reducible refine gate_dst (N := 1) rfl ?_); refine box_event ?hg (N := 1) ?hd (cs := #[.int .i64 a0_0, .int .i64 a0_1, .int .i64 a0_2, .bool false, .int .i64 a0_4]) (t := 216) ?hr ?_; (case hd => rfl); (case hg => rfl); (case hr => first | (go_simp; done) | (go_simp; rfl)); intro gb127 hg w6 hbox hb; have n0_ := Aside0.mk (below_step (by repeat (first | (with_reducible first | exact HB.out | apply below_alloc | apply pw_below_drewN | apply below_drew1) | exact HB.out)) hb); have n1_ := Aside0.mk (hbox); have n2_ := Aside0.mk ((by rw [hg]; exact (below_size (by repeat (first | (with_reducible first | exact HB.out | apply below_alloc | apply pw_below_drewN | apply below_drew1) | exact HB.out))) : w.heap.size ≤ gb127)); have n3_ := Aside0.mk ((by rw [hg]; exact (below_size (by repeat (first | (with_reducible first | exact HB.out | apply below_alloc | apply pw_below_drewN | apply below_drew1) | exact HB.out))) : w.heap.size ≤ gb127)); clear HB; have HB := n0_; have BK127 := n1_; have GW127 := n2_; have GE127 := n3_; clear n0_ n1_ n2_ n3_; clear hb hbox hg; have hcz7_0 : w6.cell? ⟨gb127, 0, none⟩ = some (.int .i64 a0_0) := (blk_cell BK127.out 0).trans rfl; have hcz7_1 : w6.cell? ⟨gb127, 1, none⟩ = some (.int .i64 a0_1) := (blk_cell BK127.out 1).trans rfl; have hcz7_2 : w6.cell? ⟨gb127, 2, none⟩ = some (.int .i64 a0_2) := (blk_cell BK127.out 2).trans rfl; have hcz7_3 : w6.cell? ⟨gb127, 3, none⟩ = some (.bool false) := (blk_cell BK127.out 3).trans rfl; have hcz7_4 : w6.cell? ⟨gb127, 4, none⟩ = some (.int .i64 a0_4) := (blk_cell BK127.out 4).trans rfl; have hfz7_0 := blk_frozen BK127.out 0; have hfz7_1 := blk_frozen BK127.out 1; have hfz7_2 := blk_frozen BK127.out 2; have hfz7_3 := blk_frozen BK127.out 3; have hfz7_4 := blk_frozen BK127.out 4))
   go_ret
   exact ⟨by first | rfl | (simp [errW_none, errW_some] <;> rfl) | (simp [*, errW_none, errW_some] <;> rfl), by repeat (first | (with_reducible first | exact HB.out | apply below_alloc | apply pw_below_drewN | apply below_drew1 | refine below_set ?_ GE127.out) | exact HB.out)⟩
 ·rw [if_neg c2] at H
  have c2b0 : (a0_1 == (wrap64 (a0_2 + 1))) = false := beq_eq_false_iff_ne.mpr c2
  have c2b1 : (a0_1 != (wrap64 (a0_2 + 1))) = true := bne_iff_ne.mpr c2
  obtain rfl := Option.some.inj H
  go_enter Tryz.func167, Tryz.ntmps167
  go_wp2_with (first | ((with_reducible refine gate_dst (N := 1) rfl ?_); refine box_event ?hg (N := 1) ?hd (cs := #[.int .i64 a0_0, .int .i64 a0_1, .int .i64 a0_2, .bool a0_3, .int .i64 a0_4]) (t := 216) ?hr ?_; (case hd => rfl); (case hg => rfl); (case hr => first | (go_simp; done) | (go_simp; rfl)); intro gb127 hg w8 hbox hb; have n0_ := Aside0.mk (below_step (by repeat (first | (with_reducible first | exact HB.out | apply below_alloc | apply pw_below_drewN | apply below_drew1) | exact HB.out)) hb); have n1_ := Aside0.mk (hbox); have n2_ := Aside0.mk ((by rw [hg]; exact (below_size (by repeat (first | (with_reducible first | exact HB.out | apply below_alloc | apply pw_below_drewN | apply below_drew1) | exact HB.out))) : w.heap.size ≤ gb127)); have n3_ := Aside0.mk ((by rw [hg]; exact (below_size (by repeat (first | (with_reducible first | exact HB.out | apply below_alloc | apply pw_below_drewN | apply below_drew1) | exact HB.out))) : w.heap.size ≤ gb127)); clear HB; have HB := n0_; have BK127 := n1_; have GW127 := n2_; have GE127 := n3_; clear n0_ n1_ n2_ n3_; clear hb hbox hg; have hcz9_0 : w8.cell? ⟨gb127, 0, none⟩ = some (.int .i64 a0_0) := (blk_cell BK127.out 0).trans rfl; have hcz9_1 : w8.cell? ⟨gb127, 1, none⟩ = some (.int .i64 a0_1) := (blk_cell BK127.out 1).trans rfl; have hcz9_2 : w8.cell? ⟨gb127, 2, none⟩ = some (.int .i64 a0_2) := (blk_cell BK127.out 2).trans rfl; have hcz9_3 : w8.cell? ⟨gb127, 3, none⟩ = some (.bool a0_3) := (blk_cell BK127.out 3).trans rfl; have hcz9_4 : w8.cell? ⟨gb127, 4, none⟩ = some (.int .i64 a0_4) := (blk_cell BK127.out 4).trans rfl; have hfz9_0 := blk_frozen BK127.out 0; have hfz9_1 := blk_frozen BK127.out 1; have hfz9_2 := blk_frozen BK127.out 2; have hfz9_3 := blk_frozen BK127.out 3; have hfz9_4 := blk_frozen BK127.out 4))
  go_ret
  exact ⟨by first | rfl | (simp [errW_none, errW_some] <;> rfl) | (simp [*, errW_none, errW_some] <;> rfl), by repeat (first | (with_reducible first | exact HB.out | apply below_alloc | apply pw_below_drewN | apply below_drew1 | refine below_set ?_ GE127.out) | exact HB.out)⟩
def fact_known_slip.f (a0_0 : Int) (a0_1 : Int) (a0_2 : Int) (a0_3 : Bool) (a0_4 : Int) : Option (Int × Int × Int × Bool × Bool) := (fact_known_open.f a0_0 a0_1 a0_2 a0_3 a0_4).bind fun t131 => (if t131 = true then (some (a0_0, a0_1, wrap64 (a0_2 + 1), a0_3, decide (a0_4 < 3))) else (some (a0_0, a0_1, wrap64 (a0_2 + 1), a0_3, false)))
def fact_known_slip.T3 : Bool × List (List Nat × List Nat) := (true, [([], []), ([], []), ([1], [1]), ([2, 2], [2]), ([3], [3]), ([4, 3], [3, 4]), ([5, 3], [3, 5]), ([3, 6], [3, 6]), ([0, 3, 0], [0]), ([7, 8, 0, 1, 2, 3, 4, 5, 6, 7, 8], [7])])
def fact_known_slip.B3 : List Nat := [0, 0, 2, 6, 14, 30, 62, 126, 15, 511]
theorem fact_known_slip.tab3 : rtab .any (opsOf Tryz.f158 3) = fact_known_slip.T3 := by kernel_rfl
theorem fact_known_slip.bits3 : waitsOk fact_known_slip.T3.2 fact_known_slip.B3 = true := by kernel_rfl
set_option maxHeartbeats 8000000 in
set_option maxRecDepth 100000 in
theorem fact_known_slip.calls (a0_0 : Int) (a0_1 : Int) (a0_2 : Int) (a0_3 : Bool) (a0_4 : Int) (r1 : Int) (r2 : Int) (r3 : Int) (r4 : Bool) (r5 : Bool) (w : World) (h : fact_known_slip.f a0_0 a0_1 a0_2 a0_3 a0_4 = some (r1, r2, r3, r4, r5)) :
  Calls Tryz.prog 158 #[.agg #[.int .i64 a0_0, .int .i64 a0_1, .int .i64 a0_2, .bool a0_3, .int .i64 a0_4]] w fun e w' => e = .returned (.tuple #[.agg #[.int .i64 r1, .int .i64 r2, .int .i64 r3, .bool r4], .bool r5]) ∧ Below w.heap.size w w' := by
 have hu216 := Tryz.underlying216
 have hu50 := Tryz.underlying50
 have HB := Aside0.mk (Below.refl w.heap.size w)
 have H : ((fact_known_open.f a0_0 a0_1 a0_2 a0_3 a0_4).bind fun t131 => (if t131 = true then (some (a0_0, a0_1, wrap64 (a0_2 + 1), a0_3, decide (a0_4 < 3))) else (some (a0_0, a0_1, wrap64 (a0_2 + 1), a0_3, false)))) = some (r1, r2, r3, r4, r5) := h
 clear h
 replace H := Option.bind_eq_some_iff.mp H
 obtain ⟨t131, A20, H⟩ := H
 replace H : (if t131 = true then (some (a0_0, a0_1, wrap64 (a0_2 + 1), a0_3, decide (a0_4 < 3))) else (some (a0_0, a0_1, wrap64 (a0_2 + 1), a0_3, false))) = some (r1, r2, r3, r4, r5) := H
 have A2 := Aside0.mk A20
 clear A20
 by_cases c3 : t131 = true
 ·subst c3
  have H1 : (some (a0_0, a0_1, wrap64 (a0_2 + 1), a0_3, decide (a0_4 < 3))) = some (r1, r2, r3, r4, r5) := by rw [if_pos rfl] at H; exact H
  clear H
  have H := H1
  clear H1
  simp only [Option.some.injEq, Prod.mk.injEq] at H
  obtain ⟨rfl, rfl, rfl, rfl, rfl⟩ := H
  go_enter Tryz.func158, Tryz.ntmps158
  try go_wp2_with (first | ((with_reducible refine gate_dst (N := 1) rfl ?_); refine box_event ?hg (N := 1) ?hd (cs := #[.int .i64 a0_0, .int .i64 a0_1, .int .i64 a0_2, .bool a0_3, .int .i64 a0_4]) (t := 216) ?hr ?_; (case hd => rfl); (case hg => rfl); (case hr => first | (go_simp; done) | (go_simp; rfl)); intro gb128 hg w4 hbox hb; have n0_ := Aside0.mk (below_step (by repeat (first | (with_reducible first | exact HB.out | apply below_alloc | apply pw_below_drewN | apply below_drew1) | exact HB.out)) hb); have n1_ := Aside0.mk (hbox); have n2_ := Aside0.mk ((by rw [hg]; exact (below_size (by repeat (first | (with_reducible first | exact HB.out | apply below_alloc | apply pw_below_drewN | apply below_drew1) | exact HB.out))) : w.heap.size ≤ gb128)); have n3_ := Aside0.mk ((by rw [hg]; exact (below_size (by repeat (first | (with_reducible first | exact HB.out | apply below_alloc | apply pw_below_drewN | apply below_drew1) | exact HB.out))) : w.heap.size ≤ gb128)); clear HB; have HB := n0_; have BK128 := n1_; have GW128 := n2_; have GE128 := n3_; clear n0_ n1_ n2_ n3_; clear hb hbox hg) | ((with_reducible refine gate_dst (N := 2) rfl ?_); refine box_event ?hg (N := 2) ?hd (cs := #[.int .i64 0, .int .i64 0, .int .i64 0, .bool false]) (t := 50) ?hr ?_; (case hd => rfl); (case hg => rfl); (case hr => first | (go_simp; done) | (go_simp; rfl)); intro gb129 hg w5 hbox hb; have n0_ := Aside0.mk (blk_below (g := gb128) (o := .cells #[.int .i64 a0_0, .int .i64 a0_1, .int .i64 a0_2, .bool a0_3, .int .i64 a0_4] 216 (0, 0)) (by (with_reducible repeat (first | refine blk_drewN ?_ _ | refine blk_drew ?_ | refine blk_alloc ?_ _)); exact BK128.out) hb); have n1_ := Aside0.mk (below_step (by repeat (first | (with_reducible first | exact HB.out | apply below_alloc | apply pw_below_drewN | apply below_drew1 | refine below_set ?_ GE128.out) | exact HB.out)) hb); have n2_ := Aside0.mk (hbox); have n3_ := Aside0.mk ((by rw [hg]; exact (below_size (by repeat (first | (with_reducible first | exact HB.out | apply below_alloc | apply pw_below_drewN | apply below_drew1 | refine below_set ?_ GE128.out) | exact HB.out))) : w.heap.size ≤ gb129)); have n4_ := Aside0.mk ((by rw [hg]; exact (below_size (by repeat (first | (with_reducible first | exact HB.out | apply below_alloc | apply pw_below_drewN | apply below_drew1 | refine below_set ?_ GE128.out) | exact HB.out))) : w.heap.size ≤ gb129)); have n5_ := Aside0.mk ((by rw [hg]; exact Nat.ne_of_lt (blk_lt (g := gb128) (o := .cells #[.int .i64 a0_0, .int .i64 a0_1, .int .i64 a0_2, .bool a0_3, .int .i64 a0_4] 216 (0, 0)) (by (with_reducible repeat (first | refine blk_drewN ?_ _ | refine blk_drew ?_ | refine blk_alloc ?_ _)); exact BK128.out)) : gb128 ≠ gb129)); have n6_ := Aside0.mk ((by rw [hg]; exact Nat.ne_of_gt (blk_lt (g := gb128) (o := .cells #[.int .i64 a0_0, .int .i64 a0_1, .int .i64 a0_2, .bool a0_3, .int .i64 a0_4] 216 (0, 0)) (by (with_reducible repeat (first | refine blk_drewN ?_ _ | refine blk_drew ?_ | refine blk_alloc ?_ _)); exact BK128.out)) : gb129 ≠ gb128)); clear BK128; clear HB; have BK128 := n0_; have HB := n1_; have BK129 := n2_; have GW129 := n3_; have GE129 := n4_; have NB128_129 := n5_; have NB129_128 := n6_; clear n0_ n1_ n2_ n3_ n4_ n5_ n6_; clear hb hbox hg; have hnb6 := NB128_129.out; have hnc6 := NB129_128.out; have hcz7_0 : w5.cell? ⟨gb128, 0, none⟩ = some (.int .i64 a0_0) := (blk_cell BK128.out 0).trans rfl; have hcz7_1 : w5.cell? ⟨gb128, 1, none⟩ = some (.int .i64 a0_1) := (blk_cell BK128.out 1).trans rfl; have hcz7_2 : w5.cell? ⟨gb128, 2, none⟩ = some (.int .i64 a0_2) := (blk_cell BK128.out 2).trans rfl; have hcz7_3 : w5.cell? ⟨gb128, 3, none⟩ = some (.bool a0_3) := (blk_cell BK128.out 3).trans rfl; have hcz7_4 : w5.cell? ⟨gb128, 4, none⟩ = some (.int .i64 a0_4) := (blk_cell BK128.out 4).trans rfl; have hfz7_0 := blk_frozen BK128.out 0; have hfz7_1 := blk_frozen BK128.out 1; have hfz7_2 := blk_frozen BK128.out 2; have hfz7_3 := blk_frozen BK128.out 3; have hfz7_4 := blk_frozen BK128.out 4) | ((with_reducible refine gate_dst (N := 4) rfl ?_); refine box_event ?hg (N := 4) ?hd (cs := #[.int .i64 0, .int .i64 0, .int .i64 0, .bool false]) (t := 50) ?hr ?_; (case hd => rfl); (case hg => rfl); (case hr => first | (go_simp; done) | (go_simp; rfl)); intro gb130 hg w8 hbox hb; have n0_ := Aside0.mk (blk_below (g := gb128) (o := .cells #[.int .i64 a0_0, .int .i64 a0_1, .int .i64 a0_2, .bool a0_3, .int .i64 a0_4] 216 (0, 0)) (by (with_reducible repeat (first | refine blk_drewN ?_ _ | refine blk_drew ?_ | refine blk_alloc ?_ _)); exact BK128.out) hb); have n1_ := Aside0.mk (blk_below (g := gb129) (o := .cells #[.int .i64 0, .int .i64 0, .int .i64 0, .bool false] 50 (0, 0)) (by (with_reducible repeat (first | refine blk_drewN ?_ _ | refine blk_drew ?_ | refine blk_alloc ?_ _)); exact BK129.out) hb); have n2_ := Aside0.mk (below_step (by repeat (first | (with_reducible first | exact HB.out | apply below_alloc | apply pw_below_drewN | apply below_drew1 | refine below_set ?_ GE128.out | refine below_set ?_ GE129.out) | exact HB.out)) hb); have n3_ := Aside0.mk (hbox); have n4_ := Aside0.mk ((by rw [hg]; exact (below_size (by repeat (first | (with_reducible first | exact HB.out | apply below_alloc | apply pw_below_drewN | apply below_drew1 | refine below_set ?_ GE128.out | refine below_set ?_ GE129.out) | exact HB.out))) : w.heap.size ≤ gb130)); have n5_ := Aside0.mk ((by rw [hg]; exact (below_size (by repeat (first | (with_reducible first | exact HB.out | apply below_alloc | apply pw_below_drewN | apply below_drew1 | refine below_set ?_ GE128.out | refine below_set ?_ GE129.out) | exact HB.out))) : w.heap.size ≤ gb130)); have n6_ := Aside0.mk ((by rw [hg]; exact Nat.ne_of_lt (blk_lt (g := gb128) (o := .cells #[.int .i64 a0_0, .int .i64 a0_1, .int .i64 a0_2, .bool a0_3, .int .i64 a0_4] 216 (0, 0)) (by (with_reducible repeat (first | refine blk_drewN ?_ _ | refine blk_drew ?_ | refine blk_alloc ?_ _)); exact BK128.out)) : gb128 ≠ gb130)); have n7_ := Aside0.mk ((by rw [hg]; exact Nat.ne_of_gt (blk_lt (g := gb128) (o := .cells #[.int .i64 a0_0, .int .i64 a0_1, .int .i64 a0_2, .bool a0_3, .int .i64 a0_4] 216 (0, 0)) (by (with_reducible repeat (first | refine blk_drewN ?_ _ | refine blk_drew ?_ | refine blk_alloc ?_ _)); exact BK128.out)) : gb130 ≠ gb128)); have n8_ := Aside0.mk ((by rw [hg]; exact Nat.ne_of_lt (blk_lt (g := gb129) (o := .cells #[.int .i64 0, .int .i64 0, .int .i64 0, .bool false] 50 (0, 0)) (by (with_reducible repeat (first | refine blk_drewN ?_ _ | refine blk_drew ?_ | refine blk_alloc ?_ _)); exact BK129.out)) : gb129 ≠ gb130)); have n9_ := Aside0.mk ((by rw [hg]; exact Nat.ne_of_gt (blk_lt (g := gb129) (o := .cells #[.int .i64 0, .int .i64 0, .int .i64 0, .bool false] 50 (0, 0)) (by (with_reducible repeat (first | refine blk_drewN ?_ _ | refine blk_drew ?_ | refine blk_alloc ?_ _)); exact BK129.out)) : gb130 ≠ gb129)); clear BK128; clear BK129; clear HB; have BK128 := n0_; have BK129 := n1_; have HB := n2_; have BK130 := n3_; have GW130 := n4_; have GE130 := n5_; have NB128_130 := n6_; have NB130_128 := n7_; have NB129_130 := n8_; have NB130_129 := n9_; clear n0_ n1_ n2_ n3_ n4_ n5_ n6_ n7_ n8_ n9_; clear hb hbox hg; have hnb9 := NB130_128.out; have hnc9 := NB128_130.out; have hnb10 := NB130_129.out; have hnc10 := NB129_130.out; have hcz11_0 : w8.cell? ⟨gb130, 0, none⟩ = some (.int .i64 0) := (blk_cell BK130.out 0).trans rfl; have hcz11_1 : w8.cell? ⟨gb130, 1, none⟩ = some (.int .i64 0) := (blk_cell BK130.out 1).trans rfl; have hcz11_2 : w8.cell? ⟨gb130, 2, none⟩ = some (.int .i64 0) := (blk_cell BK130.out 2).trans rfl; have hcz11_3 : w8.cell? ⟨gb130, 3, none⟩ = some (.bool false) := (blk_cell BK130.out 3).trans rfl; have hfz11_0 := blk_frozen BK130.out 0; have hfz11_1 := blk_frozen BK130.out 1; have hfz11_2 := blk_frozen BK130.out 2; have hfz11_3 := blk_frozen BK130.out 3))
  have n0_ : Aside0 ((((((w8.setCell ⟨gb130, 0, none⟩ (.int .i64 a0_0)).setCell ⟨gb130, 1, none⟩ (.int .i64 a0_1)).setCell ⟨gb130, 2, none⟩ (.int .i64 a0_2)).setCell ⟨gb130, 3, none⟩ (.bool a0_3)).setCell ⟨gb130, 2, none⟩ (.int .i64 (wrap64 (a0_2 + 1)))).heap[gb128]? = some (.cells #[.int .i64 a0_0, .int .i64 a0_1, .int .i64 a0_2, .bool a0_3, .int .i64 a0_4] 216 (0, 0))) := ⟨by (with_reducible repeat (first | refine blk_drewN ?_ _ | refine blk_drew ?_ | refine blk_alloc ?_ _)); refine blk_far ?_ NB128_130.out _; (with_reducible repeat (first | refine blk_drewN ?_ _ | refine blk_drew ?_ | refine blk_alloc ?_ _)); refine blk_far ?_ NB128_130.out _; (with_reducible repeat (first | refine blk_drewN ?_ _ | refine blk_drew ?_ | refine blk_alloc ?_ _)); refine blk_far ?_ NB128_130.out _; (with_reducible repeat (first | refine blk_drewN ?_ _ | refine blk_drew ?_ | refine blk_alloc ?_ _)); refine blk_far ?_ NB128_130.out _; (with_reducible repeat (first | refine blk_drewN ?_ _ | refine blk_drew ?_ | refine blk_alloc ?_ _)); refine blk_far ?_ NB128_130.out _; (with_reducible repeat (first | refine blk_drewN ?_ _ | refine blk_drew ?_ | refine blk_alloc ?_ _)); exact BK128.out⟩
  have n1_ : Aside0 ((((((w8.setCell ⟨gb130, 0, none⟩ (.int .i64 a0_0)).setCell ⟨gb130, 1, none⟩ (.int .i64 a0_1)).setCell ⟨gb130, 2, none⟩ (.int .i64 a0_2)).setCell ⟨gb130, 3, none⟩ (.bool a0_3)).setCell ⟨gb130, 2, none⟩ (.int .i64 (wrap64 (a0_2 + 1)))).heap[gb129]? = some (.cells #[.int .i64 0, .int .i64 0, .int .i64 0, .bool false] 50 (0, 0))) := ⟨by (with_reducible repeat (first | refine blk_drewN ?_ _ | refine blk_drew ?_ | refine blk_alloc ?_ _)); refine blk_far ?_ NB129_130.out _; (with_reducible repeat (first | refine blk_drewN ?_ _ | refine blk_drew ?_ | refine blk_alloc ?_ _)); refine blk_far ?_ NB129_130.out _; (with_reducible repeat (first | refine blk_drewN ?_ _ | refine blk_drew ?_ | refine blk_alloc ?_ _)); refine blk_far ?_ NB129_130.out _; (with_reducible repeat (first | refine blk_drewN ?_ _ | refine blk_drew ?_ | refine blk_alloc ?_ _)); refine blk_far ?_ NB129_130.out _; (with_reducible repeat (first | refine blk_drewN ?_ _ | refine blk_drew ?_ | refine blk_alloc ?_ _)); refine blk_far ?_ NB129_130.out _; (with_reducible repeat (first | refine blk_drewN ?_ _ | refine blk_drew ?_ | refine blk_alloc ?_ _)); exact BK129.out⟩
  have n2_ : Aside0 ((((((w8.setCell ⟨gb130, 0, none⟩ (.int .i64 a0_0)).setCell ⟨gb130, 1, none⟩ (.int .i64 a0_1)).setCell ⟨gb130, 2, none⟩ (.int .i64 a0_2)).setCell ⟨gb130, 3, none⟩ (.bool a0_3)).setCell ⟨gb130, 2, none⟩ (.int .i64 (wrap64 (a0_2 + 1)))).heap[gb130]? = some (.cells #[.int .i64 a0_0, .int .i64 a0_1, .int .i64 (wrap64 (a0_2 + 1)), .bool a0_3] 50 (0, 0))) := ⟨by (with_reducible repeat (first | refine blk_drewN ?_ _ | refine blk_drew ?_ | refine blk_alloc ?_ _)); refine blk_put (cs := #[.int .i64 a0_0, .int .i64 a0_1, .int .i64 a0_2, .bool a0_3]) ?_ 2 _ rfl; (with_reducible repeat (first | refine blk_drewN ?_ _ | refine blk_drew ?_ | refine blk_alloc ?_ _)); refine blk_put (cs := #[.int .i64 a0_0, .int .i64 a0_1, .int .i64 a0_2, .bool false]) ?_ 3 _ rfl; (with_reducible repeat (first | refine blk_drewN ?_ _ | refine blk_drew ?_ | refine blk_alloc ?_ _)); refine blk_put (cs := #[.int .i64 a0_0, .int .i64 a0_1, .int .i64 0, .bool false]) ?_ 2 _ rfl; (with_reducible repeat (first | refine blk_drewN ?_ _ | refine blk_drew ?_ | refine blk_alloc ?_ _)); refine blk_put (cs := #[.int .i64 a0_0, .int .i64 0, .int .i64 0, .bool false]) ?_ 1 _ rfl; (with_reducible repeat (first | refine blk_drewN ?_ _ | refine blk_drew ?_ | refine blk_alloc ?_ _)); refine blk_put (cs := #[.int .i64 0, .int .i64 0, .int .i64 0, .bool false]) ?_ 0 _ rfl; (with_reducible repeat (first | refine blk_drewN ?_ _ | refine blk_drew ?_ | refine blk_alloc ?_ _)); exact BK130.out⟩
  have n3_ : Aside0 (Below w.heap.size w (((((w8.setCell ⟨gb130, 0, none⟩ (.int .i64 a0_0)).setCell ⟨gb130, 1, none⟩ (.int .i64 a0_1)).setCell ⟨gb130, 2, none⟩ (.int .i64 a0_2)).setCell ⟨gb130, 3, none⟩ (.bool a0_3)).setCell ⟨gb130, 2, none⟩ (.int .i64 (wrap64 (a0_2 + 1))))) := ⟨by repeat (first | (with_reducible first | exact HB.out | apply below_alloc | apply pw_below_drewN | apply below_drew1 | refine below_set ?_ GE128.out | refine below_set ?_ GE129.out | refine below_set ?_ GE130.out) | exact HB.out)⟩
  (try clear BK128)
  (try clear BK129)
  (try clear BK130)
  (try clear HB)
  generalize (((((w8.setCell ⟨gb130, 0, none⟩ (.int .i64 a0_0)).setCell ⟨gb130, 1, none⟩ (.int .i64 a0_1)).setCell ⟨gb130, 2, none⟩ (.int .i64 a0_2)).setCell ⟨gb130, 3, none⟩ (.bool a0_3)).setCell ⟨gb130, 2, none⟩ (.int .i64 (wrap64 (a0_2 + 1)))) = w12 at n0_ n1_ n2_ n3_ ⊢
  have BK128 := n0_
  have BK129 := n1_
  have BK130 := n2_
  have HB := n3_
  clear n0_ n1_ n2_ n3_
  have n0_ := Aside0.mk (blk_drew BK128.out)
  have n1_ := Aside0.mk (blk_drew BK129.out)
  have n2_ := Aside0.mk (blk_drew BK130.out)
  have n3_ := Aside0.mk (below_drew1 HB.out)
  clear BK128
  clear BK129
  clear BK130
  clear HB
  have BK128 := n0_
  have BK129 := n1_
  have BK130 := n2_
  have HB := n3_
  clear n0_ n1_ n2_ n3_
  refine start_ (n := 10) (S := fun w' => w'.cell? ⟨gb130, 0, none⟩ = some (.int .i64 a0_0) ∧ w'.cell? ⟨gb130, 1, none⟩ = some (.int .i64 a0_1) ∧ w'.cell? ⟨gb130, 2, none⟩ = some (.int .i64 (wrap64 (a0_2 + 1))) ∧ w'.cell? ⟨gb130, 3, none⟩ = some (.bool a0_3) ∧ w'.cell? ⟨gb128, 0, none⟩ = some (.int .i64 a0_0) ∧ w'.cell? ⟨gb128, 1, none⟩ = some (.int .i64 a0_1) ∧ w'.cell? ⟨gb128, 2, none⟩ = some (.int .i64 a0_2) ∧ w'.cell? ⟨gb128, 3, none⟩ = some (.bool a0_3) ∧ w'.cell? ⟨gb128, 4, none⟩ = some (.int .i64 a0_4)) (ds := []) #[false, false, false, false, false, false, false, false, false, false] (by kernel_rfl) rfl rfl ⟨(blk_cell BK130.out 0).trans rfl, (blk_cell BK130.out 1).trans rfl, (blk_cell BK130.out 2).trans rfl, (blk_cell BK130.out 3).trans rfl, (blk_cell BK128.out 0).trans rfl, (blk_cell BK128.out 1).trans rfl, (blk_cell BK128.out 2).trans rfl, (blk_cell BK128.out 3).trans rfl, (blk_cell BK128.out 4).trans rfl⟩ (fun hHeld => ?_); refine with_tabW fact_known_slip.tab3 fact_known_slip.bits3 (fun HT_ HW_ => ?_)
  generalize w12.drew = w13 at BK128 BK129 BK130 HB hHeld ⊢
  refine take_ (i := 0) (N := some 11) (v := ?_) (a' := ?_) #[true, false, false, false, false, false, false, false, false, false] rfl rfl (take_ofW HT_.out HW_.out (by kernel_rfl)) (fun _ _ _ h => h) (Or.inl ⟨by rfl, ?_⟩) hHeld ?_ ?_
  rotate_left
  ·rintro w' ⟨s0, s1, s2, s3, s4, s5, s6, s7, s8⟩
   go_simp
   with_reducible rfl
  rotate_left
  ·simp only [Act.put, List.setIfInBounds_toArray, List.set_cons_zero, List.set_cons_succ, i64_w, i32_w]
   rfl
  refine take_ (i := 1) (N := some 12) (v := ?_) (a' := ?_) #[true, true, false, false, false, false, false, false, false, false] rfl rfl (take_ofW HT_.out HW_.out (by kernel_rfl)) (fun _ _ _ h => h) (Or.inl ⟨by rfl, ?_⟩) hHeld ?_ ?_
  rotate_left
  ·rintro w' ⟨s0, s1, s2, s3, s4, s5, s6, s7, s8⟩
   go_simp
   with_reducible rfl
  rotate_left
  ·simp only [Act.put, List.setIfInBounds_toArray, List.set_cons_zero, List.set_cons_succ, i64_w, i32_w]
   rfl
  refine one_ (i := 2) (N := some 13) #[true, true, true, false, false, false, false, false, false, false] rfl rfl (one_of HT_.out (by kernel_rfl)) (by decide) (fun K hK => ?_)
  refine goes_ Tryz.func167 (by kernel_rfl) rfl #[.agg #[.int .i64 a0_0, .int .i64 a0_1, .int .i64 a0_2, .bool a0_3, .int .i64 a0_4]] (by rfl) rfl rfl (by (try simp only [List.map_toArray, List.map_cons, List.map_nil]); first | done | rfl | (simp only [List.length_drop, List.length_take]; rfl)) ?_
  with_reducible refine (fact_known_open.calls a0_0 a0_1 a0_2 a0_3 a0_4 true _ A2.out).mono ?_
  rintro e w14 ⟨rfl, hb⟩
  refine ⟨_, rfl, ?_⟩
  have n0_ := Aside0.mk (blk_below (g := gb128) (o := .cells #[.int .i64 a0_0, .int .i64 a0_1, .int .i64 a0_2, .bool a0_3, .int .i64 a0_4] 216 (0, 0)) (by (with_reducible repeat (first | refine blk_drewN ?_ _ | refine blk_drew ?_ | refine blk_alloc ?_ _)); exact BK128.out) hb)
  have n1_ := Aside0.mk (blk_below (g := gb129) (o := .cells #[.int .i64 0, .int .i64 0, .int .i64 0, .bool false] 50 (0, 0)) (by (with_reducible repeat (first | refine blk_drewN ?_ _ | refine blk_drew ?_ | refine blk_alloc ?_ _)); exact BK129.out) hb)
  have n2_ := Aside0.mk (blk_below (g := gb130) (o := .cells #[.int .i64 a0_0, .int .i64 a0_1, .int .i64 (wrap64 (a0_2 + 1)), .bool a0_3] 50 (0, 0)) (by (with_reducible repeat (first | refine blk_drewN ?_ _ | refine blk_drew ?_ | refine blk_alloc ?_ _)); exact BK130.out) hb)
  have n3_ := Aside0.mk (below_step (by repeat (first | (with_reducible first | exact HB.out | apply below_alloc | apply pw_below_drewN | apply below_drew1 | refine below_set ?_ GE128.out | refine below_set ?_ GE129.out | refine below_set ?_ GE130.out) | exact HB.out)) hb)
  clear BK128
  clear BK129
  clear BK130
  clear HB
  have BK128 := n0_
  have BK129 := n1_
  have BK130 := n2_
  have HB := n3_
  clear n0_ n1_ n2_ n3_
  (try clear hb)
  (try clear hb2)
  (try clear hk)
  (try clear hi)
  refine hK.out _ _ ⟨(blk_cell BK130.out 0).trans rfl, (blk_cell BK130.out 1).trans rfl, (blk_cell BK130.out 2).trans rfl, (blk_cell BK130.out 3).trans rfl, (blk_cell BK128.out 0).trans rfl, (blk_cell BK128.out 1).trans rfl, (blk_cell BK128.out 2).trans rfl, (blk_cell BK128.out 3).trans rfl, (blk_cell BK128.out 4).trans rfl⟩ (fun hHeld => ?_)
  clear hK K
  refine norm_ (a' := ?_) ?_ ?_
  rotate_left
  ·show Act.put _ (some 13) _ = _
   simp only [Act.put, List.setIfInBounds_toArray, List.set_cons_zero, List.set_cons_succ, i64_w, i32_w]
   rfl
  refine pure_ (i := 3) (N := some 14) (v := ?_) (a' := ?_) #[true, true, true, true, false, false, false, false, false, false] rfl rfl (any_of HT_.out (by kernel_rfl)) (fun _ _ _ h => h) (Or.inl ⟨by rfl, ?_⟩) ?_ ?_
  rotate_left
  ·intro w'
   go_simp
   with_reducible rfl
  rotate_left
  ·simp only [Act.put, List.setIfInBounds_toArray, List.set_cons_zero, List.set_cons_succ, i64_w, i32_w]
   rfl
  refine pure_ (i := 4) (N := some 15) (v := ?_) (a' := ?_) #[true, true, true, true, true, false, false, false, false, false] rfl rfl (any_of HT_.out (by kernel_rfl)) (fun _ _ _ h => h) (Or.inl ⟨by rfl, ?_⟩) ?_ ?_
  rotate_left
  ·intro w'
   go_simp
   with_reducible rfl
  rotate_left
  ·simp only [Act.put, List.setIfInBounds_toArray, List.set_cons_zero, List.set_cons_succ, i64_w, i32_w]
   rfl
  refine take_ (i := 5) (N := some 16) (v := ?_) (a' := ?_) #[true, true, true, true, true, true, false, false, false, false] rfl rfl (take_ofW HT_.out HW_.out (by kernel_rfl)) (fun _ _ _ h => h) (Or.inl ⟨by rfl, ?_⟩) hHeld ?_ ?_
  rotate_left
  ·rintro w' ⟨s0, s1, s2, s3, s4, s5, s6, s7, s8⟩
   go_simp
   with_reducible rfl
  rotate_left
  ·simp only [Act.put, List.setIfInBounds_toArray, List.set_cons_zero, List.set_cons_succ, i64_w, i32_w]
   rfl
  refine pure_ (i := 6) (N := some 17) (v := ?_) (a' := ?_) #[true, true, true, true, true, true, true, false, false, false] rfl rfl (any_of HT_.out (by kernel_rfl)) (fun _ _ _ h => h) (Or.inl ⟨by rfl, ?_⟩) ?_ ?_
  rotate_left
  ·intro w'
   go_simp
   with_reducible rfl
  rotate_left
  ·simp only [Act.put, List.setIfInBounds_toArray, List.set_cons_zero, List.set_cons_succ, i64_w, i32_w]
   rfl
  refine pure_ (i := 7) (N := some 18) (v := ?_) (a' := ?_) #[true, true, true, true, true, true, true, true, false, false] rfl rfl (any_of HT_.out (by kernel_rfl)) (fun _ _ _ h => h) (Or.inl ⟨by rfl, ?_⟩) ?_ ?_
  rotate_left
  ·intro w'
   go_simp
   with_reducible rfl
  rotate_left
  ·simp only [Act.put, List.setIfInBounds_toArray, List.set_cons_zero, List.set_cons_succ, i64_w, i32_w]
   rfl
  refine one_ (i := 8) (N := none) #[true, true, true, true, true, true, true, true, true, false] rfl rfl (one_of HT_.out (by kernel_rfl)) (by decide) (fun K hK => ?_)
  have hs15 : w14.cell? ⟨gb129, 0, none⟩ = some (.int .i64 0) := (blk_cell BK129.out 0).trans rfl
  have hfs15 := blk_frozen BK129.out 0
  have hns15_0 := NB128_129.out
  have hns15_2 := NB130_129.out
  have hms15_0 := NB129_128.out
  have hms15_2 := NB129_130.out
  have hs16 : w14.cell? ⟨gb129, 1, none⟩ = some (.int .i64 0) := (blk_cell BK129.out 1).trans rfl
  have hfs16 := blk_frozen BK129.out 1
  have hns16_0 := NB128_129.out
  have hns16_2 := NB130_129.out
  have hms16_0 := NB129_128.out
  have hms16_2 := NB129_130.out
  have hs17 : w14.cell? ⟨gb129, 2, none⟩ = some (.int .i64 0) := (blk_cell BK129.out 2).trans rfl
  have hfs17 := blk_frozen BK129.out 2
  have hns17_0 := NB128_129.out
  have hns17_2 := NB130_129.out
  have hms17_0 := NB129_128.out
  have hms17_2 := NB129_130.out
  have hs18 : w14.cell? ⟨gb129, 3, none⟩ = some (.bool false) := (blk_cell BK129.out 3).trans rfl
  have hfs18 := blk_frozen BK129.out 3
  have hns18_0 := NB128_129.out
  have hns18_2 := NB130_129.out
  have hms18_0 := NB129_128.out
  have hms18_2 := NB129_130.out
  refine skip_ (w1 := ?_) (by rfl) rfl ?_ ?_
  rotate_left
  ·go_simp
   rfl
  refine hK.out _ _ ⟨((cell_far (p := ⟨gb129, _, none⟩) NB130_129.out _).trans (((cell_far (p := ⟨gb129, _, none⟩) NB130_129.out _).trans (((cell_far (p := ⟨gb129, _, none⟩) NB130_129.out _).trans (((cell_far (p := ⟨gb129, _, none⟩) NB130_129.out _).trans (hHeld.1)))))))), ((cell_far (p := ⟨gb129, _, none⟩) NB130_129.out _).trans (((cell_far (p := ⟨gb129, _, none⟩) NB130_129.out _).trans (((cell_far (p := ⟨gb129, _, none⟩) NB130_129.out _).trans (((cell_far (p := ⟨gb129, _, none⟩) NB130_129.out _).trans (hHeld.2.1)))))))), ((cell_far (p := ⟨gb129, _, none⟩) NB130_129.out _).trans (((cell_far (p := ⟨gb129, _, none⟩) NB130_129.out _).trans (((cell_far (p := ⟨gb129, _, none⟩) NB130_129.out _).trans (((cell_far (p := ⟨gb129, _, none⟩) NB130_129.out _).trans (hHeld.2.2.1)))))))), ((cell_far (p := ⟨gb129, _, none⟩) NB130_129.out _).trans (((cell_far (p := ⟨gb129, _, none⟩) NB130_129.out _).trans (((cell_far (p := ⟨gb129, _, none⟩) NB130_129.out _).trans (((cell_far (p := ⟨gb129, _, none⟩) NB130_129.out _).trans (hHeld.2.2.2.1)))))))), ((cell_far (p := ⟨gb129, _, none⟩) NB128_129.out _).trans (((cell_far (p := ⟨gb129, _, none⟩) NB128_129.out _).trans (((cell_far (p := ⟨gb129, _, none⟩) NB128_129.out _).trans (((cell_far (p := ⟨gb129, _, none⟩) NB128_129.out _).trans (hHeld.2.2.2.2.1)))))))), ((cell_far (p := ⟨gb129, _, none⟩) NB128_129.out _).trans (((cell_far (p := ⟨gb129, _, none⟩) NB128_129.out _).trans (((cell_far (p := ⟨gb129, _, none⟩) NB128_129.out _).trans (((cell_far (p := ⟨gb129, _, none⟩) NB128_129.out _).trans (hHeld.2.2.2.2.2.1)))))))), ((cell_far (p := ⟨gb129, _, none⟩) NB128_129.out _).trans (((cell_far (p := ⟨gb129, _, none⟩) NB128_129.out _).trans (((cell_far (p := ⟨gb129, _, none⟩) NB128_129.out _).trans (((cell_far (p := ⟨gb129, _, none⟩) NB128_129.out _).trans (hHeld.2.2.2.2.2.2.1)))))))), ((cell_far (p := ⟨gb129, _, none⟩) NB128_129.out _).trans (((cell_far (p := ⟨gb129, _, none⟩) NB128_129.out _).trans (((cell_far (p := ⟨gb129, _, none⟩) NB128_129.out _).trans (((cell_far (p := ⟨gb129, _, none⟩) NB128_129.out _).trans (hHeld.2.2.2.2.2.2.2.1)))))))), ((cell_far (p := ⟨gb129, _, none⟩) NB128_129.out _).trans (((cell_far (p := ⟨gb129, _, none⟩) NB128_129.out _).trans (((cell_far (p := ⟨gb129, _, none⟩) NB128_129.out _).trans (((cell_far (p := ⟨gb129, _, none⟩) NB128_129.out _).trans (hHeld.2.2.2.2.2.2.2.2))))))))⟩ (fun hHeld => ?_)
  clear hK K
  refine pure_ (i := 9) (N := some 3) (v := ?_) (a' := ?_) #[true, true, true, true, true, true, true, true, true, true] rfl rfl (any_of HT_.out (by kernel_rfl)) (fun _ _ _ h => h) (Or.inl ⟨by rfl, ?_⟩) ?_ ?_
  rotate_left
  ·intro w'
   go_simp
   with_reducible rfl
  rotate_left
  ·simp only [Act.put, List.setIfInBounds_toArray, List.set_cons_zero, List.set_cons_succ, i64_w, i32_w]
   rfl
  refine done_ (done_of HT_.out (by kernel_rfl)) ?_
  try go_wp2
  refine bodyPost_ret (results_ct rfl _ _ gb129 50 #[.int .i64 a0_0, .int .i64 a0_1, .int .i64 (wrap64 (a0_2 + 1)), .bool a0_3] (0, 0) _ rfl (by (with_reducible repeat (first | refine blk_drewN ?_ _ | refine blk_drew ?_ | refine blk_alloc ?_ _)); refine blk_put (cs := #[.int .i64 a0_0, .int .i64 a0_1, .int .i64 (wrap64 (a0_2 + 1)), .bool false]) ?_ 3 _ rfl; (with_reducible repeat (first | refine blk_drewN ?_ _ | refine blk_drew ?_ | refine blk_alloc ?_ _)); refine blk_put (cs := #[.int .i64 a0_0, .int .i64 a0_1, .int .i64 0, .bool false]) ?_ 2 _ rfl; (with_reducible repeat (first | refine blk_drewN ?_ _ | refine blk_drew ?_ | refine blk_alloc ?_ _)); refine blk_put (cs := #[.int .i64 a0_0, .int .i64 0, .int .i64 0, .bool false]) ?_ 1 _ rfl; (with_reducible repeat (first | refine blk_drewN ?_ _ | refine blk_drew ?_ | refine blk_alloc ?_ _)); refine blk_put (cs := #[.int .i64 0, .int .i64 0, .int .i64 0, .bool false]) ?_ 0 _ rfl; (with_reducible repeat (first | refine blk_drewN ?_ _ | refine blk_drew ?_ | refine blk_alloc ?_ _)); exact BK129.out) Tryz.underlying50 rfl (by kernel_rfl)) rfl ?_
  exact ⟨by first | rfl | (simp [errW_none, errW_some] <;> rfl) | (simp [*, errW_none, errW_some] <;> rfl), by repeat (first | (with_reducible first | exact HB.out | apply below_alloc | apply pw_below_drewN | apply below_drew1 | refine below_set ?_ GE128.out | refine below_set ?_ GE129.out | refine below_set ?_ GE130.out) | exact HB.out)⟩
 ·replace c3 := Bool.eq_false_iff.mpr c3
  subst c3
  have H1 : (some (a0_0, a0_1, wrap64 (a0_2 + 1), a0_3, false)) = some (r1, r2, r3, r4, r5) := by rw [if_neg (show ¬ (false = true) by decide)] at H; exact H
  clear H
  have H := H1
  clear H1
  simp only [Option.some.injEq, Prod.mk.injEq] at H
  obtain ⟨rfl, rfl, rfl, rfl, rfl⟩ := H
  go_enter Tryz.func158, Tryz.ntmps158
  try go_wp2_with (first | ((with_reducible refine gate_dst (N := 1) rfl ?_); refine box_event ?hg (N := 1) ?hd (cs := #[.int .i64 a0_0, .int .i64 a0_1, .int .i64 a0_2, .bool a0_3, .int .i64 a0_4]) (t := 216) ?hr ?_; (case hd => rfl); (case hg => rfl); (case hr => first | (go_simp; done) | (go_simp; rfl)); intro gb128 hg w19 hbox hb; have n0_ := Aside0.mk (below_step (by repeat (first | (with_reducible first | exact HB.out | apply below_alloc | apply pw_below_drewN | apply below_drew1) | exact HB.out)) hb); have n1_ := Aside0.mk (hbox); have n2_ := Aside0.mk ((by rw [hg]; exact (below_size (by repeat (first | (with_reducible first | exact HB.out | apply below_alloc | apply pw_below_drewN | apply below_drew1) | exact HB.out))) : w.heap.size ≤ gb128)); have n3_ := Aside0.mk ((by rw [hg]; exact (below_size (by repeat (first | (with_reducible first | exact HB.out | apply below_alloc | apply pw_below_drewN | apply below_drew1) | exact HB.out))) : w.heap.size ≤ gb128)); clear HB; have HB := n0_; have BK128 := n1_; have GW128 := n2_; have GE128 := n3_; clear n0_ n1_ n2_ n3_; clear hb hbox hg) | ((with_reducible refine gate_dst (N := 2) rfl ?_); refine box_event ?hg (N := 2) ?hd (cs := #[.int .i64 0, .int .i64 0, .int .i64 0, .bool false]) (t := 50) ?hr ?_; (case hd => rfl); (case hg => rfl); (case hr => first | (go_simp; done) | (go_simp; rfl)); intro gb129 hg w20 hbox hb; have n0_ := Aside0.mk (blk_below (g := gb128) (o := .cells #[.int .i64 a0_0, .int .i64 a0_1, .int .i64 a0_2, .bool a0_3, .int .i64 a0_4] 216 (0, 0)) (by (with_reducible repeat (first | refine blk_drewN ?_ _ | refine blk_drew ?_ | refine blk_alloc ?_ _)); exact BK128.out) hb); have n1_ := Aside0.mk (below_step (by repeat (first | (with_reducible first | exact HB.out | apply below_alloc | apply pw_below_drewN | apply below_drew1 | refine below_set ?_ GE128.out) | exact HB.out)) hb); have n2_ := Aside0.mk (hbox); have n3_ := Aside0.mk ((by rw [hg]; exact (below_size (by repeat (first | (with_reducible first | exact HB.out | apply below_alloc | apply pw_below_drewN | apply below_drew1 | refine below_set ?_ GE128.out) | exact HB.out))) : w.heap.size ≤ gb129)); have n4_ := Aside0.mk ((by rw [hg]; exact (below_size (by repeat (first | (with_reducible first | exact HB.out | apply below_alloc | apply pw_below_drewN | apply below_drew1 | refine below_set ?_ GE128.out) | exact HB.out))) : w.heap.size ≤ gb129)); have n5_ := Aside0.mk ((by rw [hg]; exact Nat.ne_of_lt (blk_lt (g := gb128) (o := .cells #[.int .i64 a0_0, .int .i64 a0_1, .int .i64 a0_2, .bool a0_3, .int .i64 a0_4] 216 (0, 0)) (by (with_reducible repeat (first | refine blk_drewN ?_ _ | refine blk_drew ?_ | refine blk_alloc ?_ _)); exact BK128.out)) : gb128 ≠ gb129)); have n6_ := Aside0.mk ((by rw [hg]; exact Nat.ne_of_gt (blk_lt (g := gb128) (o := .cells #[.int .i64 a0_0, .int .i64 a0_1, .int .i64 a0_2, .bool a0_3, .int .i64 a0_4] 216 (0, 0)) (by (with_reducible repeat (first | refine blk_drewN ?_ _ | refine blk_drew ?_ | refine blk_alloc ?_ _)); exact BK128.out)) : gb129 ≠ gb128)); clear BK128; clear HB; have BK128 := n0_; have HB := n1_; have BK129 := n2_; have GW129 := n3_; have GE129 := n4_; have NB128_129 := n5_; have NB129_128 := n6_; clear n0_ n1_ n2_ n3_ n4_ n5_ n6_; clear hb hbox hg; have hnb21 := NB128_129.out; have hnc21 := NB129_128.out; have hcz22_0 : w20.cell? ⟨gb128, 0, none⟩ = some (.int .i64 a0_0) := (blk_cell BK128.out 0).trans rfl; have hcz22_1 : w20.cell? ⟨gb128, 1, none⟩ = some (.int .i64 a0_1) := (blk_cell BK128.out 1).trans rfl; have hcz22_2 : w20.cell? ⟨gb128, 2, none⟩ = some (.int .i64 a0_2) := (blk_cell BK128.out 2).trans rfl; have hcz22_3 : w20.cell? ⟨gb128, 3, none⟩ = some (.bool a0_3) := (blk_cell BK128.out 3).trans rfl; have hcz22_4 : w20.cell? ⟨gb128, 4, none⟩ = some (.int .i64 a0_4) := (blk_cell BK128.out 4).trans rfl; have hfz22_0 := blk_frozen BK128.out 0; have hfz22_1 := blk_frozen BK128.out 1; have hfz22_2 := blk_frozen BK128.out 2; have hfz22_3 := blk_frozen BK128.out 3; have hfz22_4 := blk_frozen BK128.out 4) | ((with_reducible refine gate_dst (N := 4) rfl ?_); refine box_event ?hg (N := 4) ?hd (cs := #[.int .i64 0, .int .i64 0, .int .i64 0, .bool false]) (t := 50) ?hr ?_; (case hd => rfl); (case hg => rfl); (case hr => first | (go_simp; done) | (go_simp; rfl)); intro gb130 hg w23 hbox hb; have n0_ := Aside0.mk (blk_below (g := gb128) (o := .cells #[.int .i64 a0_0, .int .i64 a0_1, .int .i64 a0_2, .bool a0_3, .int .i64 a0_4] 216 (0, 0)) (by (with_reducible repeat (first | refine blk_drewN ?_ _ | refine blk_drew ?_ | refine blk_alloc ?_ _)); exact BK128.out) hb); have n1_ := Aside0.mk (blk_below (g := gb129) (o := .cells #[.int .i64 0, .int .i64 0, .int .i64 0, .bool false] 50 (0, 0)) (by (with_reducible repeat (first | refine blk_drewN ?_ _ | refine blk_drew ?_ | refine blk_alloc ?_ _)); exact BK129.out) hb); have n2_ := Aside0.mk (below_step (by repeat (first | (with_reducible first | exact HB.out | apply below_alloc | apply pw_below_drewN | apply below_drew1 | refine below_set ?_ GE128.out | refine below_set ?_ GE129.out) | exact HB.out)) hb); have n3_ := Aside0.mk (hbox); have n4_ := Aside0.mk ((by rw [hg]; exact (below_size (by repeat (first | (with_reducible first | exact HB.out | apply below_alloc | apply pw_below_drewN | apply below_drew1 | refine below_set ?_ GE128.out | refine below_set ?_ GE129.out) | exact HB.out))) : w.heap.size ≤ gb130)); have n5_ := Aside0.mk ((by rw [hg]; exact (below_size (by repeat (first | (with_reducible first | exact HB.out | apply below_alloc | apply pw_below_drewN | apply below_drew1 | refine below_set ?_ GE128.out | refine below_set ?_ GE129.out) | exact HB.out))) : w.heap.size ≤ gb130)); have n6_ := Aside0.mk ((by rw [hg]; exact Nat.ne_of_lt (blk_lt (g := gb128) (o := .cells #[.int .i64 a0_0, .int .i64 a0_1, .int .i64 a0_2, .bool a0_3, .int .i64 a0_4] 216 (0, 0)) (by (with_reducible repeat (first | refine blk_drewN ?_ _ | refine blk_drew ?_ | refine blk_alloc ?_ _)); exact BK128.out)) : gb128 ≠ gb130)); have n7_ := Aside0.mk ((by rw [hg]; exact Nat.ne_of_gt (blk_lt (g := gb128) (o := .cells #[.int .i64 a0_0, .int .i64 a0_1, .int .i64 a0_2, .bool a0_3, .int .i64 a0_4] 216 (0, 0)) (by (with_reducible repeat (first | refine blk_drewN ?_ _ | refine blk_drew ?_ | refine blk_alloc ?_ _)); exact BK128.out)) : gb130 ≠ gb128)); have n8_ := Aside0.mk ((by rw [hg]; exact Nat.ne_of_lt (blk_lt (g := gb129) (o := .cells #[.int .i64 0, .int .i64 0, .int .i64 0, .bool false] 50 (0, 0)) (by (with_reducible repeat (first | refine blk_drewN ?_ _ | refine blk_drew ?_ | refine blk_alloc ?_ _)); exact BK129.out)) : gb129 ≠ gb130)); have n9_ := Aside0.mk ((by rw [hg]; exact Nat.ne_of_gt (blk_lt (g := gb129) (o := .cells #[.int .i64 0, .int .i64 0, .int .i64 0, .bool false] 50 (0, 0)) (by (with_reducible repeat (first | refine blk_drewN ?_ _ | refine blk_drew ?_ | refine blk_alloc ?_ _)); exact BK129.out)) : gb130 ≠ gb129)); clear BK128; clear BK129; clear HB; have BK128 := n0_; have BK129 := n1_; have HB := n2_; have BK130 := n3_; have GW130 := n4_; have GE130 := n5_; have NB128_130 := n6_; have NB130_128 := n7_; have NB129_130 := n8_; have NB130_129 := n9_; clear n0_ n1_ n2_ n3_ n4_ n5_ n6_ n7_ n8_ n9_; clear hb hbox hg; have hnb24 := NB130_128.out; have hnc24 := NB128_130.out; have hnb25 := NB130_129.out; have hnc25 := NB129_130.out; have hcz26_0 : w23.cell? ⟨gb130, 0, none⟩ = some (.int .i64 0) := (blk_cell BK130.out 0).trans rfl; have hcz26_1 : w23.cell? ⟨gb130, 1, none⟩ = some (.int .i64 0) := (blk_cell BK130.out 1).trans rfl; have hcz26_2 : w23.cell? ⟨gb130, 2, none⟩ = some (.int .i64 0) := (blk_cell BK130.out 2).trans rfl; have hcz26_3 : w23.cell? ⟨gb130, 3, none⟩ = some (.bool false) := (blk_cell BK130.out 3).trans rfl; have hfz26_0 := blk_frozen BK130.out 0; have hfz26_1 := blk_frozen BK130.out 1; have hfz26_2 := blk_frozen BK130.out 2; have hfz26_3 := blk_frozen BK130.out 3))
  have n0_ : Aside0 ((((((w23.setCell ⟨gb130, 0, none⟩ (.int .i64 a0_0)).setCell ⟨gb130, 1, none⟩ (.int .i64 a0_1)).setCell ⟨gb130, 2, none⟩ (.int .i64 a0_2)).setCell ⟨gb130, 3, none⟩ (.bool a0_3)).setCell ⟨gb130, 2, none⟩ (.int .i64 (wrap64 (a0_2 + 1)))).heap[gb128]? = some (.cells #[.int .i64 a0_0, .int .i64 a0_1, .int .i64 a0_2, .bool a0_3, .int .i64 a0_4] 216 (0, 0))) := ⟨by (with_reducible repeat (first | refine blk_drewN ?_ _ | refine blk_drew ?_ | refine blk_alloc ?_ _)); refine blk_far ?_ NB128_130.out _; (with_reducible repeat (first | refine blk_drewN ?_ _ | refine blk_drew ?_ | refine blk_alloc ?_ _)); refine blk_far ?_ NB128_130.out _; (with_reducible repeat (first | refine blk_drewN ?_ _ | refine blk_drew ?_ | refine blk_alloc ?_ _)); refine blk_far ?_ NB128_130.out _; (with_reducible repeat (first | refine blk_drewN ?_ _ | refine blk_drew ?_ | refine blk_alloc ?_ _)); refine blk_far ?_ NB128_130.out _; (with_reducible repeat (first | refine blk_drewN ?_ _ | refine blk_drew ?_ | refine blk_alloc ?_ _)); refine blk_far ?_ NB128_130.out _; (with_reducible repeat (first | refine blk_drewN ?_ _ | refine blk_drew ?_ | refine blk_alloc ?_ _)); exact BK128.out⟩
  have n1_ : Aside0 ((((((w23.setCell ⟨gb130, 0, none⟩ (.int .i64 a0_0)).setCell ⟨gb130, 1, none⟩ (.int .i64 a0_1)).setCell ⟨gb130, 2, none⟩ (.int .i64 a0_2)).setCell ⟨gb130, 3, none⟩ (.bool a0_3)).setCell ⟨gb130, 2, none⟩ (.int .i64 (wrap64 (a0_2 + 1)))).heap[gb129]? = some (.cells #[.int .i64 0, .int .i64 0, .int .i64 0, .bool false] 50 (0, 0))) := ⟨by (with_reducible repeat (first | refine blk_drewN ?_ _ | refine blk_drew ?_ | refine blk_alloc ?_ _)); refine blk_far ?_ NB129_130.out _; (with_reducible repeat (first | refine blk_drewN ?_ _ | refine blk_drew ?_ | refine blk_alloc ?_ _)); refine blk_far ?_ NB129_130.out _; (with_reducible repeat (first | refine blk_drewN ?_ _ | refine blk_drew ?_ | refine blk_alloc ?_ _)); refine blk_far ?_ NB129_130.out _; (with_reducible repeat (first | refine blk_drewN ?_ _ | refine blk_drew ?_ | refine blk_alloc ?_ _)); refine blk_far ?_ NB129_130.out _; (with_reducible repeat (first | refine blk_drewN ?_ _ | refine blk_drew ?_ | refine blk_alloc ?_ _)); refine blk_far ?_ NB129_130.out _; (with_reducible repeat (first | refine blk_drewN ?_ _ | refine blk_drew ?_ | refine blk_alloc ?_ _)); exact BK129.out⟩
  have n2_ : Aside0 ((((((w23.setCell ⟨gb130, 0, none⟩ (.int .i64 a0_0)).setCell ⟨gb130, 1, none⟩ (.int .i64 a0_1)).setCell ⟨gb130, 2, none⟩ (.int .i64 a0_2)).setCell ⟨gb130, 3, none⟩ (.bool a0_3)).setCell ⟨gb130, 2, none⟩ (.int .i64 (wrap64 (a0_2 + 1)))).heap[gb130]? = some (.cells #[.int .i64 a0_0, .int .i64 a0_1, .int .i64 (wrap64 (a0_2 + 1)), .bool a0_3] 50 (0, 0))) := ⟨by (with_reducible repeat (first | refine blk_drewN ?_ _ | refine blk_drew ?_ | refine blk_alloc ?_ _)); refine blk_put (cs := #[.int .i64 a0_0, .int .i64 a0_1, .int .i64 a0_2, .bool a0_3]) ?_ 2 _ rfl; (with_reducible repeat (first | refine blk_drewN ?_ _ | refine blk_drew ?_ | refine blk_alloc ?_ _)); refine blk_put (cs := #[.int .i64 a0_0, .int .i64 a0_1, .int .i64 a0_2, .bool false]) ?_ 3 _ rfl; (with_reducible repeat (first | refine blk_drewN ?_ _ | refine blk_drew ?_ | refine blk_alloc ?_ _)); refine blk_put (cs := #[.int .i64 a0_0, .int .i64 a0_1, .int .i64 0, .bool false]) ?_ 2 _ rfl; (with_reducible repeat (first | refine blk_drewN ?_ _ | refine blk_drew ?_ | refine blk_alloc ?_ _)); refine blk_put (cs := #[.int .i64 a0_0, .int .i64 0, .int .i64 0, .bool false]) ?_ 1 _ rfl; (with_reducible repeat (first | refine blk_drewN ?_ _ | refine blk_drew ?_ | refine blk_alloc ?_ _)); refine blk_put (cs := #[.int .i64 0, .int .i64 0, .int .i64 0, .bool false]) ?_ 0 _ rfl; (with_reducible repeat (first | refine blk_drewN ?_ _ | refine blk_drew ?_ | refine blk_alloc ?_ _)); exact BK130.out⟩
  have n3_ : Aside0 (Below w.heap.size w (((((w23.setCell ⟨gb130, 0, none⟩ (.int .i64 a0_0)).setCell ⟨gb130, 1, none⟩ (.int .i64 a0_1)).setCell ⟨gb130, 2, none⟩ (.int .i64 a0_2)).setCell ⟨gb130, 3, none⟩ (.bool a0_3)).setCell ⟨gb130, 2, none⟩ (.int .i64 (wrap64 (a0_2 + 1))))) := ⟨by repeat (first | (with_reducible first | exact HB.out | apply below_alloc | apply pw_below_drewN | apply below_drew1 | refine below_set ?_ GE128.out | refine below_set ?_ GE129.out | refine below_set ?_ GE130.out) | exact HB.out)⟩
  (try clear BK128)
  (try clear BK129)
  (try clear BK130)
  (try clear HB)
  generalize (((((w23.setCell ⟨gb130, 0, none⟩ (.int .i64 a0_0)).setCell ⟨gb130, 1, none⟩ (.int .i64 a0_1)).setCell ⟨gb130, 2, none⟩ (.int .i64 a0_2)).setCell ⟨gb130, 3, none⟩ (.bool a0_3)).setCell ⟨gb130, 2, none⟩ (.int .i64 (wrap64 (a0_2 + 1)))) = w27 at n0_ n1_ n2_ n3_ ⊢
  have BK128 := n0_
  have BK129 := n1_
  have BK130 := n2_
  have HB := n3_
  clear n0_ n1_ n2_ n3_
  have n0_ := Aside0.mk (blk_drew BK128.out)
  have n1_ := Aside0.mk (blk_drew BK129.out)
  have n2_ := Aside0.mk (blk_drew BK130.out)
  have n3_ := Aside0.mk (below_drew1 HB.out)
  clear BK128
  clear BK129
  clear BK130
  clear HB
  have BK128 := n0_
  have BK129 := n1_
  have BK130 := n2_
  have HB := n3_
  clear n0_ n1_ n2_ n3_
  refine start_ (n := 10) (S := fun w' => w'.cell? ⟨gb130, 0, none⟩ = some (.int .i64 a0_0) ∧ w'.cell? ⟨gb130, 1, none⟩ = some (.int .i64 a0_1) ∧ w'.cell? ⟨gb130, 2, none⟩ = some (.int .i64 (wrap64 (a0_2 + 1))) ∧ w'.cell? ⟨gb130, 3, none⟩ = some (.bool a0_3) ∧ w'.cell? ⟨gb128, 0, none⟩ = some (.int .i64 a0_0) ∧ w'.cell? ⟨gb128, 1, none⟩ = some (.int .i64 a0_1) ∧ w'.cell? ⟨gb128, 2, none⟩ = some (.int .i64 a0_2) ∧ w'.cell? ⟨gb128, 3, none⟩ = some (.bool a0_3) ∧ w'.cell? ⟨gb128, 4, none⟩ = some (.int .i64 a0_4)) (ds := []) #[false, false, false, false, false, false, false, false, false, false] (by kernel_rfl) rfl rfl ⟨(blk_cell BK130.out 0).trans rfl, (blk_cell BK130.out 1).trans rfl, (blk_cell BK130.out 2).trans rfl, (blk_cell BK130.out 3).trans rfl, (blk_cell BK128.out 0).trans rfl, (blk_cell BK128.out 1).trans rfl, (blk_cell BK128.out 2).trans rfl, (blk_cell BK128.out 3).trans rfl, (blk_cell BK128.out 4).trans rfl⟩ (fun hHeld => ?_); refine with_tabW fact_known_slip.tab3 fact_known_slip.bits3 (fun HT_ HW_ => ?_)
  generalize w27.drew = w28 at BK128 BK129 BK130 HB hHeld ⊢
  refine take_ (i := 0) (N := some 11) (v := ?_) (a' := ?_) #[true, false, false, false, false, false, false, false, false, false] rfl rfl (take_ofW HT_.out HW_.out (by kernel_rfl)) (fun _ _ _ h => h) (Or.inl ⟨by rfl, ?_⟩) hHeld ?_ ?_
  rotate_left
  ·rintro w' ⟨s0, s1, s2, s3, s4, s5, s6, s7, s8⟩
   go_simp
   with_reducible rfl
  rotate_left
  ·simp only [Act.put, List.setIfInBounds_toArray, List.set_cons_zero, List.set_cons_succ, i64_w, i32_w]
   rfl
  refine take_ (i := 1) (N := some 12) (v := ?_) (a' := ?_) #[true, true, false, false, false, false, false, false, false, false] rfl rfl (take_ofW HT_.out HW_.out (by kernel_rfl)) (fun _ _ _ h => h) (Or.inl ⟨by rfl, ?_⟩) hHeld ?_ ?_
  rotate_left
  ·rintro w' ⟨s0, s1, s2, s3, s4, s5, s6, s7, s8⟩
   go_simp
   with_reducible rfl
  rotate_left
  ·simp only [Act.put, List.setIfInBounds_toArray, List.set_cons_zero, List.set_cons_succ, i64_w, i32_w]
   rfl
  refine one_ (i := 2) (N := some 13) #[true, true, true, false, false, false, false, false, false, false] rfl rfl (one_of HT_.out (by kernel_rfl)) (by decide) (fun K hK => ?_)
  refine goes_ Tryz.func167 (by kernel_rfl) rfl #[.agg #[.int .i64 a0_0, .int .i64 a0_1, .int .i64 a0_2, .bool a0_3, .int .i64 a0_4]] (by rfl) rfl rfl (by (try simp only [List.map_toArray, List.map_cons, List.map_nil]); first | done | rfl | (simp only [List.length_drop, List.length_take]; rfl)) ?_
  with_reducible refine (fact_known_open.calls a0_0 a0_1 a0_2 a0_3 a0_4 false _ A2.out).mono ?_
  rintro e w29 ⟨rfl, hb⟩
  refine ⟨_, rfl, ?_⟩
  have n0_ := Aside0.mk (blk_below (g := gb128) (o := .cells #[.int .i64 a0_0, .int .i64 a0_1, .int .i64 a0_2, .bool a0_3, .int .i64 a0_4] 216 (0, 0)) (by (with_reducible repeat (first | refine blk_drewN ?_ _ | refine blk_drew ?_ | refine blk_alloc ?_ _)); exact BK128.out) hb)
  have n1_ := Aside0.mk (blk_below (g := gb129) (o := .cells #[.int .i64 0, .int .i64 0, .int .i64 0, .bool false] 50 (0, 0)) (by (with_reducible repeat (first | refine blk_drewN ?_ _ | refine blk_drew ?_ | refine blk_alloc ?_ _)); exact BK129.out) hb)
  have n2_ := Aside0.mk (blk_below (g := gb130) (o := .cells #[.int .i64 a0_0, .int .i64 a0_1, .int .i64 (wrap64 (a0_2 + 1)), .bool a0_3] 50 (0, 0)) (by (with_reducible repeat (first | refine blk_drewN ?_ _ | refine blk_drew ?_ | refine blk_alloc ?_ _)); exact BK130.out) hb)
  have n3_ := Aside0.mk (below_step (by repeat (first | (with_reducible first | exact HB.out | apply below_alloc | apply pw_below_drewN | apply below_drew1 | refine below_set ?_ GE128.out | refine below_set ?_ GE129.out | refine below_set ?_ GE130.out) | exact HB.out)) hb)
  clear BK128
  clear BK129
  clear BK130
  clear HB
  have BK128 := n0_
  have BK129 := n1_
  have BK130 := n2_
  have HB := n3_
  clear n0_ n1_ n2_ n3_
  (try clear hb)
  (try clear hb2)
  (try clear hk)
  (try clear hi)
  refine hK.out _ _ ⟨(blk_cell BK130.out 0).trans rfl, (blk_cell BK130.out 1).trans rfl, (blk_cell BK130.out 2).trans rfl, (blk_cell BK130.out 3).trans rfl, (blk_cell BK128.out 0).trans rfl, (blk_cell BK128.out 1).trans rfl, (blk_cell BK128.out 2).trans rfl, (blk_cell BK128.out 3).trans rfl, (blk_cell BK128.out 4).trans rfl⟩ (fun hHeld => ?_)
  clear hK K
  refine norm_ (a' := ?_) ?_ ?_
  rotate_left
  ·show Act.put _ (some 13) _ = _
   simp only [Act.put, List.setIfInBounds_toArray, List.set_cons_zero, List.set_cons_succ, i64_w, i32_w]
   rfl
  refine pure_ (i := 3) (N := some 14) (v := ?_) (a' := ?_) #[true, true, true, true, false, false, false, false, false, false] rfl rfl (any_of HT_.out (by kernel_rfl)) (fun _ _ _ h => h) (Or.inl ⟨by rfl, ?_⟩) ?_ ?_
  rotate_left
  ·intro w'
   go_simp
   with_reducible rfl
  rotate_left
  ·simp only [Act.put, List.setIfInBounds_toArray, List.set_cons_zero, List.set_cons_succ, i64_w, i32_w]
   rfl
  refine pure_ (i := 4) (N := some 15) (v := undef) (a' := ?_) #[true, true, true, true, true, false, false, false, false, false] rfl rfl (any_of HT_.out (by kernel_rfl)) (fun _ _ _ h => h) (Or.inr ⟨by rfl, rfl⟩) ?_ ?_
  rotate_left
  ·simp only [Act.put, List.setIfInBounds_toArray, List.set_cons_zero, List.set_cons_succ, i64_w, i32_w]
   rfl
  refine pure_ (i := 5) (N := some 16) (v := undef) (a' := ?_) #[true, true, true, true, true, true, false, false, false, false] rfl rfl (any_of HT_.out (by kernel_rfl)) (fun _ _ _ h => h) (Or.inr ⟨by rfl, rfl⟩) ?_ ?_
  rotate_left
  ·simp only [Act.put, List.setIfInBounds_toArray, List.set_cons_zero, List.set_cons_succ, i64_w, i32_w]
   rfl
  refine pure_ (i := 6) (N := some 17) (v := undef) (a' := ?_) #[true, true, true, true, true, true, true, false, false, false] rfl rfl (any_of HT_.out (by kernel_rfl)) (fun _ _ _ h => h) (Or.inr ⟨by rfl, rfl⟩) ?_ ?_
  rotate_left
  ·simp only [Act.put, List.setIfInBounds_toArray, List.set_cons_zero, List.set_cons_succ, i64_w, i32_w]
   rfl
  refine pure_ (i := 7) (N := some 18) (v := ?_) (a' := ?_) #[true, true, true, true, true, true, true, true, false, false] rfl rfl (any_of HT_.out (by kernel_rfl)) (fun _ _ _ h => h) (Or.inl ⟨by rfl, ?_⟩) ?_ ?_
  rotate_left
  ·intro w'
   go_simp
   with_reducible rfl
  rotate_left
  ·simp only [Act.put, List.setIfInBounds_toArray, List.set_cons_zero, List.set_cons_succ, i64_w, i32_w]
   rfl
  refine one_ (i := 8) (N := none) #[true, true, true, true, true, true, true, true, true, false] rfl rfl (one_of HT_.out (by kernel_rfl)) (by decide) (fun K hK => ?_)
  have hs30 : w29.cell? ⟨gb129, 0, none⟩ = some (.int .i64 0) := (blk_cell BK129.out 0).trans rfl
  have hfs30 := blk_frozen BK129.out 0
  have hns30_0 := NB128_129.out
  have hns30_2 := NB130_129.out
  have hms30_0 := NB129_128.out
  have hms30_2 := NB129_130.out
  have hs31 : w29.cell? ⟨gb129, 1, none⟩ = some (.int .i64 0) := (blk_cell BK129.out 1).trans rfl
  have hfs31 := blk_frozen BK129.out 1
  have hns31_0 := NB128_129.out
  have hns31_2 := NB130_129.out
  have hms31_0 := NB129_128.out
  have hms31_2 := NB129_130.out
  have hs32 : w29.cell? ⟨gb129, 2, none⟩ = some (.int .i64 0) := (blk_cell BK129.out 2).trans rfl
  have hfs32 := blk_frozen BK129.out 2
  have hns32_0 := NB128_129.out
  have hns32_2 := NB130_129.out
  have hms32_0 := NB129_128.out
  have hms32_2 := NB129_130.out
  have hs33 : w29.cell? ⟨gb129, 3, none⟩ = some (.bool false) := (blk_cell BK129.out 3).trans rfl
  have hfs33 := blk_frozen BK129.out 3
  have hns33_0 := NB128_129.out
  have hns33_2 := NB130_129.out
  have hms33_0 := NB129_128.out
  have hms33_2 := NB129_130.out
  refine skip_ (w1 := ?_) (by rfl) rfl ?_ ?_
  rotate_left
  ·go_simp
   rfl
  refine hK.out _ _ ⟨((cell_far (p := ⟨gb129, _, none⟩) NB130_129.out _).trans (((cell_far (p := ⟨gb129, _, none⟩) NB130_129.out _).trans (((cell_far (p := ⟨gb129, _, none⟩) NB130_129.out _).trans (((cell_far (p := ⟨gb129, _, none⟩) NB130_129.out _).trans (hHeld.1)))))))), ((cell_far (p := ⟨gb129, _, none⟩) NB130_129.out _).trans (((cell_far (p := ⟨gb129, _, none⟩) NB130_129.out _).trans (((cell_far (p := ⟨gb129, _, none⟩) NB130_129.out _).trans (((cell_far (p := ⟨gb129, _, none⟩) NB130_129.out _).trans (hHeld.2.1)))))))), ((cell_far (p := ⟨gb129, _, none⟩) NB130_129.out _).trans (((cell_far (p := ⟨gb129, _, none⟩) NB130_129.out _).trans (((cell_far (p := ⟨gb129, _, none⟩) NB130_129.out _).trans (((cell_far (p := ⟨gb129, _, none⟩) NB130_129.out _).trans (hHeld.2.2.1)))))))), ((cell_far (p := ⟨gb129, _, none⟩) NB130_129.out _).trans (((cell_far (p := ⟨gb129, _, none⟩) NB130_129.out _).trans (((cell_far (p := ⟨gb129, _, none⟩) NB130_129.out _).trans (((cell_far (p := ⟨gb129, _, none⟩) NB130_129.out _).trans (hHeld.2.2.2.1)))))))), ((cell_far (p := ⟨gb129, _, none⟩) NB128_129.out _).trans (((cell_far (p := ⟨gb129, _, none⟩) NB128_129.out _).trans (((cell_far (p := ⟨gb129, _, none⟩) NB128_129.out _).trans (((cell_far (p := ⟨gb129, _, none⟩) NB128_129.out _).trans (hHeld.2.2.2.2.1)))))))), ((cell_far (p := ⟨gb129, _, none⟩) NB128_129.out _).trans (((cell_far (p := ⟨gb129, _, none⟩) NB128_129.out _).trans (((cell_far (p := ⟨gb129, _, none⟩) NB128_129.out _).trans (((cell_far (p := ⟨gb129, _, none⟩) NB128_129.out _).trans (hHeld.2.2.2.2.2.1)))))))), ((cell_far (p := ⟨gb129, _, none⟩) NB128_129.out _).trans (((cell_far (p := ⟨gb129, _, none⟩) NB128_129.out _).trans (((cell_far (p := ⟨gb129, _, none⟩) NB128_129.out _).trans (((cell_far (p := ⟨gb129, _, none⟩) NB128_129.out _).trans (hHeld.2.2.2.2.2.2.1)))))))), ((cell_far (p := ⟨gb129, _, none⟩) NB128_129.out _).trans (((cell_far (p := ⟨gb129, _, none⟩) NB128_129.out _).trans (((cell_far (p := ⟨gb129, _, none⟩) NB128_129.out _).trans (((cell_far (p := ⟨gb129, _, none⟩) NB128_129.out _).trans (hHeld.2.2.2.2.2.2.2.1)))))))), ((cell_far (p := ⟨gb129, _, none⟩) NB128_129.out _).trans (((cell_far (p := ⟨gb129, _, none⟩) NB128_129.out _).trans (((cell_far (p := ⟨gb129, _, none⟩) NB128_129.out _).trans (((cell_far (p := ⟨gb129, _, none⟩) NB128_129.out _).trans (hHeld.2.2.2.2.2.2.2.2))))))))⟩ (fun hHeld => ?_)
  clear hK K
  refine pure_ (i := 9) (N := some 3) (v := ?_) (a' := ?_) #[true, true, true, true, true, true, true, true, true, true] rfl rfl (any_of HT_.out (by kernel_rfl)) (fun _ _ _ h => h) (Or.inl ⟨by rfl, ?_⟩) ?_ ?_
  rotate_left
  ·intro w'
   go_simp
   with_reducible rfl
  rotate_left
  ·simp only [Act.put, List.setIfInBounds_toArray, List.set_cons_zero, List.set_cons_succ, i64_w, i32_w]
   rfl
  refine done_ (done_of HT_.out (by kernel_rfl)) ?_
  try go_wp2
  refine bodyPost_ret (results_ct rfl _ _ gb129 50 #[.int .i64 a0_0, .int .i64 a0_1, .int .i64 (wrap64 (a0_2 + 1)), .bool a0_3] (0, 0) _ rfl (by (with_reducible repeat (first | refine blk_drewN ?_ _ | refine blk_drew ?_ | refine blk_alloc ?_ _)); refine blk_put (cs := #[.int .i64 a0_0, .int .i64 a0_1, .int .i64 (wrap64 (a0_2 + 1)), .bool false]) ?_ 3 _ rfl; (with_reducible repeat (first | refine blk_drewN ?_ _ | refine blk_drew ?_ | refine blk_alloc ?_ _)); refine blk_put (cs := #[.int .i64 a0_0, .int .i64 a0_1, .int .i64 0, .bool false]) ?_ 2 _ rfl; (with_reducible repeat (first | refine blk_drewN ?_ _ | refine blk_drew ?_ | refine blk_alloc ?_ _)); refine blk_put (cs := #[.int .i64 a0_0, .int .i64 0, .int .i64 0, .bool false]) ?_ 1 _ rfl; (with_reducible repeat (first | refine blk_drewN ?_ _ | refine blk_drew ?_ | refine blk_alloc ?_ _)); refine blk_put (cs := #[.int .i64 0, .int .i64 0, .int .i64 0, .bool false]) ?_ 0 _ rfl; (with_reducible repeat (first | refine blk_drewN ?_ _ | refine blk_drew ?_ | refine blk_alloc ?_ _)); exact BK129.out) Tryz.underlying50 rfl (by kernel_rfl)) rfl ?_
  exact ⟨by first | rfl | (simp [errW_none, errW_some] <;> rfl) | (simp [*, errW_none, errW_some] <;> rfl), by repeat (first | (with_reducible first | exact HB.out | apply below_alloc | apply pw_below_drewN | apply below_drew1 | refine below_set ?_ GE128.out | refine below_set ?_ GE129.out | refine below_set ?_ GE130.out) | exact HB.out)⟩
end Go.Proofs.YtloijngccppfgaaGreat.F
end

section
namespace Go.Proofs.YtloijngccppfgaaGreat.F
open Go.RowKit Go.Proofs.YtloijngccppfgaaGreatW.PrintWords Go.Proofs.YtloijngccppfgaaGreatW.PrintLast Go.Proofs.YtloijngccppfgaaGreatW.PrintMore
attribute [local go_sem] max2_int min2_int max_two min_two max_three min_three max_four min_four
set_option linter.unusedVariables false
set_option linter.unusedSimpArgs false
def badN (n : Int) : Bool := decide (n < 0) || decide (n > 1099511627776)
def stampB (l : List Int) : Bool := decide (1 ≤ l.length) && (decide (l.length ≤ 64) && !l.any badN)
set_option maxHeartbeats 4000000 in
theorem badN_lit (n : Int) (w : World) : Calls Tryz.prog 139 (#[.int .i64 n] ++ #[]) w fun e w' => e = .returned (.bool (badN n)) ∧ Below w.heap.size w w' := by
 show Calls Tryz.prog 139 #[.int .i64 n] w _
 by_cases h0 : n < 0
 ·have hd : decide (n < 0) = true := decide_eq_true h0
  go_enter Tryz.func139, Tryz.ntmps139
  go_wp2
  go_ret
  exact ⟨by simp [badN, h0], Below.refl _ _⟩
 ·have hd : decide (n < 0) = false := decide_eq_false h0
  go_enter Tryz.func139, Tryz.ntmps139
  go_wp2
  go_ret
  exact ⟨by rw [show badN n = decide (n > 1099511627776) from by unfold badN; rw [hd]; rfl]; rfl, Below.refl _ _⟩
def stamp_Check.f (l0 : List Int) : Option Int := some (if stampB l0 then 0 else 2)
set_option maxHeartbeats 8000000 in
set_option maxRecDepth 100000 in
theorem stamp_Check.calls (A0 : Option Addr) (c0 : Nat) (l0 : List Int) (r : Int) (w : World) (hr0 : Kd.C (Kd.int .i64) w A0 l0.length l0) (hc0 : l0.length ≤ c0) (h : stamp_Check.f l0 = some r) :
  Calls Tryz.prog 117 #[.slice A0 l0.length c0] w fun e w' => e = .returned (.int .i64 r) ∧ Below w.heap.size w w' := by
 unfold stamp_Check.f at h
 have HQ := Aside0.mk (Option.some.inj h)
 have HE := Aside0.mk (enters_of Tryz.func139 (P := Tryz.prog) (f := 139) (by kernel_rfl) rfl)
 have HC := Aside0.mk (contains_func_int 139 #[] HE.out badN A0 c0 l0 w hr0 (fun i hi W _ => badN_lit _ W))
 clear hr0 hc0 h
 by_cases h1 : (l0.length : Int) < 1
 ·have hd1 : decide ((l0.length : Int) < 1) = true := decide_eq_true h1
  have hx : stampB l0 = false := by unfold stampB; rw [decide_eq_false (by omega)]; rfl
  go_enter Tryz.func117, Tryz.ntmps117
  go_wp2
  go_ret
  exact ⟨by rw [← HQ.out, hx]; rfl, Below.refl _ _⟩
 ·have hd1 : decide ((l0.length : Int) < 1) = false := decide_eq_false h1
  by_cases h2 : (l0.length : Int) > 64
  ·have hd2 : decide ((l0.length : Int) > 64) = true := decide_eq_true h2
   have hx : stampB l0 = false := by unfold stampB; rw [decide_eq_false (by omega : ¬ l0.length ≤ 64)]; simp
   go_enter Tryz.func117, Tryz.ntmps117
   go_wp2
   go_ret
   exact ⟨by rw [← HQ.out, hx]; rfl, Below.refl _ _⟩
  ·have hd2 : decide ((l0.length : Int) > 64) = false := decide_eq_false h2
   have hx : stampB l0 = !l0.any badN := by unfold stampB; rw [decide_eq_true (by omega : 1 ≤ l0.length), decide_eq_true (by omega : l0.length ≤ 64)]; rfl
   have HX := Aside0.mk hx
   clear hx
   obtain ⟨v, hv⟩ : ∃ v, l0.any badN = v := ⟨_, rfl⟩
   rw [hv] at HC HX
   clear hv
   cases v
   all_goals
    go_enter Tryz.func117, Tryz.ntmps117
    go_wp2_with (go_at_call 77; refine HC.out.mono ?_; rintro e w2 ⟨rfl, hb⟩; have HB := Aside0.mk hb; clear hb)
    go_ret
    exact ⟨by rw [← HQ.out, HX.out]; rfl, HB.out⟩
end Go.Proofs.YtloijngccppfgaaGreat.F
end

section
namespace Go.Proofs.YtloijngccppfgaaGreat.F
open Go.RowKit Go.Proofs.YtloijngccppfgaaGreatW.PrintWords Go.Proofs.YtloijngccppfgaaGreatW.PrintLast Go.Proofs.YtloijngccppfgaaGreatW.PrintMore
attribute [local go_sem] max2_int min2_int max_two min_two max_three min_three max_four min_four
set_option linter.unusedVariables false
set_option linter.unusedSimpArgs false
def itemOk (it : Int) : Bool := decide (it > 0) && decide (it < 64)
def ofV (k it t : Int) : Value :=
 if k = 1 ∨ k = 2 ∨ k = 3 then (if itemOk it && decide (t = 0) then .iface 210 (.agg #[.int .i64 it]) else .iface 181 (.agg #[]))
 else if k = 4 ∨ k = 5 ∨ k = 6 then (if itemOk it && (decide (t ≥ 0) && decide (t ≤ 3)) then .iface 212 (.agg #[.int .i64 it, .int .i64 t]) else .iface 181 (.agg #[]))
 else .iface 181 (.agg #[])
def eventB (k it t : Int) (s : List Int) : Bool := (if k = 1 ∨ k = 2 ∨ k = 3 then itemOk it && decide (t = 0) else if k = 4 ∨ k = 5 ∨ k = 6 then itemOk it && (decide (t ≥ 0) && decide (t ≤ 3)) else false) && stampB s
set_option maxHeartbeats 8000000 in
set_option maxRecDepth 100000 in
theorem of_event_walk (k it t : Int) (A : Option Addr) (n c : Nat) (w : World) : Calls Tryz.prog 116 #[.agg #[.int .i64 k, .int .i64 it, .int .i64 t, .slice A n c]] w fun e w' => e = .returned (ofV k it t) ∧ Below w.heap.size w w' := by
 have HB0 := Aside0.mk ((Below.refl w.heap.size w).alloc (Nat.le_refl _) (.cells #[.int .i64 k, .int .i64 it, .int .i64 t, .slice A n c] 145 (0, 0)))
 obtain ⟨v, hv⟩ : ∃ v, ofV k it t = v := ⟨_, rfl⟩
 have HV := Aside0.mk hv
 rw [hv]
 clear hv
 have hk : k = 1 ∨ k = 2 ∨ k = 3 ∨ k = 4 ∨ k = 5 ∨ k = 6 ∨ (¬ k = 1 ∧ ¬ k = 2 ∧ ¬ k = 3 ∧ ¬ k = 4 ∧ ¬ k = 5 ∧ ¬ k = 6) := by omega
 have ht : t = 0 ∨ (¬ t = 0 ∧ t ≥ 0 ∧ t ≤ 3) ∨ (¬ t = 0 ∧ t ≥ 0 ∧ ¬ t ≤ 3) ∨ (¬ t = 0 ∧ ¬ t ≥ 0) := by omega
 rcases hk with hk | hk | hk | hk | hk | hk | hk
 case' inr.inr.inr.inr.inr.inr =>
  have HK := Aside0.mk hk
  obtain ⟨k1, k2, k3, k4, k5, k6⟩ := hk
  clear ht
  go_enter Tryz.func116, Tryz.ntmps116
  go_wp2
  all_goals
   go_ret
   refine ⟨?_, HB0.out⟩
   rw [← HV.out]
   have h := HK.out
   simp [ofV, h]
  done
 all_goals
  subst hk
  rcases ht with ht | ht | ht | ht
 all_goals by_cases c1 : it > 0
 all_goals by_cases c2 : it < 64
 all_goals first | (exfalso; omega) | skip
 all_goals
  have HC := Aside0.mk (And.intro c1 (And.intro c2 ht))
  try obtain ⟨t1, ht⟩ := ht
  try obtain ⟨t2, ht⟩ := ht
  try subst t
  go_enter Tryz.func116, Tryz.ntmps116
  go_wp2
 all_goals
  go_ret
  refine ⟨?_, HB0.out⟩
  rw [← HV.out]
  have h := HC.out
  first | (simp [ofV, itemOk, h]; done) | (simp [ofV, itemOk, h]; omega)
end Go.Proofs.YtloijngccppfgaaGreat.F
end

section
namespace Go.Proofs.YtloijngccppfgaaGreat.F
open Go.RowKit Go.Proofs.YtloijngccppfgaaGreatW.PrintWords Go.Proofs.YtloijngccppfgaaGreatW.PrintLast Go.Proofs.YtloijngccppfgaaGreatW.PrintMore
attribute [local go_sem] max2_int min2_int max_two min_two max_three min_three max_four min_four
set_option linter.unusedVariables false
set_option linter.unusedSimpArgs false
def ofB (k it t : Int) : Bool := if k = 1 ∨ k = 2 ∨ k = 3 then itemOk it && decide (t = 0) else if k = 4 ∨ k = 5 ∨ k = 6 then itemOk it && (decide (t ≥ 0) && decide (t ≤ 3)) else false
theorem eventB_of (k it t : Int) (s : List Int) : eventB k it t s = (ofB k it t && stampB s) := rfl
theorem ofV_cases (k it t : Int) : (ofB k it t = false ∧ ofV k it t = .iface 181 (.agg #[])) ∨ (ofB k it t = true ∧ ∃ a, ofV k it t = .iface 210 a) ∨ (ofB k it t = true ∧ ∃ a, ofV k it t = .iface 212 a) := by
 unfold ofB ofV
 split
 ·split
  ·rename_i h; exact .inr (.inl ⟨h, _, rfl⟩)
  ·rename_i h; exact .inl ⟨by simpa using h, rfl⟩
 ·split
  ·split
   ·rename_i h; exact .inr (.inr ⟨h, _, rfl⟩)
   ·rename_i h; exact .inl ⟨by simpa using h, rfl⟩
  ·exact .inl ⟨rfl, rfl⟩
def Stop2_ (p : Prop) : Prop := p
theorem stop2_ {p : Prop} (h : Stop2_ p) : p := h
theorem ta_nobody (w : World) : (Instr.typeAssert (.iface 181 (.agg #[])) 183 181 true).run Tryz.prog w = .ok (.tuple #[.agg #[], .bool true]) w := by kernel_rfl
theorem ta_step (a : Value) (w : World) : (Instr.typeAssert (.iface 210 a) 183 181 true).run Tryz.prog w = .ok (.tuple #[.agg #[], .bool false]) w := by kernel_rfl
theorem ta_undo (a : Value) (w : World) : (Instr.typeAssert (.iface 212 a) 183 181 true).run Tryz.prog w = .ok (.tuple #[.agg #[], .bool false]) w := by kernel_rfl
set_option maxHeartbeats 8000000 in
set_option maxRecDepth 100000 in
theorem event_check_walk (k it t : Int) (A0 : Option Addr) (c0 : Nat) (l0 : List Int) (w : World) (hr0 : Kd.C (Kd.int .i64) w A0 l0.length l0) (hc0 : l0.length ≤ c0) :
  Calls Tryz.prog 85 #[.agg #[.int .i64 k, .int .i64 it, .int .i64 t, .slice A0 l0.length c0]] w fun e w' => e = .returned (.int .i64 (if eventB k it t l0 then 0 else 2)) ∧ Below w.heap.size w w' := by
 have HR0 := Aside0.mk hr0
 have HC0 := Aside0.mk hc0
 clear hr0 hc0
 have HG0 : Aside0 ((w.alloc (.cells #[.int .i64 k, .int .i64 it, .int .i64 t, .slice A0 l0.length c0] 145 (0, 0))).heap[w.heap.size]? = some (.cells #[.int .i64 k, .int .i64 it, .int .i64 t, .slice A0 l0.length c0] 145 (0, 0))) := ⟨blk_new w _⟩
 have HB0 := Aside0.mk ((Below.refl w.heap.size w).alloc (Nat.le_refl _) (.cells #[.int .i64 k, .int .i64 it, .int .i64 t, .slice A0 l0.length c0] 145 (0, 0)))
 obtain ⟨v, hv⟩ : ∃ v, (if eventB k it t l0 then (0 : Int) else 2) = v := ⟨_, rfl⟩
 have HV := Aside0.mk hv
 rw [hv]
 clear hv
 have h1 := ta_nobody
 have h2 := ta_step
 have h3 := ta_undo
 obtain ⟨q, hq⟩ : ∃ q, stampB l0 = q := ⟨_, rfl⟩
 have HQ := Aside0.mk hq
 clear hq
 have HF : Aside0 (stamp_Check.f l0 = some (if q then 0 else 2)) := ⟨by unfold stamp_Check.f; rw [HQ.out]⟩
 rcases ofV_cases k it t with ⟨hB, hx⟩ | ⟨hB, a, hx⟩ | ⟨hB, a, hx⟩
 ·have HX := Aside0.mk hx
  have HO := Aside0.mk hB
  clear hx hB
  go_enter Tryz.func85, Tryz.ntmps85
  go_wp2_with (go_at_call 116; refine stop2_ ?_)
  unfold Stop2_
  refine (of_event_walk k it t A0 l0.length c0 _).mono ?_
  rw [HX.out]
  rintro e w2 ⟨rfl, hb⟩
  have HB1 := Aside0.mk (HB0.out.trans (hb.mono HB0.out.size))
  have HG1 := Aside0.mk (blk_below HG0.out hb)
  have HR1 := Aside0.mk (Kd.C_below HR0.out HB1.out)
  have hlt := Nat.lt_of_lt_of_le (show w.heap.size < (w.alloc (.cells #[.int .i64 k, .int .i64 it, .int .i64 t, .slice A0 l0.length c0] 145 (0, 0))).heap.size by simp) hb.size
  clear hb
  have hne : ¬ w.heap.size = w2.heap.size := by omega
  have c3 : w2.cell? ⟨w.heap.size, 3, none⟩ = some (.slice A0 l0.length c0) := blk_cell HG1.out 3
  go_wp2
  go_ret
  refine ⟨?_, ?_⟩
  ·rw [← HV.out, eventB_of, HO.out]; rfl
  ·exact HB1.out.alloc HB1.out.size _
 ·have HX := Aside0.mk hx
  have HO := Aside0.mk hB
  clear hx hB
  cases q
  all_goals
   go_enter Tryz.func85, Tryz.ntmps85
   go_wp2_with (go_at_call 116; refine stop2_ ?_)
   unfold Stop2_
   refine (of_event_walk k it t A0 l0.length c0 _).mono ?_
   rw [HX.out]
   rintro e w2 ⟨rfl, hb⟩
   have HB1 := Aside0.mk (HB0.out.trans (hb.mono HB0.out.size))
   have HG1 := Aside0.mk (blk_below HG0.out hb)
   have HR1 := Aside0.mk (Kd.C_below HR0.out HB1.out)
   have hlt := Nat.lt_of_lt_of_le (show w.heap.size < (w.alloc (.cells #[.int .i64 k, .int .i64 it, .int .i64 t, .slice A0 l0.length c0] 145 (0, 0))).heap.size by simp) hb.size
   clear hb
   have hne : ¬ w.heap.size = w2.heap.size := by omega
   have c3 : w2.cell? ⟨w.heap.size, 3, none⟩ = some (.slice A0 l0.length c0) := blk_cell HG1.out 3
   go_wp2_with (go_at_call 117; refine (stamp_Check.calls A0 c0 l0 _ _ (Kd.C_below HR1.out (below_alloc (Below.refl _ _) _)) HC0.out HF.out).mono ?_; rintro e w4 ⟨rfl, hb⟩; have HB4 := Aside0.mk ((HB1.out.alloc HB1.out.size _).trans (hb.mono (HB1.out.alloc HB1.out.size _).size)); clear hb)
   go_ret
   refine ⟨?_, HB4.out⟩
   rw [← HV.out, eventB_of, HO.out, HQ.out]
   rfl
 ·have HX := Aside0.mk hx
  have HO := Aside0.mk hB
  clear hx hB
  cases q
  all_goals
   go_enter Tryz.func85, Tryz.ntmps85
   go_wp2_with (go_at_call 116; refine stop2_ ?_)
   unfold Stop2_
   refine (of_event_walk k it t A0 l0.length c0 _).mono ?_
   rw [HX.out]
   rintro e w2 ⟨rfl, hb⟩
   have HB1 := Aside0.mk (HB0.out.trans (hb.mono HB0.out.size))
   have HG1 := Aside0.mk (blk_below HG0.out hb)
   have HR1 := Aside0.mk (Kd.C_below HR0.out HB1.out)
   have hlt := Nat.lt_of_lt_of_le (show w.heap.size < (w.alloc (.cells #[.int .i64 k, .int .i64 it, .int .i64 t, .slice A0 l0.length c0] 145 (0, 0))).heap.size by simp) hb.size
   clear hb
   have hne : ¬ w.heap.size = w2.heap.size := by omega
   have c3 : w2.cell? ⟨w.heap.size, 3, none⟩ = some (.slice A0 l0.length c0) := blk_cell HG1.out 3
   go_wp2_with (go_at_call 117; refine (stamp_Check.calls A0 c0 l0 _ _ (Kd.C_below HR1.out (below_alloc (Below.refl _ _) _)) HC0.out HF.out).mono ?_; rintro e w4 ⟨rfl, hb⟩; have HB4 := Aside0.mk ((HB1.out.alloc HB1.out.size _).trans (hb.mono (HB1.out.alloc HB1.out.size _).size)); clear hb)
   go_ret
   refine ⟨?_, HB4.out⟩
   rw [← HV.out, eventB_of, HO.out, HQ.out]
   rfl
end Go.Proofs.YtloijngccppfgaaGreat.F
end

section
namespace Go.Proofs.YtloijngccppfgaaGreat.F
open Go.RowKit Go.Proofs.YtloijngccppfgaaGreatW.PrintWords Go.Proofs.YtloijngccppfgaaGreatW.PrintLast Go.Proofs.YtloijngccppfgaaGreatW.PrintMore
def schedOk (md : Region.Mode) (ops : Array Oper) (ds : List Nat) (lEnd : Array Bool) : Array Bool → List (Nat × Bool × Option Tmp) → Bool
 | l, [] => l == lEnd
 | l, (i, true, _) :: r => takeB md ops ds l (l.setIfInBounds i true) i && schedOk md ops ds lEnd (l.setIfInBounds i true) r
 | l, (i, false, _) :: r => anyB md ops l (l.setIfInBounds i true) i && schedOk md ops ds lEnd (l.setIfInBounds i true) r
section
variable {P : Program} {md : Region.Mode} {ops : Array Oper} {Q : Exit → Act → World → Prop} {S : World → Prop} {ds : List Nat}
def WS (P : Program) (md : Region.Mode) (ops : Array Oper) (Q : Exit → Act → World → Prop) (S : World → Prop) (ds : List Nat) (fuel : Nat) (lEnd : Array Bool) (sched : List (Nat × Bool × Option Tmp)) (a : Act) (w : World) : Prop :=
 ∀ l, schedOk md ops ds lEnd l sched = true → wpAnyLast P md ops Q S ds (fuel + sched.length) l a w
theorem ws_ {n : Nat} {l : Array Bool} {a : Act} {w : World} (fuel : Nat) (lEnd : Array Bool) (sched : List (Nat × Bool × Option Tmp)) (hc : schedOk md ops ds lEnd l sched = true) (hn : n = fuel + sched.length) (h : WS P md ops Q S ds fuel lEnd sched a w) : wpAnyLast P md ops Q S ds n l a w := by
 subst hn
 exact h l hc
theorem ws_nil {fuel : Nat} {lEnd : Array Bool} {a : Act} {w : World} (h : wpAnyLast P md ops Q S ds fuel lEnd a w) : WS P md ops Q S ds fuel lEnd [] a w := fun l hl => by
 simp only [schedOk, beq_iff_eq] at hl
 subst hl
 exact h
theorem ws_pure {i : Nat} {r : List (Nat × Bool × Option Tmp)} {N : Option Tmp} {oi : Oper} {v : Value} {fuel : Nat} {lEnd : Array Bool} {a : Act} {w : World} (hi : ops[i]? = some oi) (hN : oi.dst = N)
  (hQ : ∀ c a w, Q (.panic c) (a.put oi.dst v) w → Q (.panic c) a w) (hy : Yields P ops oi v a) {a' : Act} (ha : a.put N v = a')
  (h : WS P md ops Q S ds fuel lEnd r a' w) : WS P md ops Q S ds fuel lEnd ((i, false, N) :: r) a w := fun l hl => by
 simp only [schedOk, Bool.and_eq_true] at hl
 exact pure_ (fuel := fuel + r.length) _ hi hN hl.1 hQ hy ha (h _ hl.2)
theorem ws_take {i : Nat} {r : List (Nat × Bool × Option Tmp)} {N : Option Tmp} {oi : Oper} {v : Value} {fuel : Nat} {lEnd : Array Bool} {a : Act} {w : World} (hi : ops[i]? = some oi) (hN : oi.dst = N)
  (hQ : ∀ c a w, Q (.panic c) (a.put oi.dst v) w → Q (.panic c) a w) (hy : YieldsIf P ops S oi v a) (hS : S w) {a' : Act} (ha : a.put N v = a')
  (h : WS P md ops Q S ds fuel lEnd r a' w) : WS P md ops Q S ds fuel lEnd ((i, true, N) :: r) a w := fun l hl => by
 simp only [schedOk, Bool.and_eq_true] at hl
 exact take_ (fuel := fuel + r.length) _ hi hN hl.1 hQ hy hS ha (h _ hl.2)
end
end Go.Proofs.YtloijngccppfgaaGreat.F
end

section
namespace Go.Proofs.YtloijngccppfgaaGreat.F
open Go.RowKit Go.Proofs.YtloijngccppfgaaGreatW.PrintWords Go.Proofs.YtloijngccppfgaaGreatW.PrintLast Go.Proofs.YtloijngccppfgaaGreatW.PrintMore
attribute [local go_sem] max2_int min2_int max_two min_two max_three min_three max_four min_four
set_option linter.unusedVariables false
set_option linter.unusedSimpArgs false
def doesF (k : Int) : Nat := if k = 1 then 153 else if k = 2 then 154 else if k = 3 then 155 else if k = 4 then 156 else if k = 5 then 157 else 158
set_option maxHeartbeats 8000000 in
set_option maxRecDepth 100000 in
theorem does_walk (f : S50) (t k : Int) (w : World) : Calls Tryz.prog 140 #[kV f t, .int .i64 k] w fun e w' => e = .returned (.func (.func (doesF k)) #[kV f t] #[]) ∧ Below w.heap.size w w' := by
 unfold kV
 have HB := Aside0.mk ((Below.refl w.heap.size w).alloc (Nat.le_refl _) (.cells #[.int .i64 f.f0, .int .i64 f.f1, .int .i64 f.f2, .bool f.f3, .int .i64 t] 216 (0, 0)))
 have hk : k = 1 ∨ k = 2 ∨ k = 3 ∨ k = 4 ∨ k = 5 ∨ (¬ k = 1 ∧ ¬ k = 2 ∧ ¬ k = 3 ∧ ¬ k = 4 ∧ ¬ k = 5) := by omega
 obtain ⟨g, hg⟩ : ∃ g, doesF k = g := ⟨_, rfl⟩
 rw [hg]
 have HG := Aside0.mk hg
 clear hg
 rcases hk with hk | hk | hk | hk | hk | ⟨k1, k2, k3, k4, k5⟩
 case' inr.inr.inr.inr.inr =>
  have HK := Aside0.mk (And.intro k1 (And.intro k2 (And.intro k3 (And.intro k4 k5))))
  go_enter Tryz.func140, Tryz.ntmps140
  go_wp2
  all_goals
   go_ret
   have h := HK.out
   refine ⟨?_, HB.out⟩
   rw [← HG.out, doesF, if_neg h.1, if_neg h.2.1, if_neg h.2.2.1, if_neg h.2.2.2.1, if_neg h.2.2.2.2]
   rfl
  done
 all_goals
  subst hk
  go_enter Tryz.func140, Tryz.ntmps140
  go_wp2
  go_ret
  refine ⟨?_, HB.out⟩
  rw [← HG.out]
  rfl
def knownF (f : S50) (t k : Int) : S50 × Bool :=
 if k = 1 then (⟨1, 0, 0, false⟩, f.f0 == 0)
 else if k = 2 then (⟨2, 0, 0, false⟩, f.f0 == 1)
 else if k = 3 then (⟨3, 0, 0, false⟩, f.f0 == 1)
 else if k = 4 then (⟨f.f0, wrap64 (f.f1 + 1), f.f2, f.f3⟩, f.f0 == 2 && !f.f3 && f.f1 == t && f.f2 == t)
 else if k = 5 then (⟨f.f0, f.f1, f.f2, true⟩, f.f1 == wrap64 (f.f2 + 1) && !f.f3 && f.f2 == t)
 else (⟨f.f0, f.f1, wrap64 (f.f2 + 1), f.f3⟩, f.f1 == wrap64 (f.f2 + 1) && !f.f3 && f.f2 == t && decide (t < 3))
theorem open_eq (f : S50) (t : Int) : fact_known_open.f f.f0 f.f1 f.f2 f.f3 t = some (f.f1 == wrap64 (f.f2 + 1) && !f.f3 && f.f2 == t) := by
 unfold fact_known_open.f
 by_cases h1 : f.f1 = wrap64 (f.f2 + 1) <;> cases h2 : f.f3 <;> simp [h1]
theorem known_call (f : S50) (t k : Int) (w : World) : Calls Tryz.prog (doesF k) #[kV f t] w fun e w' => e = .returned (.tuple #[factV (knownF f t k).1, .bool (knownF f t k).2]) ∧ Below w.heap.size w w' := by
 unfold doesF knownF
 split
 ·exact known_start_walk f t w
 split
 ·exact known_ok_walk f t w
 split
 ·exact known_fail_walk f t w
 split
 ·exact known_undo_walk f t w
 split
 ·exact known_undone_walk f t w
 ·refine fact_known_slip.calls _ _ _ _ _ _ _ _ _ _ w ?_
  unfold fact_known_slip.f
  rw [open_eq]
  generalize (f.f1 == wrap64 (f.f2 + 1) && !f.f3 && f.f2 == t) = b
  cases b <;> rfl
theorem known_enters (k : Int) (args : Array Value) (w : World) : (callFunc (doesF k) args).run Tryz.prog w = .ok (.enter (doesF k) args) w := by
 unfold doesF
 split
 ·exact enters_ Tryz.func153 (by kernel_rfl) rfl args w
 split
 ·exact enters_ Tryz.func154 (by kernel_rfl) rfl args w
 split
 ·exact enters_ Tryz.func155 (by kernel_rfl) rfl args w
 split
 ·exact enters_ Tryz.func156 (by kernel_rfl) rfl args w
 split
 ·exact enters_ Tryz.func157 (by kernel_rfl) rfl args w
 ·exact enters_ Tryz.func158 (by kernel_rfl) rfl args w
theorem goesDyn_ {P : Program} {ops : Array Oper} {Q : Exit → Act → World → Prop} {oi : Oper} {N : Option Tmp} {a : Act} {w : World} {K : Act → World → Prop} {f : FuncId} (x : Operand) (ts : Array TypeId) (bound : Array Value) (he : ∀ args w, (callFunc f args).run P w = .ok (.enter f args) w)
  (hw : Region.wanted oi (yielded ops a.tmps) = true) (hN : oi.dst = N) (hop : oi.op = .call { callee := .value x, args := #[], argTypes := ts }) (hx : a.eval x = .func (.func f) bound #[])
  (h : Calls P f bound w fun e w' => ∃ v, e = .returned v ∧ K (a.put N v) w') : if Region.wanted oi (yielded ops a.tmps) = true then Oper.wp P oi a w K Q else K (a.put N undef) w := by
 refine call_ f bound hw hN ?_ h
 have h2 := he bound w
 unfold execOp
 simp [hop, resolve, Deferred.ofValue, invoke, hx, h2]
def applyB (p : List S39) (l : List S50) (k it t : Int) (s : List Int) : Int × List S50 :=
 if eventB k it t s then (if (l.length : Int) ≤ it then (14, l) else if (rd_T39 p it).f2 then (14, l) else if (knownF (rd_T50 l it) t k).2 then (0, l.set it.toNat (knownF (rd_T50 l it) t k).1) else (14, l)) else (2, l)
theorem eventB_item {k it t : Int} {s : List Int} (h : eventB k it t s = true) : 0 < it ∧ it < 64 := by
 unfold eventB itemOk at h
 split at h
 ·simp at h; omega
 ·split at h
  ·simp at h; omega
  ·simp at h
def ApplyP (p : List S39) (Al : Option Addr) (cl : Nat) (l : List S50) (k it t : Int) (s : List Int) (base : Nat) (ok : Nat → Prop) (w : World) (e : Ending) (w' : World) : Prop :=
 e = .returned (.int .i64 (applyB p l k it t s).1) ∧ Kd.R k50 50 w' base ok (.slice Al l.length cl) (applyB p l k it t s).2 ∧ Below base w w'
def FactP (w w' : World) (s : Nat) : Prop := Below w.heap.size w w' ∧ w.heap.size ≤ s ∧ w'.heap[s]? = some (.cells #[.int .i64 0, .int .i64 0, .int .i64 0, .bool false] 50 (0, 0))
theorem factP_a {w2 w3 w4 : World} (h3 : Below w2.drew.heap.size w2.drew w3) (h4 : Below w3.heap.size w3 w4) : FactP w2 (w4.alloc (.cells #[.int .i64 0, .int .i64 0, .int .i64 0, .bool false] 50 (0, 0))) w4.heap.size := by
 have h5 : Below w2.heap.size w2 w3 := (below_drew (Below.refl _ _)).trans h3
 have h6 := h5.trans (h4.mono h5.size)
 exact ⟨below_alloc h6 _, h6.size, blk_new _ _⟩
theorem factP_b {w2 w3 w4 : World} (h3 : Below w2.drew.heap.size w2.drew w3) (h4 : Below (w3.alloc (.cells #[.int .i64 0, .int .i64 0, .int .i64 0, .bool false] 50 (0, 0))).heap.size (w3.alloc (.cells #[.int .i64 0, .int .i64 0, .int .i64 0, .bool false] 50 (0, 0))) w4) : FactP w2 w4 w3.heap.size := by
 have h5 : Below w2.heap.size w2 w3 := (below_drew (Below.refl _ _)).trans h3
 have h6 := below_alloc h5 (.cells #[.int .i64 0, .int .i64 0, .int .i64 0, .bool false] 50 (0, 0))
 exact ⟨h6.trans (h4.mono h6.size), h5.size, blk_below (blk_new _ _) h4⟩
theorem factP_c {w2 w3 w4 : World} (h3 : Below (w2.drew.alloc (.cells #[.int .i64 0, .int .i64 0, .int .i64 0, .bool false] 50 (0, 0))).heap.size (w2.drew.alloc (.cells #[.int .i64 0, .int .i64 0, .int .i64 0, .bool false] 50 (0, 0))) w3) (h4 : Below w3.heap.size w3 w4) : FactP w2 w4 w2.heap.size := by
 have h5 : Below w2.heap.size w2 (w2.drew.alloc (.cells #[.int .i64 0, .int .i64 0, .int .i64 0, .bool false] 50 (0, 0))) := below_alloc (below_drew (Below.refl _ _)) _
 have h6 := h5.trans (h3.mono h5.size)
 exact ⟨h6.trans (h4.mono h6.size), Nat.le_refl _, blk_below (blk_below (blk_new w2.drew _) h3) h4⟩
set_option maxHeartbeats 8000000 in
set_option maxRecDepth 100000 in
theorem apply_walk (p : List S39) (Ap : Option Addr) (cp : Nat) (l : List S50) (Al : Option Addr) (cl : Nat) (k it t : Int) (s : List Int) (As : Option Addr) (cs : Nat) (base : Nat) (ok : Nat → Prop) (w : World)
  (hp : Kd.C k39 w Ap p.length p) (hl : Kd.R k50 50 w base ok (.slice Al l.length cl) l) (hpl : l.length = p.length) (hs : Kd.C (Kd.int .i64) w As s.length s) (hcs : s.length ≤ cs) (hbase : base ≤ w.heap.size) :
  Calls Tryz.prog 119 #[.agg #[.slice Ap p.length cp], .slice Al l.length cl, .agg #[.int .i64 k, .int .i64 it, .int .i64 t, .slice As s.length cs]] w (ApplyP p Al cl l k it t s base ok w) := by
 have HP := Aside0.mk hp
 have HL := Aside0.mk hl
 have HPL := Aside0.mk hpl
 have HS := Aside0.mk hs
 have HCS := Aside0.mk hcs
 have HBS := Aside0.mk hbase
 have HGA := Aside0.mk (blk_alloc (blk_new w (.cells #[.slice Ap p.length cp] 24 (0, 0))) (.cells #[.int .i64 k, .int .i64 it, .int .i64 t, .slice As s.length cs] 145 (0, 0)))
 have hgb := blk_new (w.alloc (.cells #[.slice Ap p.length cp] 24 (0, 0))) (.cells #[.int .i64 k, .int .i64 it, .int .i64 t, .slice As s.length cs] 145 (0, 0))
 rw [show (w.alloc (.cells #[.slice Ap p.length cp] 24 (0, 0))).heap.size = w.heap.size + 1 from by simp] at hgb
 have HGB := Aside0.mk hgb
 clear hgb
 have HB0 : Aside0 (Below w.heap.size w ((w.alloc (.cells #[.slice Ap p.length cp] 24 (0, 0))).alloc (.cells #[.int .i64 k, .int .i64 it, .int .i64 t, .slice As s.length cs] 145 (0, 0)))) := ⟨below_alloc (below_alloc (Below.refl _ _) _) _⟩
 have HCW := Aside0.mk (event_check_walk k it t As cs s _ (Kd.C_below HS.out HB0.out) HCS.out)
 clear hp hl hpl hs hcs hbase
 obtain ⟨v, hv⟩ : ∃ v, eventB k it t s = v := ⟨_, rfl⟩
 have HV := Aside0.mk hv
 rw [hv] at HCW
 clear hv
 cases v with
 | false =>
  go_enter Tryz.func119, Tryz.ntmps119
  go_wp2_with (go_at_call 85; refine HCW.out.mono ?_; rintro e w2 ⟨rfl, hb⟩; have HB2 := Aside0.mk (HB0.out.trans (hb.mono HB0.out.size)); clear hb)
  go_ret
  have hx : applyB p l k it t s = (2, l) := by unfold applyB; rw [HV.out]; rfl
  unfold ApplyP
  rw [hx]
  exact ⟨rfl, Kd.R_below HL.out HB2.out, HB2.out.mono HBS.out⟩
 | true =>
  have HIT := Aside0.mk (eventB_item HV.out)
  have HSZ : Aside0 (w.heap.size + 1 < ((w.alloc (.cells #[.slice Ap p.length cp] 24 (0, 0))).alloc (.cells #[.int .i64 k, .int .i64 it, .int .i64 t, .slice As s.length cs] 145 (0, 0))).heap.size) := ⟨by simp⟩
  by_cases c1 : (l.length : Int) ≤ it
  ·go_enter Tryz.func119, Tryz.ntmps119
   go_wp2_with (go_at_call 85; refine stop2_ ?_)
   unfold Stop2_
   refine HCW.out.mono ?_
   rintro e w2 ⟨he, hb⟩
   replace he : e = .returned (.int .i64 0) := he
   subst he
   have HB2 := Aside0.mk (HB0.out.trans (hb.mono HB0.out.size))
   have HG2 := Aside0.mk (blk_below HGB.out hb)
   clear hb
   have x1 : w2.cell? ⟨w.heap.size + 1, 1, none⟩ = some (.int .i64 it) := (blk_cell HG2.out 1).trans rfl
   go_wp2
   go_ret
   have hx : applyB p l k it t s = (14, l) := by unfold applyB; rw [HV.out, if_pos rfl, if_pos c1]
   unfold ApplyP
   rw [hx]
   exact ⟨rfl, Kd.R_below HL.out HB2.out, HB2.out.mono HBS.out⟩
  ·have hit := HIT.out
   have hpl := HPL.out
   have h0 : 0 ≤ it := by omega
   have h1 : it < (p.length : Int) := by omega
   have h2 : it < (l.length : Int) := by omega
   obtain ⟨x, hx⟩ : ∃ x, rd_T39 p it = x := ⟨_, rfl⟩
   have HX := Aside0.mk hx
   clear hx hit hpl
   cases x3 : x.f2
   ·obtain ⟨g, cap, e1, hg1, hg2, _, hg3⟩ := Kd.R_form HL.out (by omega)
    obtain ⟨rfl, rfl⟩ : Al = some ⟨g, 0, none⟩ ∧ cl = cap := by injection e1 with a1 a2 a3; exact ⟨a1, a3⟩
    have HGL := Aside0.mk (And.intro hg1 hg2)
    obtain ⟨f, hf⟩ : ∃ f, rd_T50 l it = f := ⟨_, rfl⟩
    have HF := Aside0.mk hf
    obtain ⟨⟨qf, b⟩, hq⟩ : ∃ q, knownF f t k = q := ⟨_, rfl⟩
    have HQ := Aside0.mk hq
    have HKC : Aside0 (∀ w, Calls Tryz.prog (doesF k) #[kV f t] w fun e w' => e = .returned (.tuple #[factV qf, .bool b]) ∧ Below w.heap.size w w') := ⟨fun w => by have h := known_call f t k w; rw [hq] at h; exact h⟩
    clear hg1 hg2 hg3 hf hq e1
    go_enter Tryz.func119, Tryz.ntmps119
    go_wp2_with (go_at_call 85; refine stop2_ ?_)
    unfold Stop2_
    refine HCW.out.mono ?_
    rintro e w2 ⟨he, hb⟩
    replace he : e = .returned (.int .i64 0) := he
    subst he
    have HB2 := Aside0.mk (HB0.out.trans (hb.mono HB0.out.size))
    have HG2 := Aside0.mk (blk_below HGB.out hb)
    have HGA2 := Aside0.mk (blk_below HGA.out hb)
    clear hb
    have x1 : w2.cell? ⟨w.heap.size + 1, 1, none⟩ = some (.int .i64 it) := (blk_cell HG2.out 1).trans rfl
    have x0 : w2.cell? ⟨w.heap.size, 0, none⟩ = some (.slice Ap p.length cp) := (blk_cell HGA2.out 0).trans rfl
    obtain ⟨ad, A7, c7, e0, z0, z1, z2, _⟩ := at_T39 (Kd.C_below HP.out HB2.out) it h0 h1
    subst e0
    rw [HX.out, x3] at z2
    clear z0 z1
    go_wp2
    have HL2 := Aside0.mk (Kd.R_below HL.out HB2.out)
    obtain ⟨c, hcl, hM, hcc, hfz⟩ := Kd.R_elem HL2.out z50 it h0 h2
    have hc := k50_openM hM
    rw [show l.getD it.toNat z50 = f from HF.out] at hc
    subst hc
    have k0 : w2.drew.cell? ⟨w.heap.size + 1, 0, none⟩ = some (.int .i64 k) := (blk_cell HG2.out 0).trans rfl
    have k1 : w2.drew.cell? ⟨w.heap.size + 1, 1, none⟩ = some (.int .i64 it) := (blk_cell HG2.out 1).trans rfl
    have k2 : w2.drew.cell? ⟨w.heap.size + 1, 2, none⟩ = some (.int .i64 t) := (blk_cell HG2.out 2).trans rfl
    have k3 : w2.drew.cell? ⟨g, it.toNat * 4, none⟩ = some (.int .i64 f.f0) := hcc 0 _ rfl
    have k4 : w2.drew.cell? ⟨g, it.toNat * 4 + 1, none⟩ = some (.int .i64 f.f1) := hcc 1 _ rfl
    have k5 : w2.drew.cell? ⟨g, it.toNat * 4 + 2, none⟩ = some (.int .i64 f.f2) := hcc 2 _ rfl
    have k6 : w2.drew.cell? ⟨g, it.toNat * 4 + 3, none⟩ = some (.bool f.f3) := hcc 3 _ rfl
    clear hcl hM hcc hfz x0 x1 z2
    --MARK5
    refine start_ (n := 18) (S := fun w' => w'.cell? ⟨w.heap.size + 1, 0, none⟩ = some (.int .i64 k) ∧ w'.cell? ⟨w.heap.size + 1, 1, none⟩ = some (.int .i64 it) ∧ w'.cell? ⟨w.heap.size + 1, 2, none⟩ = some (.int .i64 t) ∧ w'.cell? ⟨g, it.toNat * 4, none⟩ = some (.int .i64 f.f0) ∧ w'.cell? ⟨g, it.toNat * 4 + 1, none⟩ = some (.int .i64 f.f1) ∧ w'.cell? ⟨g, it.toNat * 4 + 2, none⟩ = some (.int .i64 f.f2) ∧ w'.cell? ⟨g, it.toNat * 4 + 3, none⟩ = some (.bool f.f3)) (ds := [16]) #[false, false, false, false, false, false, false, false, false, false, false, false, false, false, false, false, false, false] (by kernel_rfl) rfl rfl ⟨k0, k1, k2, k3, k4, k5, k6⟩ (fun hHeld => ?_)
    refine ws_ 8 #[true, true, true, true, true, true, true, true, true, true, false, false, false, false, false, false, false, false] [(0, false, some 29), (1, false, some 30), (5, false, some 34), (8, false, some 37), (2, true, some 31), (3, false, some 32), (4, true, some 33), (6, true, some 35), (7, false, some 36), (9, true, some 38)] (by kernel_rfl) rfl ?_
    repeat (first | (refine ws_pure (v := ?_) (a' := ?_) rfl rfl (fun _ _ _ h => h) (Or.inl ⟨by rfl, ?_⟩) ?_ ?_; rotate_left; (focus intro w'; go_simp; with_reducible rfl); rotate_left; (focus simp only [Act.put, List.setIfInBounds_toArray, List.set_cons_zero, List.set_cons_succ, i64_w, i32_w]; rfl)) | (refine ws_take (v := ?_) (a' := ?_) rfl rfl (fun _ _ _ h => h) (Or.inl ⟨by rfl, ?_⟩) hHeld ?_ ?_; rotate_left; (focus rintro w' ⟨s0, s1, s2, s3, s4, s5, s6⟩; go_simp; with_reducible rfl); rotate_left; (focus simp only [Act.put, List.setIfInBounds_toArray, List.set_cons_zero, List.set_cons_succ, i64_w, i32_w]; rfl)))
    refine ws_nil ?_
    refine join_ (σ := Nat) 2 #[true, true, true, true, true, true, true, true, true, true, true, true, true, true, true, true, false, false] (fun s => [(39, .func (.func (doesF k)) #[kV f t] #[]), (40, .tuple #[factV qf, .bool b]), (7, .pointer (some ⟨s, 0, none⟩)), (28, .tuple #[factV qf, .bool b]), (41, factV qf), (42, .bool b)]) (fun s w' => FactP w2 w' s) ?_ ?_
    rotate_left
    ·intro hCont
     refine two_ (i := 10) (j := 15) (Ni := some 39) (Nj := some 7) #[true, true, true, true, true, true, true, true, true, true, true, false, false, false, false, false, false, false] #[true, true, true, true, true, true, true, true, true, true, false, false, false, false, false, true, false, false] rfl rfl rfl rfl (by kernel_rfl) (by decide) (by decide) (fun K hK => ?_) (fun K hK => ?_)
     ·skip
      refine goes_ Tryz.func140 (by kernel_rfl) rfl #[kV f t, .int .i64 k] (by rfl) rfl rfl (by first | rfl | (simp only [List.map_toArray, List.map_cons, List.map_nil]; rfl)) ?_
      refine (does_walk f t k _).mono ?_
      rintro e w3 ⟨rfl, hb⟩
      refine ⟨_, rfl, ?_⟩
      have HB3 := Aside0.mk hb
      clear hb
      refine hK.out _ _ ⟨(cell_bel HB3.out hHeld.1), (cell_bel HB3.out hHeld.2.1), (cell_bel HB3.out hHeld.2.2.1), (cell_bel HB3.out hHeld.2.2.2.1), (cell_bel HB3.out hHeld.2.2.2.2.1), (cell_bel HB3.out hHeld.2.2.2.2.2.1), (cell_bel HB3.out hHeld.2.2.2.2.2.2)⟩ (fun hHeld => ?_)
      clear hK K
      refine norm_ (a' := ?_) ?_ ?_
      rotate_left
      ·show Act.put _ (some 39) _ = _
       simp only [Act.put, List.setIfInBounds_toArray, List.set_cons_zero, List.set_cons_succ, i64_w, i32_w]
       rfl
      refine two_ (i := 11) (j := 15) (Ni := some 40) (Nj := some 7) #[true, true, true, true, true, true, true, true, true, true, true, true, false, false, false, false, false, false] #[true, true, true, true, true, true, true, true, true, true, true, false, false, false, false, true, false, false] rfl rfl rfl rfl (by kernel_rfl) (by decide) (by decide) (fun K hK => ?_) (fun K hK => ?_)
      ·skip
       refine goesDyn_ (f := doesF k) (.tmp 39) #[] #[kV f t] (fun args w => known_enters k args w) (by rfl) rfl rfl rfl ?_
       refine (HKC.out _).mono ?_
       rintro e w4 ⟨rfl, hb⟩
       refine ⟨_, rfl, ?_⟩
       have HB4 := Aside0.mk hb
       clear hb
       refine hK.out _ _ ⟨(cell_bel HB4.out hHeld.1), (cell_bel HB4.out hHeld.2.1), (cell_bel HB4.out hHeld.2.2.1), (cell_bel HB4.out hHeld.2.2.2.1), (cell_bel HB4.out hHeld.2.2.2.2.1), (cell_bel HB4.out hHeld.2.2.2.2.2.1), (cell_bel HB4.out hHeld.2.2.2.2.2.2)⟩ (fun hHeld => ?_)
       clear hK K
       refine norm_ (a' := ?_) ?_ ?_
       rotate_left
       ·show Act.put _ (some 40) _ = _
        simp only [Act.put, List.setIfInBounds_toArray, List.set_cons_zero, List.set_cons_succ, i64_w, i32_w]
        rfl
       refine ws_ 3 #[true, true, true, true, true, true, true, true, true, true, true, true, true, true, true, false, false, false] [(12, false, some 28), (13, false, some 41), (14, false, some 42)] (by kernel_rfl) rfl ?_
       repeat (first | (refine ws_pure (v := ?_) (a' := ?_) rfl rfl (fun _ _ _ h => h) (Or.inl ⟨by rfl, ?_⟩) ?_ ?_; rotate_left; (focus intro w'; go_simp; with_reducible rfl); rotate_left; (focus simp only [Act.put, List.setIfInBounds_toArray, List.set_cons_zero, List.set_cons_succ, i64_w, i32_w]; rfl)))
       refine ws_nil ?_
       refine one_ (i := 15) (N := some 7) #[true, true, true, true, true, true, true, true, true, true, true, true, true, true, true, true, false, false] rfl rfl (by kernel_rfl) (by decide) (fun K hK => ?_)
       refine value_ (w1 := ?_) (v := ?_) (by rfl) rfl ?_ ?_
       rotate_left 2
       ·go_simp
        constructor
        ·rfl
        ·rfl
       refine hK.out _ _ ⟨(cell_al hHeld.1), (cell_al hHeld.2.1), (cell_al hHeld.2.2.1), (cell_al hHeld.2.2.2.1), (cell_al hHeld.2.2.2.2.1), (cell_al hHeld.2.2.2.2.2.1), (cell_al hHeld.2.2.2.2.2.2)⟩ (fun hHeld => ?_)
       clear hK K
       refine norm_ (a' := ?_) ?_ ?_
       rotate_left
       ·show Act.put _ (some 7) _ = _
        simp only [Act.put, List.setIfInBounds_toArray, List.set_cons_zero, List.set_cons_succ, i64_w, i32_w]
        rfl
       exact norm_ (by simp only [putAll, Act.put, List.setIfInBounds_toArray, List.set_cons_zero, List.set_cons_succ]) (hCont (w4.heap.size) _ (factP_a HB3.out HB4.out))
      ·skip
       refine value_ (w1 := ?_) (v := ?_) (by rfl) rfl ?_ ?_
       rotate_left 2
       ·go_simp
        constructor
        ·rfl
        ·rfl
       refine hK.out _ _ ⟨(cell_al hHeld.1), (cell_al hHeld.2.1), (cell_al hHeld.2.2.1), (cell_al hHeld.2.2.2.1), (cell_al hHeld.2.2.2.2.1), (cell_al hHeld.2.2.2.2.2.1), (cell_al hHeld.2.2.2.2.2.2)⟩ (fun hHeld => ?_)
       clear hK K
       refine norm_ (a' := ?_) ?_ ?_
       rotate_left
       ·show Act.put _ (some 7) _ = _
        simp only [Act.put, List.setIfInBounds_toArray, List.set_cons_zero, List.set_cons_succ, i64_w, i32_w]
        rfl
       refine one_ (i := 11) (N := some 40) #[true, true, true, true, true, true, true, true, true, true, true, true, false, false, false, true, false, false] rfl rfl (by kernel_rfl) (by decide) (fun K hK => ?_)
       refine goesDyn_ (f := doesF k) (.tmp 39) #[] #[kV f t] (fun args w => known_enters k args w) (by rfl) rfl rfl rfl ?_
       refine (HKC.out _).mono ?_
       rintro e w4 ⟨rfl, hb⟩
       refine ⟨_, rfl, ?_⟩
       have HB4 := Aside0.mk hb
       clear hb
       refine hK.out _ _ ⟨(cell_bel HB4.out hHeld.1), (cell_bel HB4.out hHeld.2.1), (cell_bel HB4.out hHeld.2.2.1), (cell_bel HB4.out hHeld.2.2.2.1), (cell_bel HB4.out hHeld.2.2.2.2.1), (cell_bel HB4.out hHeld.2.2.2.2.2.1), (cell_bel HB4.out hHeld.2.2.2.2.2.2)⟩ (fun hHeld => ?_)
       clear hK K
       refine norm_ (a' := ?_) ?_ ?_
       rotate_left
       ·show Act.put _ (some 40) _ = _
        simp only [Act.put, List.setIfInBounds_toArray, List.set_cons_zero, List.set_cons_succ, i64_w, i32_w]
        rfl
       refine ws_ 2 #[true, true, true, true, true, true, true, true, true, true, true, true, true, true, true, true, false, false] [(12, false, some 28), (13, false, some 41), (14, false, some 42)] (by kernel_rfl) rfl ?_
       repeat (first | (refine ws_pure (v := ?_) (a' := ?_) rfl rfl (fun _ _ _ h => h) (Or.inl ⟨by rfl, ?_⟩) ?_ ?_; rotate_left; (focus intro w'; go_simp; with_reducible rfl); rotate_left; (focus simp only [Act.put, List.setIfInBounds_toArray, List.set_cons_zero, List.set_cons_succ, i64_w, i32_w]; rfl)))
       refine ws_nil ?_
       exact norm_ (by simp only [putAll, Act.put, List.setIfInBounds_toArray, List.set_cons_zero, List.set_cons_succ]) (hCont (w3.heap.size) _ (factP_b HB3.out HB4.out))
     ·skip
      refine value_ (w1 := ?_) (v := ?_) (by rfl) rfl ?_ ?_
      rotate_left 2
      ·go_simp
       constructor
       ·rfl
       ·rfl
      refine hK.out _ _ ⟨(cell_al hHeld.1), (cell_al hHeld.2.1), (cell_al hHeld.2.2.1), (cell_al hHeld.2.2.2.1), (cell_al hHeld.2.2.2.2.1), (cell_al hHeld.2.2.2.2.2.1), (cell_al hHeld.2.2.2.2.2.2)⟩ (fun hHeld => ?_)
      clear hK K
      refine norm_ (a' := ?_) ?_ ?_
      rotate_left
      ·show Act.put _ (some 7) _ = _
       simp only [Act.put, List.setIfInBounds_toArray, List.set_cons_zero, List.set_cons_succ, i64_w, i32_w]
       rfl
      refine one_ (i := 10) (N := some 39) #[true, true, true, true, true, true, true, true, true, true, true, false, false, false, false, true, false, false] rfl rfl (by kernel_rfl) (by decide) (fun K hK => ?_)
      refine goes_ Tryz.func140 (by kernel_rfl) rfl #[kV f t, .int .i64 k] (by rfl) rfl rfl (by first | rfl | (simp only [List.map_toArray, List.map_cons, List.map_nil]; rfl)) ?_
      refine (does_walk f t k _).mono ?_
      rintro e w3 ⟨rfl, hb⟩
      refine ⟨_, rfl, ?_⟩
      have HB3 := Aside0.mk hb
      clear hb
      refine hK.out _ _ ⟨(cell_bel HB3.out hHeld.1), (cell_bel HB3.out hHeld.2.1), (cell_bel HB3.out hHeld.2.2.1), (cell_bel HB3.out hHeld.2.2.2.1), (cell_bel HB3.out hHeld.2.2.2.2.1), (cell_bel HB3.out hHeld.2.2.2.2.2.1), (cell_bel HB3.out hHeld.2.2.2.2.2.2)⟩ (fun hHeld => ?_)
      clear hK K
      refine norm_ (a' := ?_) ?_ ?_
      rotate_left
      ·show Act.put _ (some 39) _ = _
       simp only [Act.put, List.setIfInBounds_toArray, List.set_cons_zero, List.set_cons_succ, i64_w, i32_w]
       rfl
      refine one_ (i := 11) (N := some 40) #[true, true, true, true, true, true, true, true, true, true, true, true, false, false, false, true, false, false] rfl rfl (by kernel_rfl) (by decide) (fun K hK => ?_)
      refine goesDyn_ (f := doesF k) (.tmp 39) #[] #[kV f t] (fun args w => known_enters k args w) (by rfl) rfl rfl rfl ?_
      refine (HKC.out _).mono ?_
      rintro e w4 ⟨rfl, hb⟩
      refine ⟨_, rfl, ?_⟩
      have HB4 := Aside0.mk hb
      clear hb
      refine hK.out _ _ ⟨(cell_bel HB4.out hHeld.1), (cell_bel HB4.out hHeld.2.1), (cell_bel HB4.out hHeld.2.2.1), (cell_bel HB4.out hHeld.2.2.2.1), (cell_bel HB4.out hHeld.2.2.2.2.1), (cell_bel HB4.out hHeld.2.2.2.2.2.1), (cell_bel HB4.out hHeld.2.2.2.2.2.2)⟩ (fun hHeld => ?_)
      clear hK K
      refine norm_ (a' := ?_) ?_ ?_
      rotate_left
      ·show Act.put _ (some 40) _ = _
       simp only [Act.put, List.setIfInBounds_toArray, List.set_cons_zero, List.set_cons_succ, i64_w, i32_w]
       rfl
      refine ws_ 2 #[true, true, true, true, true, true, true, true, true, true, true, true, true, true, true, true, false, false] [(12, false, some 28), (13, false, some 41), (14, false, some 42)] (by kernel_rfl) rfl ?_
      repeat (first | (refine ws_pure (v := ?_) (a' := ?_) rfl rfl (fun _ _ _ h => h) (Or.inl ⟨by rfl, ?_⟩) ?_ ?_; rotate_left; (focus intro w'; go_simp; with_reducible rfl); rotate_left; (focus simp only [Act.put, List.setIfInBounds_toArray, List.set_cons_zero, List.set_cons_succ, i64_w, i32_w]; rfl)))
      refine ws_nil ?_
      exact norm_ (by simp only [putAll, Act.put, List.setIfInBounds_toArray, List.set_cons_zero, List.set_cons_succ]) (hCont (w2.heap.size) _ (factP_c HB3.out HB4.out))
    rintro g7 W6 HF6
    have HKP : Aside0 (FactP w2 W6 g7) := ⟨HF6⟩
    have q0 := (blk_cell HKP.out.2.2 0).trans rfl
    have q1 := (blk_cell HKP.out.2.2 1).trans rfl
    have q2 := (blk_cell HKP.out.2.2 2).trans rfl
    have q3 := (blk_cell HKP.out.2.2 3).trans rfl
    have y0 := blk_frozen HKP.out.2.2 0
    have y1 := blk_frozen HKP.out.2.2 1
    have y2 := blk_frozen HKP.out.2.2 2
    have y3 := blk_frozen HKP.out.2.2 3
    clear HF6
    refine norm_ (a' := ?_) ?_ ?_
    rotate_left
    ·simp only [putAll, Act.put, List.setIfInBounds_toArray, List.set_cons_zero, List.set_cons_succ]
     rfl
    refine last_ (i := 16) (N := none) #[true, true, true, true, true, true, true, true, true, true, true, true, true, true, true, true, true, false] rfl rfl (by kernel_rfl) (by decide) (fun K hK => ?_)
    refine skip_ (w1 := ?_) (by rfl) rfl ?_ ?_
    rotate_left
    ·go_simp
     rfl
    refine hK.out _ _ ?_
    clear hK K
    refine pure_ (i := 17) (N := some 8) (v := ?_) (a' := ?_) #[true, true, true, true, true, true, true, true, true, true, true, true, true, true, true, true, true, true] rfl rfl (by kernel_rfl) (fun _ _ _ h => h) (Or.inl ⟨by rfl, ?_⟩) ?_ ?_
    rotate_left
    ·intro w'
     go_simp
     with_reducible rfl
    rotate_left
    ·simp only [Act.put, List.setIfInBounds_toArray, List.set_cons_zero, List.set_cons_succ, i64_w, i32_w]
     rfl
    refine done_ (by kernel_rfl) ?_
    --END5
    have HG7 := Aside0.mk (blk_put (blk_put (blk_put (blk_put HKP.out.2.2 0 (.int .i64 qf.f0) rfl) 1 (.int .i64 qf.f1) rfl) 2 (.int .i64 qf.f2) rfl) 3 (.bool qf.f3) rfl)
    have HL6 := Aside0.mk (Kd.R_below (Kd.R_mono (ok' := fun b => ok b ∧ b < w2.heap.size) (Kd.R_bound HL2.out) (fun b hb => ⟨hb.1, hb.2.2.1⟩)) HKP.out.1)
    have HFar : Aside0 (∀ b, ok b ∧ b < w2.heap.size → b ≠ g7) := ⟨fun b hb => by have := HKP.out.2.1; omega⟩
    have HL7 := Aside0.mk (Kd.R_far (p := ⟨g7, 3, none⟩) (Kd.R_far (p := ⟨g7, 2, none⟩) (Kd.R_far (p := ⟨g7, 1, none⟩) (Kd.R_far (p := ⟨g7, 0, none⟩) HL6.out HFar.out (.int .i64 qf.f0)) HFar.out (.int .i64 qf.f1)) HFar.out (.int .i64 qf.f2)) HFar.out (.bool qf.f3))
    have HB6 := Aside0.mk ((HB2.out.mono HBS.out).trans (HKP.out.1.mono (Nat.le_trans HBS.out HB2.out.size)))
    have hb7 : base ≤ g7 := Nat.le_trans (Nat.le_trans HBS.out HB2.out.size) HKP.out.2.1
    have HB7 := Aside0.mk ((((HB6.out.setCell (p := ⟨g7, 0, none⟩) hb7 (.int .i64 qf.f0)).setCell (p := ⟨g7, 1, none⟩) hb7 (.int .i64 qf.f1)).setCell (p := ⟨g7, 2, none⟩) hb7 (.int .i64 qf.f2)).setCell (p := ⟨g7, 3, none⟩) hb7 (.bool qf.f3))
    have hn7 : w.heap.size + 1 ≠ g7 := by have h1 := blk_lt HG2.out; have h2 := HKP.out.2.1; omega
    have HE7 := Aside0.mk (blk_far (p := ⟨g7, 3, none⟩) (blk_far (p := ⟨g7, 2, none⟩) (blk_far (p := ⟨g7, 1, none⟩) (blk_far (p := ⟨g7, 0, none⟩) (blk_below HG2.out HKP.out.1) hn7 (.int .i64 qf.f0)) hn7 (.int .i64 qf.f1)) hn7 (.int .i64 qf.f2)) hn7 (.bool qf.f3))
    clear hb7 hn7 q0 q1 q2 q3 y0 y1 y2 y3 hHeld HKP HB6 HL6 HFar
    generalize (((W6.setCell ⟨g7, 0, none⟩ (.int .i64 qf.f0)).setCell ⟨g7, 1, none⟩ (.int .i64 qf.f1)).setCell ⟨g7, 2, none⟩ (.int .i64 qf.f2)).setCell ⟨g7, 3, none⟩ (.bool qf.f3) = W7 at HG7 HL7 HB7 HE7 ⊢
    have x1 : W7.cell? ⟨w.heap.size + 1, 1, none⟩ = some (.int .i64 it) := (blk_cell HE7.out 1).trans rfl
    have q0 : W7.cell? ⟨g7, 0, none⟩ = some (.int .i64 qf.f0) := (blk_cell HG7.out 0).trans rfl
    have q1 : W7.cell? ⟨g7, 1, none⟩ = some (.int .i64 qf.f1) := (blk_cell HG7.out 1).trans rfl
    have q2 : W7.cell? ⟨g7, 2, none⟩ = some (.int .i64 qf.f2) := (blk_cell HG7.out 2).trans rfl
    have q3 : W7.cell? ⟨g7, 3, none⟩ = some (.bool qf.f3) := (blk_cell HG7.out 3).trans rfl
    cases b with
    | false =>
     go_wp2
     go_ret
     have hx : applyB p l k it t s = (14, l) := by unfold applyB; rw [HV.out, if_pos rfl, if_neg (by omega), HX.out, x3, HF.out, HQ.out]; rfl
     unfold ApplyP
     rw [hx]
     exact ⟨rfl, Kd.R_mono HL7.out (fun b hb => hb.1), HB7.out⟩
    | true =>
     obtain ⟨c, hcl, hM, hcc, hfz⟩ := Kd.R_elem HL7.out z50 it h0 h2
     have hc := k50_openM hM
     subst hc
     have HCC := Aside0.mk hcc
     clear hcl hM hcc hfz
     go_wp2_with ((with_reducible refine gate_store (t := 50) (p := 49) rfl ?_); refine stop2_ ?_)
     unfold Stop2_
     refine Kd.R_store k50 (w0 := w) base rfl rfl 50 (.tmp 49) (.tmp 48) rfl 50 (g := g) (n := l.length) (cap := cl) (o' := it.toNat * 4) it 0 l qf (factV qf) [.int .i64 qf.f0, .int .i64 qf.f1, .int .i64 qf.f2, .bool qf.f3] _ (fun b => ok b ∧ b < w2.heap.size) (fun _ => False) rfl rfl rfl rfl (by kernel_rfl) (by simp [Value.oneCell']) HL7.out h0 h2 rfl HCC.out (Nat.le_refl _) (k50_mkM _ _ _ qf) (fun _ h => h.elim) HB7.out ?_
     intro w9 hR hB hg
     have HR9 := Aside0.mk hR
     have HB9 := Aside0.mk hB
     clear hR hB hg
     go_wp2
     go_ret
     have hx : applyB p l k it t s = (0, l.set it.toNat qf) := by unfold applyB; rw [HV.out, if_pos rfl, if_neg (by omega), HX.out, x3, HF.out, HQ.out]; rfl
     unfold ApplyP
     rw [hx]
     exact ⟨rfl, Kd.R_mono HR9.out (fun b hb => hb.1), HB9.out⟩
   ·go_enter Tryz.func119, Tryz.ntmps119
    go_wp2_with (go_at_call 85; refine stop2_ ?_)
    unfold Stop2_
    refine HCW.out.mono ?_
    rintro e w2 ⟨he, hb⟩
    replace he : e = .returned (.int .i64 0) := he
    subst he
    have HB2 := Aside0.mk (HB0.out.trans (hb.mono HB0.out.size))
    have HG2 := Aside0.mk (blk_below HGB.out hb)
    have HGA2 := Aside0.mk (blk_below HGA.out hb)
    clear hb
    have x1 : w2.cell? ⟨w.heap.size + 1, 1, none⟩ = some (.int .i64 it) := (blk_cell HG2.out 1).trans rfl
    have x0 : w2.cell? ⟨w.heap.size, 0, none⟩ = some (.slice Ap p.length cp) := (blk_cell HGA2.out 0).trans rfl
    obtain ⟨ad, A7, c7, e0, z0, z1, z2, _⟩ := at_T39 (Kd.C_below HP.out HB2.out) it h0 h1
    subst e0
    rw [HX.out, x3] at z2
    clear z0 z1
    go_wp2
    go_ret
    have hx : applyB p l k it t s = (14, l) := by unfold applyB; rw [HV.out, if_pos rfl, if_neg (by omega), HX.out, x3]; rfl
    unfold ApplyP
    rw [hx]
    exact ⟨rfl, Kd.R_below HL.out HB2.out, HB2.out.mono HBS.out⟩
end Go.Proofs.YtloijngccppfgaaGreat.F
end

section
namespace Go.Proofs.YtloijngccppfgaaGreat.F
open Go.RowKit Go.Proofs.YtloijngccppfgaaGreatW.PrintWords Go.Proofs.YtloijngccppfgaaGreatW.PrintLast Go.Proofs.YtloijngccppfgaaGreatW.PrintMore
attribute [local go_sem] max2_int min2_int max_two min_two max_three min_three max_four min_four
set_option linter.unusedVariables false
set_option linter.unusedSimpArgs false
def applyL (p : List S39) (l : List S50) (k it t : Int) (s : List Int) : List S50 × Int :=
 if factsB p l then (if (applyB p l k it t s).1 = 0 then ((applyB p l k it t s).2, 0) else ([], (applyB p l k it t s).1)) else ([], 2)
set_option maxHeartbeats 8000000 in
set_option maxRecDepth 100000 in
theorem Apply_walk (p : List S39) (Ap : Option Addr) (cp : Nat) (l : List S50) (Al : Option Addr) (cl : Nat) (k it t : Int) (s : List Int) (As : Option Addr) (cs : Nat) (w : World)
  (hp : Kd.C k39 w Ap p.length p) (hcp : p.length ≤ cp) (hl : Kd.C k50 w Al l.length l) (hcl : l.length ≤ cl) (hs : Kd.C (Kd.int .i64) w As s.length s) (hcs : s.length ≤ cs) (hsm : smallP p = true) (hl6 : l.length ≤ 1000000) :
  Calls Tryz.prog 87 #[.agg #[.slice Ap p.length cp], .slice Al l.length cl, .agg #[.int .i64 k, .int .i64 it, .int .i64 t, .slice As s.length cs]] w fun e w' => ∃ v, e = .returned (.tuple #[v, .int .i64 (applyL p l k it t s).2]) ∧ Kd.R k50 50 w' w.heap.size (fun _ => True) v (applyL p l k it t s).1 ∧ Below w.heap.size w w' := by
 have HP := Aside0.mk hp
 have HL := Aside0.mk hl
 have HS := Aside0.mk hs
 have HCP := Aside0.mk hcp
 have HCL := Aside0.mk hcl
 have HCS := Aside0.mk hcs
 have HL6 := Aside0.mk hl6
 have HGA := Aside0.mk (blk_alloc (blk_new w (.cells #[.slice Ap p.length cp] 24 (0, 0))) (.cells #[.int .i64 k, .int .i64 it, .int .i64 t, .slice As s.length cs] 145 (0, 0)))
 have hgb := blk_new (w.alloc (.cells #[.slice Ap p.length cp] 24 (0, 0))) (.cells #[.int .i64 k, .int .i64 it, .int .i64 t, .slice As s.length cs] 145 (0, 0))
 rw [show (w.alloc (.cells #[.slice Ap p.length cp] 24 (0, 0))).heap.size = w.heap.size + 1 from by simp] at hgb
 have HGB := Aside0.mk hgb
 clear hgb
 have HB0 : Aside0 (Below w.heap.size w ((w.alloc (.cells #[.slice Ap p.length cp] 24 (0, 0))).alloc (.cells #[.int .i64 k, .int .i64 it, .int .i64 t, .slice As s.length cs] 145 (0, 0)))) := ⟨below_alloc (below_alloc (Below.refl _ _) _) _⟩
 obtain ⟨kf, hkf⟩ := fact_check_eq p l hsm hl6
 have HKF := Aside0.mk hkf
 clear hp hcp hl hcl hs hcs hsm hl6 hkf
 obtain ⟨r, hr⟩ : ∃ r, applyL p l k it t s = r := ⟨_, rfl⟩
 have HR := Aside0.mk hr
 rw [hr]
 clear hr
 obtain ⟨v, hv⟩ : ∃ v, factsB p l = v := ⟨_, rfl⟩
 have HV := Aside0.mk hv
 rw [hv] at HKF
 clear hv
 cases v with
 | false =>
  go_enter Tryz.func87, Tryz.ntmps87
  go_wp2_with (go_at_call 54; refine stop2_ ?_)
  unfold Stop2_
  refine (fact_Check.calls kf Ap cp p Al cl l 2 _ (Kd.C_below HP.out HB0.out) HCP.out (Kd.C_below HL.out HB0.out) HCL.out HKF.out).mono ?_
  rintro e w2 ⟨rfl, hb⟩
  have HB2 := Aside0.mk (HB0.out.trans (hb.mono HB0.out.size))
  clear hb
  go_wp2
  go_ret2
  have hx : r = ([], 2) := by rw [← HR.out]; unfold applyL; rw [HV.out]; rfl
  rw [hx]
  exact ⟨_, rfl, Kd.R_nil _ _ _ _ _, HB2.out⟩
 | true =>
  have HPL : Aside0 (l.length = p.length) := ⟨by have h := HV.out; unfold factsB at h; simp at h; exact h.1⟩
  obtain ⟨⟨er, l4⟩, ha⟩ : ∃ a, applyB p l k it t s = a := ⟨_, rfl⟩
  have HA := Aside0.mk ha
  clear ha
  go_enter Tryz.func87, Tryz.ntmps87
  go_wp2_with (go_at_call 54; refine stop2_ ?_)
  unfold Stop2_
  refine (fact_Check.calls kf Ap cp p Al cl l 0 _ (Kd.C_below HP.out HB0.out) HCP.out (Kd.C_below HL.out HB0.out) HCL.out HKF.out).mono ?_
  rintro e w2 ⟨rfl, hb⟩
  have HB2 := Aside0.mk (HB0.out.trans (hb.mono HB0.out.size))
  have HGA2 := Aside0.mk (blk_below HGA.out hb)
  have HGB2 := Aside0.mk (blk_below HGB.out hb)
  clear hb
  go_wp2_with (go_at_call 94; refine stop2_ ?_)
  unfold Stop2_
  refine (clone_walk Al cl l _ (Kd.C_below HL.out HB2.out) HL6.out).mono ?_
  rintro e w3 ⟨v3, rfl, hR3, hb⟩
  obtain ⟨A3, c3, rfl⟩ := Kd.R_slice hR3
  have HB3 := Aside0.mk (HB2.out.trans (hb.mono HB2.out.size))
  have HR3 := Aside0.mk (Kd.R_lower hR3 HB2.out.size)
  have HGA3 := Aside0.mk (blk_below HGA2.out hb)
  have HGB3 := Aside0.mk (blk_below HGB2.out hb)
  clear hb hR3
  have haw := apply_walk p Ap cp l A3 c3 k it t s As cs w.heap.size (fun _ => True) w3 (Kd.C_below HP.out HB3.out) HR3.out HPL.out (Kd.C_below HS.out HB3.out) HCS.out HB3.out.size
  unfold ApplyP at haw
  rw [HA.out] at haw
  have HAW := Aside0.mk haw
  clear haw
  have x0 : w3.cell? ⟨w.heap.size, 0, none⟩ = some (.slice Ap p.length cp) := (blk_cell HGA3.out 0).trans rfl
  have y0 : w3.cell? ⟨w.heap.size + 1, 0, none⟩ = some (.int .i64 k) := (blk_cell HGB3.out 0).trans rfl
  have y1 : w3.cell? ⟨w.heap.size + 1, 1, none⟩ = some (.int .i64 it) := (blk_cell HGB3.out 1).trans rfl
  have y2 : w3.cell? ⟨w.heap.size + 1, 2, none⟩ = some (.int .i64 t) := (blk_cell HGB3.out 2).trans rfl
  have y3 : w3.cell? ⟨w.heap.size + 1, 3, none⟩ = some (.slice As s.length cs) := (blk_cell HGB3.out 3).trans rfl
  go_wp2_with (go_at_call 119; refine stop2_ ?_)
  unfold Stop2_
  refine HAW.out.mono ?_
  rintro e w4 ⟨rfl, hR4, hb⟩
  have HR4 := Aside0.mk hR4
  have HB4 := Aside0.mk (HB3.out.trans hb)
  clear hR4 hb x0 y0 y1 y2 y3
  by_cases hE : er = 0
  ·have HX : Aside0 (r = (l4, 0)) := ⟨by rw [← HR.out]; unfold applyL; rw [HV.out, if_pos rfl, HA.out, if_pos hE]⟩
   subst hE
   go_wp2
   go_ret2
   rw [HX.out]
   exact ⟨_, rfl, HR4.out, HB4.out⟩
  ·have HX : Aside0 (r = ([], er)) := ⟨by rw [← HR.out]; unfold applyL; rw [HV.out, if_pos rfl, HA.out, if_neg hE]⟩
   go_wp2
   go_ret2
   rw [HX.out]
   exact ⟨_, rfl, Kd.R_nil _ _ _ _ _, HB4.out⟩
end Go.Proofs.YtloijngccppfgaaGreat.F
end

section
namespace Go.Proofs.YtloijngccppfgaaGreat.F
open Go.RowKit Go.Proofs.YtloijngccppfgaaGreatW.PrintWords Go.Proofs.YtloijngccppfgaaGreatW.PrintLast Go.Proofs.YtloijngccppfgaaGreatW.PrintMore
attribute [local go_sem] max2_int min2_int max_two min_two max_three min_three max_four min_four
set_option linter.unusedVariables false
set_option linter.unusedSimpArgs false
theorem itemB_shape {p : List S39} {i : Nat} {x : S39} (h : itemB p i x = true) : (0 ≤ x.f4 ∧ x.f4 ≤ 4) ∧ (i ≠ 0 → 0 ≤ x.f5 ∧ x.f5 < i ∧ 0 ≤ x.f6 ∧ x.f6 < (rd_T39 p x.f5).f4) ∧ (i = 0 → x.f5 = -1) := by
 unfold itemB at h
 by_cases c1 : x.f4 < 0
 ·rw [if_pos c1] at h; cases h
 rw [if_neg c1] at h
 by_cases c2 : 4 < x.f4
 ·rw [if_pos c2] at h; cases h
 rw [if_neg c2] at h
 by_cases c3 : x.f7.any (strayB p.length) = true
 ·rw [if_pos c3] at h; cases h
 rw [if_neg c3] at h
 refine ⟨by omega, ?_, ?_⟩
 ·intro hz
  rw [if_neg hz] at h
  by_cases c4 : x.f5 < 0
  ·rw [if_pos c4] at h; cases h
  rw [if_neg c4] at h
  by_cases c5 : (i : Int) ≤ x.f5
  ·rw [if_pos c5] at h; cases h
  rw [if_neg c5] at h
  by_cases c6 : x.f6 < 0
  ·rw [if_pos c6] at h; cases h
  rw [if_neg c6] at h
  have := of_decide_eq_true h
  omega
 ·intro hz
  rw [if_pos hz] at h
  exact of_decide_eq_true h
theorem shapedL_of_ {p : List S39} : ∀ (q : List S39) (i : Nat), shapedL p i q = true → ∀ k (hk : k < q.length), itemB p (i + k) q[k] = true
 | [], _, _, k, hk => by simp at hk
 | x :: q, i, h, k, hk => by
  unfold shapedL at h
  rw [Bool.and_eq_true] at h
  cases k with
  | zero => exact h.1
  | succ k =>
   have := shapedL_of_ q (i + 1) h.2 k (by simpa using hk)
   rw [show i + 1 + k = i + (k + 1) from by omega] at this
   simpa using this
theorem rd_at {p : List S39} {i : Nat} (h : i < p.length) : rd_T39 p (i : Int) = p[i] := by
 unfold rd_T39
 rw [Int.toNat_natCast, List.getD_eq_getElem?_getD, List.getElem?_eq_getElem h]
 rfl
theorem shape_item {p : List S39} (h : shapedB p = true) {i : Nat} (hi : i < p.length) : itemB p i (rd_T39 p (i : Int)) = true := by
 unfold shapedB at h
 simp only [Bool.and_eq_true] at h
 have := shapedL_of_ p 0 h.1 i hi
 rw [Nat.zero_add] at this
 rw [rd_at hi]
 exact this
theorem shape_few {p : List S39} (h : shapedB p = true) : 0 < p.length ∧ p.length ≤ 64 := by
 unfold shapedB at h
 simp only [Bool.and_eq_true, decide_eq_true_eq] at h
 exact h.2
theorem shape_of {p : List S39} (h : shapedB p = true) : ShapeP p := by
 refine ⟨(shape_few h).2, fun i hi => ?_⟩
 obtain ⟨h1, h2, -⟩ := itemB_shape (shape_item h hi)
 refine ⟨h1, fun hz => ?_⟩
 obtain ⟨q1, q2, q3, q4⟩ := h2 hz
 refine ⟨q1, q2, q3, ?_⟩
 obtain ⟨j, hj⟩ := Int.eq_ofNat_of_zero_le q1
 have hjl : j < p.length := by omega
 have := (itemB_shape (shape_item h hjl)).1
 rw [hj] at q4
 omega
theorem facts_shape {p : List S39} {l : List S50} (h : factsB p l = true) : l.length = p.length ∧ shapedB p = true := by
 unfold factsB at h
 simp only [Bool.and_eq_true, decide_eq_true_eq] at h
 have h2 := h.2.1
 unfold rightB at h2
 rw [Bool.and_eq_true] at h2
 exact ⟨h.1, h2.1⟩
def SeeP (p : List S39) (Ap : Option Addr) (cp : Nat) (l : List S50) (w : World) (r : Option Nat) (w' : World) : Prop :=
 Below w.heap.size w w' ∧ match r with | some g => factsB p l = true ∧ ∃ Al cl, BdAt w' g p Ap cp l Al cl (madeS p l) ∧ w.heap.size ≤ g ∧ Kd.F k50 w' (fun k_ => w.heap.size ≤ k_) Al l.length l | none => factsB p l = false
theorem SeeP.lower {p : List S39} {Ap : Option Addr} {cp : Nat} {l : List S50} {w W w' : World} {r : Option Nat} (h : SeeP p Ap cp l W r w') (hb : Below w.heap.size w W) : SeeP p Ap cp l w r w' := by
 refine ⟨hb.trans (h.1.mono hb.size), ?_⟩
 cases r with
 | none => exact h.2
 | some g =>
  obtain ⟨h1, Al, cl, h2, h3, h4⟩ := h.2
  exact ⟨h1, Al, cl, h2, Nat.le_trans hb.size h3, Kd.F_mono h4 (fun k hk => Nat.le_trans hb.size hk)⟩
def ptrV : Option Nat → Value
 | none => .pointer none
 | some g => .pointer (some ⟨g, 0, none⟩)
set_option maxHeartbeats 8000000 in
set_option maxRecDepth 100000 in
theorem see_walk (p : List S39) (Ap : Option Addr) (cp : Nat) (l : List S50) (Al : Option Addr) (cl : Nat) (w : World) (hp : Kd.C k39 w Ap p.length p) (hcp : p.length ≤ cp) (hl : Kd.C k50 w Al l.length l) (hcl : l.length ≤ cl) (hsm : smallP p = true) (hl6 : l.length ≤ 1000000) :
  Calls Tryz.prog 37 #[.agg #[.slice Ap p.length cp], .slice Al l.length cl] w fun e w' => ∃ r, e = .returned (.tuple #[ptrV r, .int .i64 (if factsB p l then 0 else 2)]) ∧ SeeP p Ap cp l w r w' := by
 have HP := Aside0.mk hp
 have HL := Aside0.mk hl
 have HGA := Aside0.mk (blk_new w (.cells #[.slice Ap p.length cp] 24 (0, 0)))
 have HB0 := Aside0.mk (below_alloc (Below.refl w.heap.size w) (.cells #[.slice Ap p.length cp] 24 (0, 0)))
 have HCK := Aside0.mk (fun (W : World) (hb : Below w.heap.size w W) => fact_Check.calls _ Ap cp p Al cl l _ W (Kd.C_below hp hb) hcp (Kd.C_below hl hb) hcl (fact_check_at p l hsm hl6))
 obtain ⟨v, hv⟩ : ∃ v, factsB p l = v := ⟨_, rfl⟩
 have HV := Aside0.mk hv
 rw [hv] at HCK ⊢
 clear hp hcp hl hcl hsm hl6 hv
 cases v with
 | false =>
  go_enter Tryz.func37, Tryz.ntmps37
  go_wp2_with (go_at_call 54; refine (HCK.out _ HB0.out).mono ?_; rintro e w2 ⟨rfl, hb⟩; have HB2 := Aside0.mk (HB0.out.trans (hb.mono HB0.out.size)); clear hb)
  go_ret2
  exact ⟨none, rfl, HB2.out, HV.out⟩
 | true =>
  have HSH := Aside0.mk (facts_shape HV.out)
  have HMD := Aside0.mk (fun (W : World) (hb : Below w.heap.size w W) => made_board_walk p Ap cp l Al cl W (Kd.C_below HP.out hb) (Kd.C_below HL.out hb) HSH.out.1 (shape_of HSH.out.2))
  go_enter Tryz.func37, Tryz.ntmps37
  go_wp2_with (first
   | (go_at_call 54; refine (HCK.out _ HB0.out).mono ?_; rintro e w2 ⟨rfl, hb⟩; have HB2 := Aside0.mk (HB0.out.trans (hb.mono HB0.out.size)); have HG2 := Aside0.mk (blk_below HGA.out hb); clear hb; have x0 : w2.cell? ⟨w.heap.size, 0, none⟩ = some (.slice Ap p.length cp) := (blk_cell HG2.out 0).trans rfl)
   | (go_at_call 63; refine (HMD.out _ HB2.out).mono ?_; rintro e w3 ⟨g, rfl, hm⟩; have HM := Aside0.mk hm; clear hm))
  go_ret2
  obtain ⟨q1, q2, A3, c3, q3, q4⟩ := HM.out
  have hb3 := HB2.out.trans (q1.mono HB2.out.size)
  exact ⟨some g, rfl, hb3, HV.out, A3, c3, ⟨q3, Kd.C_below HP.out hb3, Kd.F_now q4, HSH.out.1, (shape_few HSH.out.2).2⟩, Nat.le_trans HB2.out.size q2, Kd.F_mono q4 (fun k hk => Nat.le_trans HB2.out.size hk)⟩
set_option maxHeartbeats 8000000 in
set_option maxRecDepth 100000 in
theorem asked_walk (p : List S39) (Ap : Option Addr) (cp : Nat) (l : List S50) (Al : Option Addr) (cl : Nat) (w : World) (hp : Kd.C k39 w Ap p.length p) (hcp : p.length ≤ cp) (hl : Kd.C k50 w Al l.length l) (hcl : l.length ≤ cl) (hsm : smallP p = true) (hl6 : l.length ≤ 1000000) :
  Calls Tryz.prog 42 #[.agg #[.slice Ap p.length cp], .slice Al l.length cl] w fun e w' => ∃ r, e = .returned (ptrV r) ∧ SeeP p Ap cp l w r w' := by
 have HB0 := Aside0.mk (below_alloc (Below.refl w.heap.size w) (.cells #[.slice Ap p.length cp] 24 (0, 0)))
 have HSW := Aside0.mk (fun (W : World) (hb : Below w.heap.size w W) => see_walk p Ap cp l Al cl W (Kd.C_below hp hb) hcp (Kd.C_below hl hb) hcl hsm hl6)
 clear hp hcp hl hcl hsm hl6
 go_enter Tryz.func42, Tryz.ntmps42
 go_wp2_with (go_at_call 37; refine (HSW.out _ HB0.out).mono ?_; rintro e w2 ⟨r, rfl, hm⟩; have HM := Aside0.mk hm; clear hm)
 all_goals
  go_ret
  exact ⟨r, rfl, HM.out.lower HB0.out⟩
def okArgs (p : List S39) (l : List S50) : Bool := smallP p && decide (l.length ≤ 1000000)
def state_All.f (l0_0 : List S39) (l1 : List S50) : Option (List Int × Int) := if okArgs l0_0 l1 then some (if factsB l0_0 l1 then (allB l0_0 l1 (madeS l0_0 l1), 0) else ([], 2)) else none
def fallB (p : List S39) (s : St) (i a : Int) : Bool := subB p i && (decide (0 ≤ a) && (decide (a < (rd_T39 p i).f4) && ((s.bo i.toNat a.toNat).fa || (s.it i.toNat).ha)))
def state_Clean.f (l0_0 : List S39) (l1 : List S50) (a2 : Int) : Option Bool := if okArgs l0_0 l1 then some (if factsB l0_0 l1 then cleanB l0_0 (madeS l0_0 l1) a2 else false) else none
set_option maxHeartbeats 8000000 in
theorem falling_walk {w : World} {g : Nat} {p : List S39} {Ap : Option Addr} {cp : Nat} {l : List S50} {Al : Option Addr} {cl : Nat} {s : St} (h : BdAt w g p Ap cp l Al cl s) (hs : ShapeP p) (i a : Int) : Calls Tryz.prog 43 #[.pointer (some ⟨g, 0, none⟩), .int .i64 i, .int .i64 a] w fun e w' => e = .returned (.bool (fallB p s i a)) ∧ w' = w := by
 have HS := Aside0.mk (sub_walk h i)
 unfold fallB
 cases hb : subB p i with
 | false =>
  rw [hb] at HS
  clear h hb hs
  go_enter Tryz.func43, Tryz.ntmps43
  go_wp2_with (go_at_call 70; refine HS.out.mono ?_; rintro e w2 ⟨rfl, rfl⟩)
  go_ret
  exact ⟨rfl, rfl⟩
 | true =>
  have hx := hb
  unfold subB at hx
  simp only [Bool.and_eq_true, decide_eq_true_eq] at hx
  obtain ⟨n, rfl⟩ := Int.eq_ofNat_of_zero_le hx.1
  have hn : n < p.length := by omega
  have h6 : (n : Int) < 64 := by have := h.few; omega
  have h0 : (0 : Int) ≤ n := by omega
  have h1 : (n : Int) < (p.length : Int) := by omega
  have h4 := (hs.2 n hn).1
  obtain ⟨ad, A7, c7, e0, x0, x1, x2, x3, x4, x5, x6, x7, _, _⟩ := at_T39 h.pl (n : Int) h0 h1
  subst e0
  have y0 : w.cell? ⟨g, 0, none⟩ = some (.slice (some ad) p.length cp) := h.bd.cell 0 (by omega)
  rw [hb] at HS
  obtain ⟨m, hm⟩ : ∃ m, (rd_T39 p (n : Int)).f4 = m := ⟨_, rfl⟩
  rw [hm] at x4 h4 ⊢
  rw [Int.toNat_natCast] at x4
  clear x0 x1 x2 x3 x5 x6 x7 hb hx hm
  by_cases c1 : a < 0
  ·have hd : decide (0 ≤ a) = false := decide_eq_false (by omega)
   clear h
   go_enter Tryz.func43, Tryz.ntmps43
   go_wp2_with (go_at_call 70; refine HS.out.mono ?_; rintro e w2 ⟨rfl, rfl⟩)
   go_ret
   exact ⟨by rw [hd]; rfl, rfl⟩
  ·obtain ⟨k, rfl⟩ := Int.eq_ofNat_of_zero_le (Int.not_lt.1 c1)
   have hd : decide ((0 : Int) ≤ k) = true := decide_eq_true (by omega)
   by_cases c2 : (k : Int) ≥ m
   ·have hd2 : decide ((k : Int) < m) = false := decide_eq_false (by omega)
    clear h
    go_enter Tryz.func43, Tryz.ntmps43
    go_wp2_with (go_at_call 70; refine HS.out.mono ?_; rintro e w2 ⟨rfl, rfl⟩)
    go_ret
    exact ⟨by rw [hd, hd2]; rfl, rfl⟩
   ·have hd2 : decide ((k : Int) < m) = true := decide_eq_true (by omega)
    have k4 : (k : Int) < 4 := by omega
    have k0 : (0 : Int) ≤ k := by omega
    have z0 : w.cell? ⟨g, 386 + n * 12 + k * 3, none⟩ = some (.bool (s.bo n k).fa) := h.bd.bo n k 0 (by omega) (by omega) (by omega)
    have z1 : w.cell? ⟨g, 2 + n * 6 + 4, none⟩ = some (.bool (s.it n).ha) := h.bd.it n 4 (by omega) (by omega)
    rw [hd, hd2, Int.toNat_natCast, Int.toNat_natCast]
    clear h hd hd2
    obtain ⟨fa, hfa⟩ : ∃ b, (s.bo n k).fa = b := ⟨_, rfl⟩
    rw [hfa] at z0 ⊢
    clear hfa
    cases fa
    all_goals
     go_enter Tryz.func43, Tryz.ntmps43
     go_wp2_with (go_at_call 70; refine HS.out.mono ?_; rintro e w2 ⟨rfl, rfl⟩)
     go_ret
     exact ⟨rfl, rfl⟩
theorem SeeP.has {p : List S39} {Ap : Option Addr} {cp : Nat} {l : List S50} {w w' : World} {g : Nat} (h : SeeP p Ap cp l w (some g) w') : factsB p l = true ∧ 0 < p.length ∧ shapedB p = true ∧ ∃ Al cl, BdAt w' g p Ap cp l Al cl (madeS p l) := by
 obtain ⟨h1, h2, Al, cl, h3, -⟩ := h
 exact ⟨h2, (shape_few (facts_shape h2).2).1, (facts_shape h2).2, Al, cl, h3⟩
theorem SeeP.hasnt {p : List S39} {Ap : Option Addr} {cp : Nat} {l : List S50} {w w' : World} (h : SeeP p Ap cp l w none w') : factsB p l = false := h.2
section
variable {p : List S39} {Ap : Option Addr} {cp : Nat} {l : List S50} {w w' : World} {r : Option Nat}
theorem clean_ptr (h : SeeP p Ap cp l w r w') (i : Int) : Calls Tryz.prog 50 #[ptrV r, .int .i64 i] w' fun e w2 => e = .returned (.bool (if factsB p l then cleanB p (madeS p l) i else false)) ∧ Below w'.heap.size w' w2 := by
 cases r with
 | none => rw [h.hasnt]; refine (clean_none i w').mono ?_; rintro e w2 ⟨rfl, rfl⟩; exact ⟨rfl, Below.refl _ _⟩
 | some g => obtain ⟨h1, h2, h3, Al, cl, h4⟩ := h.has; rw [h1]; refine (clean_walk h4 i).mono ?_; rintro e w2 ⟨rfl, rfl⟩; exact ⟨rfl, Below.refl _ _⟩
theorem all_ptr (h : SeeP p Ap cp l w r w') : Calls Tryz.prog 38 #[ptrV r] w' fun e w2 => ∃ v, e = .returned v ∧ Kd.R (Kd.int .i64) 35 w2 w'.heap.size (fun _ => True) v (if factsB p l then allB p l (madeS p l) else []) ∧ Below w'.heap.size w' w2 := by
 cases r with
 | none => rw [h.hasnt]; exact all_none w'
 | some g => obtain ⟨h1, h2, h3, Al, cl, h4⟩ := h.has; rw [h1]; exact all_walk h4
end
section
variable (A0_0 : Option Addr) (c0_0 : Nat) (l0_0 : List S39) (A1 : Option Addr) (c1 : Nat) (l1 : List S50)
theorem state_All.calls (r1 : List Int) (r2 : Int) (w : World) (hr0_0 : Kd.C k39 w A0_0 l0_0.length l0_0) (hc0_0 : l0_0.length ≤ c0_0) (hr1 : Kd.C k50 w A1 l1.length l1) (hc1 : l1.length ≤ c1) (h : state_All.f l0_0 l1 = some (r1, r2)) :
  Calls Tryz.prog 12 #[.agg #[.slice A0_0 l0_0.length c0_0], .slice A1 l1.length c1] w fun e w' => ∃ v0_ : Value, e = .returned (.tuple #[v0_, .int .i64 r2]) ∧ Kd.R (Kd.int .i64) 35 w' w.heap.size (fun _ => True) v0_ r1 ∧ Below w.heap.size w w' := by
 unfold state_All.f at h
 by_cases hok : okArgs l0_0 l1 = true
 ·rw [if_pos hok] at h
  unfold okArgs at hok
  rw [Bool.and_eq_true, decide_eq_true_eq] at hok
  have HB0 := Aside0.mk (below_alloc (Below.refl w.heap.size w) (.cells #[.slice A0_0 l0_0.length c0_0] 24 (0, 0)))
  have HAS := Aside0.mk (fun (W : World) (hb : Below w.heap.size w W) => see_walk l0_0 A0_0 c0_0 l1 A1 c1 W (Kd.C_below hr0_0 hb) hc0_0 (Kd.C_below hr1 hb) hc1 hok.1 hok.2)
  have h3 := Option.some.inj h
  have H1 : Aside0 ((if factsB l0_0 l1 = true then allB l0_0 l1 (madeS l0_0 l1) else []) = r1) := ⟨(by split <;> rfl : (if factsB l0_0 l1 = true then allB l0_0 l1 (madeS l0_0 l1) else []) = (if factsB l0_0 l1 = true then (allB l0_0 l1 (madeS l0_0 l1), (0 : Int)) else ([], 2)).1).trans (congrArg Prod.fst h3)⟩
  have H2 : Aside0 ((if factsB l0_0 l1 = true then (0 : Int) else 2) = r2) := ⟨(by split <;> rfl : (if factsB l0_0 l1 = true then (0 : Int) else 2) = (if factsB l0_0 l1 = true then (allB l0_0 l1 (madeS l0_0 l1), (0 : Int)) else ([], 2)).2).trans (congrArg Prod.snd h3)⟩
  clear h3
  clear hr0_0 hc0_0 hr1 hc1 hok h
  go_enter Tryz.func12, Tryz.ntmps12
  go_wp2_with (first
   | (go_at_call 37; refine (HAS.out _ HB0.out).mono ?_; rw [H2.out]; rintro e w2 ⟨q, rfl, hm⟩; have HM := Aside0.mk hm; clear hm)
   | (go_at_call 38; refine (all_ptr HM.out).mono ?_; rw [H1.out]; rintro e w3 ⟨v, rfl, hR, hb⟩; have HR := Aside0.mk hR; have HB3 := Aside0.mk (HB0.out.trans ((HM.out.1.trans (hb.mono HM.out.1.size)).mono HB0.out.size)); clear hb))
  go_ret2
  exact ⟨v, rfl, Kd.R_lower HR.out (Nat.le_trans HB0.out.size HM.out.1.size), HB3.out⟩
 ·rw [if_neg hok] at h
  cases h
theorem state_Clean.calls (a2 : Int) (r : Bool) (w : World) (hr0_0 : Kd.C k39 w A0_0 l0_0.length l0_0) (hc0_0 : l0_0.length ≤ c0_0) (hr1 : Kd.C k50 w A1 l1.length l1) (hc1 : l1.length ≤ c1) (h : state_Clean.f l0_0 l1 a2 = some r) :
  Calls Tryz.prog 21 #[.agg #[.slice A0_0 l0_0.length c0_0], .slice A1 l1.length c1, .int .i64 a2] w fun e w' => e = .returned (.bool r) ∧ Below w.heap.size w w' := by
 unfold state_Clean.f at h
 by_cases hok : okArgs l0_0 l1 = true
 ·rw [if_pos hok] at h
  unfold okArgs at hok
  rw [Bool.and_eq_true, decide_eq_true_eq] at hok
  have HB0 := Aside0.mk (below_alloc (Below.refl w.heap.size w) (.cells #[.slice A0_0 l0_0.length c0_0] 24 (0, 0)))
  have HAS := Aside0.mk (fun (W : World) (hb : Below w.heap.size w W) => asked_walk l0_0 A0_0 c0_0 l1 A1 c1 W (Kd.C_below hr0_0 hb) hc0_0 (Kd.C_below hr1 hb) hc1 hok.1 hok.2)
  have HRR := Aside0.mk (Option.some.inj h)
  clear hr0_0 hc0_0 hr1 hc1 hok h
  go_enter Tryz.func21, Tryz.ntmps21
  go_wp2_with (first
   | (go_at_call 42; refine (HAS.out _ HB0.out).mono ?_; rintro e w2 ⟨q, rfl, hm⟩; have HM := Aside0.mk hm; clear hm)
   | (go_at_call 50; refine (clean_ptr HM.out a2).mono ?_; rw [HRR.out]; rintro e w3 ⟨rfl, hb⟩; have HB3 := Aside0.mk (HB0.out.trans ((HM.out.1.trans (hb.mono HM.out.1.size)).mono HB0.out.size)); clear hb))
  go_ret
  exact ⟨rfl, HB3.out⟩
 ·rw [if_neg hok] at h
  cases h
end
end Go.Proofs.YtloijngccppfgaaGreat.F
end

section
namespace Go.Proofs.YtloijngccppfgaaGreat.F
open Go.RowKit Go.Proofs.YtloijngccppfgaaGreatW.PrintWords Go.Proofs.YtloijngccppfgaaGreatW.PrintLast Go.Proofs.YtloijngccppfgaaGreatW.PrintMore
structure Stay (n : Nat) (X X' : World) : Prop where
 below : Below n X X'
 cells : ∀ (k : Nat) (o : Obj), o.isCells = true → X.heap[k]? = some o → X'.heap[k]? = some o
theorem Stay.mono {n m : Nat} {X X' : World} (h : Stay m X X') (hn : n ≤ m) : Stay n X X' := ⟨h.below.mono hn, h.cells⟩
theorem Stay.trans {n : Nat} {X Y Z : World} (h : Stay n X Y) (k : Stay n Y Z) : Stay n X Z := ⟨h.below.trans k.below, fun i o ho e => k.cells i o ho (h.cells i o ho e)⟩
theorem Stay.of_below {n m : Nat} {X X' : World} (h : Below m X X') (hm : X.heap.size ≤ m) (hn : n ≤ m) : Stay n X X' := ⟨h.mono hn, fun k _ _ e => (h.block k (Nat.lt_of_lt_of_le (Array.getElem?_eq_some_iff.1 e).1 hm)).trans e⟩
theorem Stay.alloc {n : Nat} {X : World} (o : Obj) (hn : n ≤ X.heap.size) : Stay n X (X.alloc o) := Stay.of_below ((Below.refl X.heap.size X).alloc (Nat.le_refl _) o) (Nat.le_refl _) hn
theorem Stay.refl (n : Nat) (X : World) : Stay n X X := ⟨Below.refl _ _, fun _ _ _ e => e⟩
theorem Stay.putObj {n l : Nat} {X : World} (o : Obj) (hn : n ≤ l) (hc : ∀ o : Obj, X.heap[l]? = some o → o.isCells = false) : Stay n X (X.putObj l o) :=
 ⟨below_putObj (Below.refl _ _) _ hn, fun k o ho e => (World.putObj_heap_other (fun h => by subst h; rw [hc o e] at ho; cases ho)).trans e⟩
def Calm (Ex : World → Nat → Prop) (n : Nat) : Prop := ∀ X X' : World, Below n X X' → ∀ k, Ex X' k → Ex X k
theorem Calm.mono {Ex : World → Nat → Prop} {n m : Nat} (h : Calm Ex n) (hm : n ≤ m) : Calm Ex m := fun X X' hb k => h X X' (hb.mono hm) k
structure KeepX (Ex : World → Nat → Prop) (B : Nat) (X X' : World) : Prop where
 size : X.heap.size ≤ X'.heap.size
 same : ∀ k, B ≤ k → k < X.heap.size → ¬ Ex X k → X'.heap[k]? = X.heap[k]? ∧ ¬ Ex X' k
section
variable {Ex : World → Nat → Prop}
theorem KeepX.trans {B : Nat} {X Y Z : World} (h : KeepX Ex B X Y) (k : KeepX Ex B Y Z) : KeepX Ex B X Z := ⟨Nat.le_trans h.size k.size, fun i hB hi hx => by
 obtain ⟨h1, h2⟩ := h.same i hB hi hx
 obtain ⟨h3, h4⟩ := k.same i hB (Nat.lt_of_lt_of_le hi h.size) h2
 exact ⟨h3.trans h1, h4⟩⟩
theorem KeepX.mono {B B' : Nat} {X Y : World} (h : KeepX Ex B X Y) (hb : B ≤ B') : KeepX Ex B' X Y := ⟨h.size, fun i hi => h.same i (Nat.le_trans hb hi)⟩
theorem KeepX.blk {B : Nat} {X Y : World} (h : KeepX Ex B X Y) {k : Nat} {o : Obj} (hB : B ≤ k) (hk : X.heap[k]? = some o) (hx : ¬ Ex X k) : Y.heap[k]? = some o ∧ ¬ Ex Y k := by
 obtain ⟨h1, h2⟩ := h.same k hB (Array.getElem?_eq_some_iff.1 hk).1 hx
 exact ⟨h1.trans hk, h2⟩
theorem KeepX.of_below {B n m : Nat} {X Y : World} (hc : Calm Ex n) (h : Below m X Y) (hm : X.heap.size ≤ m) (hn : n ≤ m) : KeepX Ex B X Y := ⟨h.size, fun i _ hi hx => ⟨h.block i (Nat.lt_of_lt_of_le hi hm), fun hy => hx (hc X Y (h.mono hn) i hy)⟩⟩
theorem KeepX.putObj {B l n : Nat} {X : World} (hc : Calm Ex n) (o : Obj) (hn : n ≤ l) (hl : l < B) : KeepX Ex B X (X.putObj l o) := ⟨by simp, fun k hk _ hx => ⟨World.putObj_heap_other (by omega), fun hy => hx (hc X _ (below_putObj (Below.refl _ _) _ hn) k hy)⟩⟩
end
structure MarksX (Ex : World → Nat → Prop) (B : Nat) (X : World) (ds : List Nat) : Prop where
 nodup : ds.Nodup
 here : ∀ r, r ∈ ds → B ≤ r ∧ X.heap[r]? = some (.deferred (some []))
 free : ∀ r, r ∈ ds → ¬ Ex X r
section
variable {Ex : World → Nat → Prop}
theorem MarksX.nil (B : Nat) (X : World) : MarksX Ex B X [] := ⟨List.nodup_nil, fun r h => (by cases h), fun r h => (by cases h)⟩
theorem MarksX.keep {B : Nat} {X X' : World} {ds : List Nat} (h : MarksX Ex B X ds) (hk : KeepX Ex B X X') : MarksX Ex B X' ds := ⟨h.nodup, fun r hr => ⟨(h.here r hr).1, (hk.blk (h.here r hr).1 (h.here r hr).2 (h.free r hr)).1⟩, fun r hr => (hk.blk (h.here r hr).1 (h.here r hr).2 (h.free r hr)).2⟩
theorem MarksX.lt {B : Nat} {X : World} {ds : List Nat} (h : MarksX Ex B X ds) : ∀ r ∈ ds, r < X.heap.size := fun r hr => (Array.getElem?_eq_some_iff.1 (h.here r hr).2).1
theorem MarksX.below {B n m : Nat} {X X' : World} {ds : List Nat} (h : MarksX Ex B X ds) (hc : Calm Ex m) (hm : m ≤ n) (hb : Below n X X') (hlt : ∀ r ∈ ds, r < n) : MarksX Ex B X' ds := ⟨h.nodup, fun r hr => ⟨(h.here r hr).1, (hb.block r (hlt r hr)).trans (h.here r hr).2⟩, fun r hr hx => h.free r hr (hc X X' (hb.mono hm) r hx)⟩
theorem MarksX.cons {B d : Nat} {X : World} {ds : List Nat} (h : MarksX Ex B X ds) (hd : B ≤ d) (hn : d ∉ ds) (hh : X.heap[d]? = some (.deferred (some []))) (hx : ¬ Ex X d) : MarksX Ex B X (d :: ds) :=
 ⟨List.nodup_cons.2 ⟨hn, h.nodup⟩, fun r hr => (List.mem_cons.1 hr).elim (fun e => by subst e; exact ⟨hd, hh⟩) (fun hr => h.here r hr), fun r hr => (List.mem_cons.1 hr).elim (fun e => by subst e; exact hx) (fun hr => h.free r hr)⟩
end
theorem leaves_marksX {P : Program} {fn : Func} {tmps : Array Value} {R : Ending → World → Prop} {B : Nat} {Ex : World → Nat → Prop} (hc : Calm Ex B) (u : FrameMode) (hu : u ≠ .run) : ∀ (ds : List Nat) (w : World), MarksX Ex B w ds → (∀ W, Stay B w W → LeavesInM Fence.wide 0 P fn tmps R [] u W) → LeavesInM Fence.wide 0 P fn tmps R (ds.map markOf) u w
 | [], w, _, h => h w (Stay.refl _ _)
 | r :: ds, w, hm, h => by
  have h1 := hm.here r List.mem_cons_self
  refine ⟨hu, .inl ⟨r, w.putObj r (.deferred none), rfl, run_takeDeferred h1.2, ?_⟩⟩
  have hb : Stay B w (w.putObj r (.deferred none)) := Stay.putObj _ h1.1 (fun o e => by rw [h1.2] at e; cases e; rfl)
  refine leaves_marksX hc u hu ds _ ⟨(List.nodup_cons.1 hm.nodup).2, fun r' hr' => ⟨(hm.here r' (List.mem_cons_of_mem _ hr')).1, ?_⟩, fun r' hr' hx => hm.free r' (List.mem_cons_of_mem _ hr') (hc _ _ hb.below r' hx)⟩ (fun W hW => h W (hb.trans hW))
  exact (World.putObj_heap_other (fun e => by subst e; exact (List.nodup_cons.1 hm.nodup).1 hr')).trans (hm.here r' (List.mem_cons_of_mem _ hr')).2
theorem run_append_fresh {P : Program} (w : World) (base : Nat) (t ty e : TypeId) (i : TypeInfo) (z : Value) (size bytes : Nat) (ht : P.underlying t = some (.slice e)) (hi : P.info? e = some i) (hz : i.zero = some z)
  (hsize : i.size = size) (hby : i.bytes = bytes) (hzs : z.cells.size = size) (hsz : 0 < size)
  (v : Value) (n : Nat) (xs : List Value) (hown : w.ownsRow base e size v n xs)
  (a : Addr) (m c : Nat) (news : List Value) (hl : news.length = m * size) (hnews : ∀ j u, news[j]? = some u → w.cell? (a.add j) = some u) (h1 : ∀ u ∈ news, u.oneCell' = true)
  (h63 : n + m ≤ maxLen) (hbytes : (n + m) * bytes ≤ 140737488355328) (hbase : base ≤ w.heap.size) :
  ∃ v' w', (Builtin.append_ #[t, t] ty #[v, .slice (some a) m c]).run P w = .ok v' w' ∧ w'.ownsRow base e size v' (n + m) (xs ++ news) ∧ w.grownBy w' v.ownBlock ∧
   (v'.ownBlock = v.ownBlock ∨ v'.ownBlock = some w.heap.size) := by
 obtain ⟨v', w', q1, q2, q3, q4⟩ := run_append_own (P := P) w base t ty e i z size bytes ht hi hz hsize hby hzs hsz v n xs hown a m c news hl hnews h1 h63 hbytes hbase
 refine ⟨v', w', q1, q2, q3, ?_⟩
 subst hsize
 subst hby
 have hsmall : n + m ≤ 9223372036854775807 := by simp only [maxLen] at h63; omega
 rcases hown.2 with ⟨rfl, rfl⟩ | ⟨g, cap, cur, rfl, hbg, hg, hnc, hcm, hcs, htake⟩
 ·by_cases hm : m = 0
  ·rw [q4.2 ⟨rfl, hm⟩]; exact .inl rfl
  ·have hr := run_append_nil (P := P) w t ty e i z ht hi hz a m c news hl hnews (by omega) (by omega) (by have hb := hbytes; simp only [Nat.zero_add] at hb; omega)
   rw [hr] at q1
   injection q1 with e1 e2
   subst e1
   exact .inr rfl
 ·by_cases hroom : n + m ≤ cap
  ·have hfit : n * i.size + news.length ≤ cur.size := by rw [hl, hcs, ← Nat.add_mul]; exact Nat.mul_le_mul_right _ hroom
   have hr := run_append_room (P := P) w t ty e i ht hi g n cap cur hg a m c news hl hnews h1 hroom hfit
   rw [hr] at q1
   injection q1 with e1 e2
   subst e1
   exact .inl rfl
  ·have holds : ∀ j u, xs[j]? = some u → w.cell? ((⟨g, 0, none⟩ : Addr).add j) = some u := hown.cells (g := g) rfl
   have hr := run_append_grow (P := P) w t ty e i z ht hi hz ⟨g, 0, none⟩ n cap xs hown.1 holds a m c news hl hnews (by omega) (by omega) (growslice_fits (by omega) hbytes)
   rw [hr] at q1
   injection q1 with e1 e2
   subst e1
   exact .inr rfl
theorem wpListIn_append_fresh {F : Fence} {n : Nat} {P : Program} (w : World) {ops : Array Oper} {rest : List Oper} {o : Oper} {a : Act} {Q : Exit → Act → World → Prop}
  (hg : o.guard = none) (s x : Operand) (t : TypeId) (hop : o.op = Op.call { callee := Callee.builtin Builtin.append, args := #[s, x], argTypes := #[t, t] })
  (base : Nat) (e : TypeId) (i : TypeInfo) (z : Value) (size bytes : Nat) (h1 : P.underlying t = some (.slice e)) (h2 : P.info? e = some i) (h3 : i.zero = some z) (h4 : i.size = size) (h5 : i.bytes = bytes) (h6 : z.cells.size = size) (h7 : 0 < size)
  (v : Value) (k : Nat) (xs : List Value) (hs : a.eval s = v) (hown : w.ownsRow base e size v k xs) (ad : Addr) (m c : Nat) (news : List Value) (hx : a.eval x = .slice (some ad) m c) (hn : news.length = m * size)
  (hc : ∀ j u, news[j]? = some u → w.cell? (ad.add j) = some u) (h1c : ∀ u ∈ news, u.oneCell' = true) (b1 : k + m ≤ maxLen) (b2 : (k + m) * bytes ≤ 140737488355328) (b3 : base ≤ w.heap.size)
  (hK : ∀ v' w', w'.ownsRow base e size v' (k + m) (xs ++ news) → w.grownBy w' v.ownBlock → (v'.ownBlock = v.ownBlock ∨ v'.ownBlock = some w.heap.size) → wpListIn F n P ops Q rest (a.put o.dst v') w') :
  wpListIn F n P ops Q (o :: rest) a w := by
 refine wpListIn_plain hg fun K hK' => ?_
 obtain ⟨v', w', hrun, r1, r2, r3⟩ := run_append_fresh (P := P) w base t o.type e i z size bytes h1 h2 h3 h4 h5 h6 h7 v k xs hown ad m c news hn hc h1c b1 b2 b3
 unfold Oper.wpIn
 refine ⟨?_, ?_⟩
 ·simp [Oper.about, hop, resolve, Target.leads, Sem.run_pure]
 ·rw [Oper.semAt_plain F _ _ (by rw [hop]; intro c hc'; cases hc')]
  simp [execOp, hop, resolve, invoke, builtin, hs, hx, hrun, Result.andThen]
  exact hK' _ _ (hK v' w' r1 r2 r3)
def rowEx (n8 : Nat) (t : TypeId) (X : World) (k : Nat) : Prop := ∃ v : Value, X.heap[n8]? = some (.cells #[v] t (0, 0)) ∧ v.ownBlock = some k
structure RowX (t e : TypeId) (size : Nat) (o1 o2 : Obj) (w : World) (n8 b1 b2 : Nat) (n : Nat) (xs : List Value) (X : World) : Prop where
 b : Below w.heap.size w X
 row : ∃ v : Value, X.heap[n8]? = some (.cells #[v] t (0, 0)) ∧ X.ownsRow w.heap.size e size v n xs ∧ v.ownBlock ≠ some b1 ∧ v.ownBlock ≠ some b2
 d1 : X.heap[b1]? = some o1
 d2 : X.heap[b2]? = some o2
 lo : w.heap.size ≤ n8 ∧ n8 < b1 ∧ b1 < b2
theorem ownsRow_stay {m base n size : Nat} {e : TypeId} {v : Value} {xs : List Value} {X X' : World} (h : X.ownsRow base e size v n xs) (hs : Stay m X X') : X'.ownsRow base e size v n xs := by
 refine ⟨h.1, ?_⟩
 rcases h.2 with h | ⟨g, cap, cur, q1, q2, q3, q4⟩
 ·exact .inl h
 ·exact .inr ⟨g, cap, cur, q1, q2, hs.cells _ _ rfl q3, q4⟩
theorem ownBlock_lt {base n size : Nat} {e : TypeId} {v : Value} {xs : List Value} {X : World} (h : X.ownsRow base e size v n xs) {k : Nat} (hk : v.ownBlock = some k) : k < X.heap.size := by
 rcases h.2 with ⟨rfl, -⟩ | ⟨g, cap, cur, rfl, q2, q3, q4⟩
 ·cases hk
 ·obtain rfl : g = k := by simpa [Value.ownBlock] using hk
  exact (Array.getElem?_eq_some_iff.1 q3).1
section
variable {t e : TypeId} {size : Nat} {o1 o2 : Obj} {w : World} {n8 b1 b2 : Nat} {n : Nat} {xs : List Value} {X : World}
theorem RowX.stay {m : Nat} {X' : World} (h : RowX t e size o1 o2 w n8 b1 b2 n xs X) (h1 : o1.isCells = true) (h2 : o2.isCells = true) (hs : Stay m X X') (hm : w.heap.size ≤ m) : RowX t e size o1 o2 w n8 b1 b2 n xs X' := by
 obtain ⟨v, r1, r2, r3⟩ := h.row
 exact ⟨h.b.trans (hs.below.mono hm), ⟨v, hs.cells _ _ rfl r1, ownsRow_stay r2 hs, r3⟩, hs.cells _ _ h1 h.d1, hs.cells _ _ h2 h.d2, h.lo⟩
theorem RowX.exl (h : RowX t e size o1 o2 w n8 b1 b2 n xs X) (k : Nat) (hk : rowEx n8 t X k) : k < X.heap.size := by
 obtain ⟨v, r1, r2, r3⟩ := h.row
 obtain ⟨u, u1, u2⟩ := hk
 rw [r1] at u1
 cases u1
 exact ownBlock_lt r2 u2
theorem RowX.step {tmp : Obj} {v v' : Value} {m : Nat} {ys : List Value} {w1 : World} (h : RowX t e size o1 o2 w n8 b1 b2 n xs X) (hv : X.heap[n8]? = some (.cells #[v] t (0, 0))) (hte : t ≠ e)
  (hown' : w1.ownsRow w.heap.size e size v' m ys) (hgrow : (X.alloc tmp).grownBy w1 v.ownBlock) (hfr : v'.ownBlock = v.ownBlock ∨ v'.ownBlock = some (X.alloc tmp).heap.size) :
  RowX t e size o1 o2 w n8 b1 b2 m ys (w1.setCell ⟨n8, 0, none⟩ v') ∧ ∀ B, n8 < B → KeepX (rowEx n8 t) B X (w1.setCell ⟨n8, 0, none⟩ v') := by
 obtain ⟨v0, r1, r2, r3, r4⟩ := h.row
 rw [hv] at r1
 cases r1
 have hlo := h.lo
 have hbs := h.b.size
 have hb2 : b2 < X.heap.size := (Array.getElem?_eq_some_iff.1 h.d2).1
 have hb1 : b1 < X.heap.size := (Array.getElem?_eq_some_iff.1 h.d1).1
 obtain ⟨q1, q2, q3, q4, q5⟩ := Boxed.appended (W := X) (B := n8) (n₀ := w.heap.size) hv hte r2 hbs hlo.1 hown' hgrow
 have hsz : X.heap.size < (X.alloc tmp).heap.size := by simp
 have hk : ∀ k, k < X.heap.size → k ≠ n8 → v.ownBlock ≠ some k → (w1.setCell ⟨n8, 0, none⟩ v').heap[k]? = X.heap[k]? := fun k hk hn hx => by
  rw [Below.heap_setCell w1 ⟨n8, 0, none⟩ v' k hn, hgrow.block k (by omega) (fun e => hx e.symm)]
  exact ((Below.refl X.heap.size X).alloc (Nat.le_refl _) tmp).block k hk
 have hne : ∀ k, k < X.heap.size → v.ownBlock ≠ some k → v'.ownBlock ≠ some k := fun k hk hx e => by
  rcases hfr with h1 | h1
  ·exact hx (h1.symm.trans e)
  ·rw [h1] at e; cases e; omega
 refine ⟨⟨h.b.trans q5, ⟨v', q2, q3, hne _ hb1 r3, hne _ hb2 r4⟩, (hk _ hb1 (by omega) r3).trans h.d1, (hk _ hb2 (by omega) r4).trans h.d2, hlo⟩, fun B hB => ⟨q5.size, fun k hB2 hlt hx => ?_⟩⟩
 have hxv : v.ownBlock ≠ some k := fun e => hx ⟨v, hv, e⟩
 refine ⟨hk k hlt (by omega) hxv, ?_⟩
 rintro ⟨u, u1, u2⟩
 rw [show (w1.setCell ⟨n8, 0, none⟩ v').heap[n8]? = some (.cells #[v'] t (0, 0)) from q2] at u1
 cases u1
 exact hne k hlt hxv u2
end
end Go.Proofs.YtloijngccppfgaaGreat.F
end

section
namespace Go.Proofs.YtloijngccppfgaaGreat.F
open Go.RowKit Go.Proofs.YtloijngccppfgaaGreatW.PrintWords Go.Proofs.YtloijngccppfgaaGreatW.PrintLast Go.Proofs.YtloijngccppfgaaGreatW.PrintMore
structure StayE (E : Nat → Prop) (n : Nat) (X X' : World) : Prop where
 os : X'.os = X.os
 tape : X'.tape = X.tape
 output : X'.output = X.output
 size : X.heap.size ≤ X'.heap.size
 block : ∀ k, k < n → ¬ E k → X'.heap[k]? = X.heap[k]?
 cells : ∀ (k : Nat) (o : Obj), ¬ E k → o.isCells = true → X.heap[k]? = some o → X'.heap[k]? = some o
theorem StayE.refl (E : Nat → Prop) (n : Nat) (X : World) : StayE E n X X := ⟨rfl, rfl, rfl, Nat.le_refl _, fun _ _ _ => rfl, fun _ _ _ _ e => e⟩
theorem StayE.trans {E : Nat → Prop} {n : Nat} {X Y Z : World} (h : StayE E n X Y) (k : StayE E n Y Z) : StayE E n X Z := ⟨k.os.trans h.os, k.tape.trans h.tape, k.output.trans h.output, Nat.le_trans h.size k.size, fun i hi he => (k.block i hi he).trans (h.block i hi he), fun i o he ho e => k.cells i o he ho (h.cells i o he ho e)⟩
theorem StayE.mono {E : Nat → Prop} {n m : Nat} {X X' : World} (h : StayE E m X X') (hn : n ≤ m) : StayE E n X X' := ⟨h.os, h.tape, h.output, h.size, fun k hk => h.block k (Nat.lt_of_lt_of_le hk hn), h.cells⟩
theorem StayE.of_stay {E : Nat → Prop} {n : Nat} {X X' : World} (h : Stay n X X') : StayE E n X X' := ⟨h.below.os, h.below.tape, h.below.output, h.below.size, fun k hk _ => h.below.block k hk, fun k o _ => h.cells k o⟩
structure KeepE (E : Nat → Prop) (X X' : World) : Prop where
 os : X'.os = X.os
 tape : X'.tape = X.tape
 output : X'.output = X.output
 size : X.heap.size ≤ X'.heap.size
 block : ∀ k, k < X.heap.size → ¬ E k → X'.heap[k]? = X.heap[k]?
theorem KeepE.refl (E : Nat → Prop) (X : World) : KeepE E X X := ⟨rfl, rfl, rfl, Nat.le_refl _, fun _ _ _ => rfl⟩
theorem KeepE.trans {E : Nat → Prop} {X Y Z : World} (h : KeepE E X Y) (k : KeepE E Y Z) : KeepE E X Z := ⟨k.os.trans h.os, k.tape.trans h.tape, k.output.trans h.output, Nat.le_trans h.size k.size, fun i hi he => (k.block i (Nat.lt_of_lt_of_le hi h.size) he).trans (h.block i hi he)⟩
theorem KeepE.of_below {E : Nat → Prop} {n : Nat} {X X' : World} (h : Below n X X') (hn : X.heap.size ≤ n) : KeepE E X X' := ⟨h.os, h.tape, h.output, h.size, fun k hk _ => h.block k (Nat.lt_of_lt_of_le hk hn)⟩
theorem KeepE.stay {E : Nat → Prop} {n : Nat} {X X' : World} (h : KeepE E X X') (hn : n ≤ X.heap.size) : StayE E n X X' := ⟨h.os, h.tape, h.output, h.size, fun k hk he => h.block k (Nat.lt_of_lt_of_le hk hn) he, fun k _ he _ e => (h.block k (Array.getElem?_eq_some_iff.1 e).1 he).trans e⟩
theorem KeepE.blk {E : Nat → Prop} {X X' : World} (h : KeepE E X X') {k : Nat} {o : Obj} (hk : X.heap[k]? = some o) (he : ¬ E k) : X'.heap[k]? = some o := (h.block k (Array.getElem?_eq_some_iff.1 hk).1 he).trans hk
theorem KeepE.below {E : Nat → Prop} {n : Nat} {X X' : World} (h : KeepE E X X') (hn : n ≤ X.heap.size) (he : ∀ k, k < n → ¬ E k) : Below n X X' := ⟨h.os, h.tape, h.output, h.size, fun k hk => h.block k (Nat.lt_of_lt_of_le hk hn) (he k hk)⟩
theorem KeepE.put {E : Nat → Prop} {g : Nat} (X : World) (he : E g) (a : Nat) (v : Value) : KeepE E X (X.setCell ⟨g, a, none⟩ v) := ⟨rfl, rfl, rfl, by simp [World.setCell], fun k _ hk => Below.heap_setCell X ⟨g, a, none⟩ v k (fun e => hk (by subst e; exact he))⟩
def CalmE (E : Nat → Prop) (Ex : World → Nat → Prop) (n : Nat) : Prop := ∀ X X' : World, (∀ k, k < n → ¬ E k → X'.heap[k]? = X.heap[k]?) → ∀ k, Ex X' k → Ex X k
theorem CalmE.mono {E : Nat → Prop} {Ex : World → Nat → Prop} {n m : Nat} (h : CalmE E Ex n) (hm : n ≤ m) : CalmE E Ex m := fun X X' hb k => h X X' (fun i hi => hb i (Nat.lt_of_lt_of_le hi hm)) k
theorem CalmE.calm {E : Nat → Prop} {Ex : World → Nat → Prop} {n : Nat} (h : CalmE E Ex n) : Calm Ex n := fun X X' hb => h X X' (fun k hk _ => hb.block k hk)
theorem CalmE.stay {E : Nat → Prop} {Ex : World → Nat → Prop} {n m : Nat} (h : CalmE E Ex n) {X X' : World} (hs : StayE E m X X') (hn : n ≤ m) (k : Nat) (hk : Ex X' k) : Ex X k := h X X' (fun i hi => hs.block i (Nat.lt_of_lt_of_le hi hn)) k hk
def IterT {α : Type} (P : Program) (gf : Nat) (lb : Array Value) (VK : α → Array Value → Prop) (S : List α) (E : Nat → Prop) (D : World → Prop) : Prop :=
 ∀ (l : Nat) (J : List α → World → Prop) (Js : World → Prop) (Ex : World → Nat → Prop) (W : World), J [] W → (∀ s X, J s X → D X) → (∀ k, E k → k < W.heap.size) →
  (∀ s X X', J s X → StayE E W.heap.size X X' → D X' → J s X') → (∀ X X', Js X → StayE E W.heap.size X X' → Js X') →
  CalmE E Ex W.heap.size → (∀ s X, J s X → ∀ k, Ex X k → k < X.heap.size) →
  (∀ s v t args X, S = s ++ v :: t → J s X → VK v args → YieldP 0 P l args X fun e X' => KeepX Ex W.heap.size X X' ∧ ((e = .returned (.bool true) ∧ J (s ++ [v]) X') ∨ (e = .returned (.bool false) ∧ Js X'))) →
  CallsIn Fence.wide 0 P gf (#[.func (.yield l) #[] #[]] ++ lb) W fun e W' => ∃ v, e = .returned v ∧ (J S W' ∨ Js W')
def roundT {α : Type} (Ex : World → Nat → Prop) (B : Nat) (J : List α → World → Prop) (Jr : World → Prop) (s : List α) (X : World) : Exit → Act → World → Prop
 | .normal, _, X' => KeepX Ex B X X' ∧ J s X'
 | .ret, _, X' => KeepX Ex B X X' ∧ Jr X'
 | _, _, _ => False
theorem wpB_rangeFuncT {α : Type} {P : Program} {g0 : FuncId} {g : Operand} {ps : Array Tmp} {assign body : Code} {Q : Exit → Act → World → Prop} {a : Act} {w : World}
  {gf : Nat} {lb : Array Value} (hg : a.eval g = .func (.func gf) #[] lb) (eg : ∀ args w, (callFunc gf args).run P w = .ok (.enter gf args) w)
  (hf0 : ∃ f, P.funcs[g0]? = some f)
  {VK : α → Array Value → Prop} {S : List α} {E : Nat → Prop} {D : World → Prop} (hIter : IterT P gf lb VK S E D) (hsz : ∀ v args, VK v args → args.size = ps.size)
  (J : List α → World → Prop) (Jr : World → Prop) (h0 : J [] w) (hD : ∀ s X, J s X → D X) (hDs : ∀ X X', D X → Stay w.heap.size X X' → D X') (hE : ∀ k, E k → k < w.heap.size)
  (Ex : World → Nat → Prop) (hcalm : CalmE E Ex w.heap.size) (hexl : ∀ s X, J s X → ∀ k, Ex X k → k < X.heap.size) (hst : ∀ s X X', J s X → StayE E w.heap.size X X' → D X' → J s X') (hstr : ∀ X X', Jr X → StayE E w.heap.size X X' → Jr X')
  (hround : ∀ (l : Nat) s v t args X, S = s ++ v :: t → w.heap.size ≤ l → l < X.heap.size → J s X → VK v args → assign.wpIn (Fence.wide.inRound l) 0 P (Exit.then (fun a₁ X₁ => Below X.heap.size X X₁ ∧
   ∀ X₂, KeepX Ex (l + 1) X₁ X₂ → Stay l X₁ X₂ → body.wpIn (Fence.wide.inRound l) 0 P (roundT Ex w.heap.size J Jr (s ++ [v]) X₂) a₁ X₂) (fun _ _ _ => False))
   { tmps := (ps.zip args).foldl (fun t (p, v) => t.setIfInBounds p v) a.tmps, defers := [] } X)
  (hdone : ∀ (d : Nat) (W : World), w.heap.size ≤ d → J S W → W.heap[d]? = some (.deferred (some [])) → ¬ Ex W d → Q .normal { a with defers := markOf d :: a.defers } W)
  (hleft : ∀ (d : Nat) (W : World), w.heap.size ≤ d → Jr W → W.heap[d]? = some (.deferred (some [])) → ¬ Ex W d → Q .ret { a with defers := markOf d :: a.defers } W) :
  wpB g0 P (Code.rangeFunc g ps assign body) Q a w := by
 refine wpB_rangeFunc ?_
 obtain ⟨rec, hrec⟩ : ∃ rec : LoopState → Option Code → Loop, rec = fun st pe => { state := st, pending := pe, fn := g0, tmps := a.tmps, params := ps, assign, body, defers := w.heap.size } := ⟨_, rfl⟩
 obtain ⟨W1, hW1⟩ : ∃ W1, (w.alloc (.deferred (some []))).alloc (.loop (rec .ready none)) = W1 := ⟨_, rfl⟩
 have hL1 : W1.heap[w.heap.size + 1]? = some (.loop (rec .ready none)) := by
  rw [← hW1]; have := World.alloc_heap_new (w.alloc (.deferred (some []))) (.loop (rec .ready none)); rwa [World.size_alloc] at this
 have hK1 : W1.heap[w.heap.size]? = some (.deferred (some [])) := by
  rw [← hW1]; exact (Below.heap_alloc _ _ _ (by simp)).trans (World.alloc_heap_new w _)
 have hB1 : Below w.heap.size w W1 := by rw [← hW1]; exact ((Below.refl _ w).alloc (Nat.le_refl _) _).alloc (by simp) _
 have hS1 : W1.heap.size = w.heap.size + 2 := by rw [← hW1]; simp
 have hcb := hcalm.calm
 have hne : ∀ k, w.heap.size ≤ k → ¬ Ex W1 k := fun k hk hx => by have := hexl _ _ h0 k (hcb _ _ hB1 k hx); omega
 have hn1 : ¬ E (w.heap.size + 1) := fun h => by have := hE _ h; omega
 have hn0 : ¬ E w.heap.size := fun h => by have := hE _ h; omega
 have hstay : ∀ s X X', J s X → Stay w.heap.size X X' → J s X' := fun s X X' hj hs => hst s X X' hj (.of_stay hs) (hDs _ _ (hD _ _ hj) hs)
 refine ⟨w.heap.size + 1, [{ target := .collected w.heap.size, args := #[] }], W1, { target := .fn (.func gf) lb, args := #[.func (.yield (w.heap.size + 1)) #[] #[]] }, W1, gf,
  #[.func (.yield (w.heap.size + 1)) #[] #[]] ++ lb, W1, ?_, ?_, ?_, ?_⟩
 ·rw [← hW1, hrec]; exact run_enterLoop_outer _ _ _ _ _
 ·simp only [resolve, hg]
  simp [go_sem]
 ·simp [invoke, go_sem, eg]
 ·refine (hIter (w.heap.size + 1)
   (fun s X => J s X ∧ X.heap[w.heap.size + 1]? = some (.loop (rec .ready none)) ∧ X.heap[w.heap.size]? = some (.deferred (some [])) ∧ ¬ Ex X (w.heap.size + 1) ∧ ¬ Ex X w.heap.size)
   (fun X => Jr X ∧ X.heap[w.heap.size + 1]? = some (.loop (rec .done (some .ret))) ∧ X.heap[w.heap.size]? = some (.deferred (some [])) ∧ ¬ Ex X w.heap.size)
   Ex W1 ⟨hstay _ _ _ h0 (Stay.of_below hB1 (Nat.le_refl _) (Nat.le_refl _)), hL1, hK1, hne _ (by omega), hne _ (Nat.le_refl _)⟩ (fun s X h => hD s X h.1) (fun k hk => by have := hE k hk; omega)
   (fun s X X' h hb hd => ⟨hst _ _ _ h.1 (hb.mono (by omega)) hd, (hb.block _ (by omega) hn1).trans h.2.1, (hb.block _ (by omega) hn0).trans h.2.2.1, fun hx => h.2.2.2.1 (hcalm.stay hb (by omega) _ hx), fun hx => h.2.2.2.2 (hcalm.stay hb (by omega) _ hx)⟩)
   (fun X X' h hb => ⟨hstr _ _ h.1 (hb.mono (by omega)), (hb.block _ (by omega) hn1).trans h.2.1, (hb.block _ (by omega) hn0).trans h.2.2.1, fun hx => h.2.2.2 (hcalm.stay hb (by omega) _ hx)⟩)
   (hcalm.mono (by omega)) (fun s X h => hexl s X h.1) ?_).mono ?_
  ·rintro s v t args X hS ⟨hj, hl, hk, hxl, hxk⟩ hv
   have hlt : w.heap.size + 1 < X.heap.size := (Array.getElem?_eq_some_iff.1 hl).1
   have hy := run_yield (P := P) (args := args) hl (by rw [hrec]; exact hsz v args hv)
   rw [hrec] at hy
   refine ⟨g0, _, assign, body, hy, roundIn_of_wpInP trivial hf0 (wpIn_mono (hround (w.heap.size + 1) s v t args X hS (by omega) hlt hj hv) ?_)⟩
   rintro e a₁ X₁ h1
   cases e with
   | normal =>
    obtain ⟨hb1, hbody⟩ := h1
    have hl1 : X₁.heap[w.heap.size + 1]? = some (.loop (rec .ready none)) := (hb1.block _ hlt).trans hl
    have hlt1 := (Array.getElem?_eq_some_iff.1 hl1).1
    refine ⟨_, run_beginRound hl1 (by rw [hrec]), ?_⟩
    obtain ⟨X₂, hX₂⟩ : ∃ X₂, X₁.putObj (w.heap.size + 1) (.loop { rec .ready none with state := .busy }) = X₂ := ⟨_, rfl⟩
    rw [hX₂]
    have hb02 : Below w.heap.size X X₂ := by rw [← hX₂]; exact (hb1.mono (by omega)).trans (below_putObj (Below.refl _ _) _ (by omega))
    have hxl2 : ¬ Ex X₂ (w.heap.size + 1) := fun hx => hxl (hcb _ _ hb02 _ hx)
    have hxk2 : ¬ Ex X₂ w.heap.size := fun hx => hxk (hcb _ _ hb02 _ hx)
    have hk2 : X₂.heap[w.heap.size]? = some (.deferred (some [])) := by rw [← hX₂]; exact (World.putObj_heap_other (by omega)).trans ((hb1.block _ (by omega)).trans hk)
    have hl2 : X₂.heap[w.heap.size + 1]? = some (.loop { rec .ready none with state := .busy }) := by rw [← hX₂]; exact World.putObj_heap_same hlt1
    have hku : KeepX Ex (w.heap.size + 2) X X₂ := by rw [← hX₂]; exact (KeepX.of_below (B := w.heap.size + 2) hcb hb1 (Nat.le_refl _) (by omega)).trans (KeepX.putObj hcb _ (by omega) (by omega))
    refine wpIn_mono (hbody X₂ (by rw [← hX₂]; exact KeepX.putObj hcb _ (by omega) (by omega)) (by rw [← hX₂]; exact Stay.putObj _ (Nat.le_refl _) (fun _ e => by rw [hl1] at e; cases e; rfl))) ?_
    rintro e₂ a₂ X₃ h2
    cases e₂ with
    | normal =>
     obtain ⟨hk3, hj3⟩ := h2
     obtain ⟨hl3, hxl3⟩ := hk3.blk (by omega) hl2 hxl2
     obtain ⟨hkd3, hxk3⟩ := hk3.blk (Nat.le_refl _) hk2 hxk2
     have hr := run_endRound (P := P) none hl3
     refine ⟨_, _, hr, by rw [hS1]; exact (hku.trans (hk3.mono (by omega))).trans (KeepX.putObj hcb _ (by omega) (by omega)), .inl ⟨rfl, ?_, ?_, ?_, ?_, ?_⟩⟩
     ·exact hstay _ _ _ hj3 (Stay.putObj _ (by omega) (fun _ e => by rw [hl3] at e; cases e; rfl))
     ·rw [World.putObj_heap_same (Array.getElem?_eq_some_iff.1 hl3).1, hrec]; rfl
     ·exact (World.putObj_heap_other (by omega)).trans hkd3
     ·exact fun hx => hxl3 (hcb _ _ (below_putObj (Below.refl _ _) _ (by omega)) _ hx)
     ·exact fun hx => hxk3 (hcb _ _ (below_putObj (Below.refl _ _) _ (by omega)) _ hx)
    | ret =>
     obtain ⟨hk3, hj3⟩ := h2
     obtain ⟨hl3, hxl3⟩ := hk3.blk (by omega) hl2 hxl2
     obtain ⟨hkd3, hxk3⟩ := hk3.blk (Nat.le_refl _) hk2 hxk2
     have hr := run_endRound (P := P) (some .ret) hl3
     refine ⟨_, _, hr, by rw [hS1]; exact (hku.trans (hk3.mono (by omega))).trans (KeepX.putObj hcb _ (by omega) (by omega)), .inr ⟨rfl, ?_, ?_, ?_, ?_⟩⟩
     ·exact hstr _ _ hj3 (.of_stay (Stay.putObj _ (by omega) (fun _ e => by rw [hl3] at e; cases e; rfl)))
     ·rw [World.putObj_heap_same (Array.getElem?_eq_some_iff.1 hl3).1, hrec]; rfl
     ·exact (World.putObj_heap_other (by omega)).trans hkd3
     ·exact fun hx => hxk3 (hcb _ _ (below_putObj (Below.refl _ _) _ (by omega)) _ hx)
    | panic ch => exact h2.elim
    | exit id => exact h2.elim
    | goto t => exact h2.elim
    | outgrown => exact h2.elim
   | exit id => exact h1.elim
   | goto t => exact h1.elim
   | ret => exact h1.elim
   | panic ch => exact h1.elim
   | outgrown => exact h1.elim
  ·rintro e W2 ⟨v, rfl, ⟨hj, hl, hk, hxl, hxk⟩ | ⟨hj, hl, hk, hxk⟩⟩
   ·refine ⟨none, _, by have := run_endLoop (P := P) hl (by rw [hrec]; simp); rw [hrec] at this; exact this, hdone w.heap.size _ (Nat.le_refl _) (hstay _ _ _ hj (Stay.putObj _ (by omega) (fun _ e => by rw [hl] at e; cases e; rfl))) ((World.putObj_heap_other (by omega)).trans hk) (fun hx => hxk (hcb _ _ (below_putObj (Below.refl _ _) _ (by omega)) _ hx))⟩
   ·refine ⟨some .ret, _, by have := run_endLoop (P := P) hl (by rw [hrec]; simp); rw [hrec] at this; exact this, wpIn_ret (hleft w.heap.size _ (Nat.le_refl _) (hstr _ _ hj (.of_stay (Stay.putObj _ (by omega) (fun _ e => by rw [hl] at e; cases e; rfl)))) ((World.putObj_heap_other (by omega)).trans hk) (fun hx => hxk (hcb _ _ (below_putObj (Below.refl _ _) _ (by omega)) _ hx)))⟩
end Go.Proofs.YtloijngccppfgaaGreat.F
end

section
namespace Go.Proofs.YtloijngccppfgaaGreat.Pure
set_option linter.unusedVariables false
open Go.RowKit Go.Proofs.YtloijngccppfgaaGreat.F Go.Proofs.YtloijngccppfgaaGreatW.PrintWords Go.Proofs.YtloijngccppfgaaGreatW.PrintLast
theorem facts_iff (p : List S39) (l : List S50) : factsB p l = true ↔ (l.length = p.length ∧ rightB p = true ∧ ∀ j, j < l.length → factOk p l j = true) := by
 unfold factsB
 simp only [Bool.and_eq_true, decide_eq_true_eq, List.all_eq_true, List.mem_range'_1]
 constructor
 ·rintro ⟨h1, h2, h3⟩; exact ⟨h1, h2, fun j hj => h3 j (by omega)⟩
 ·rintro ⟨h1, h2, h3⟩; exact ⟨h1, h2, fun j hj => h3 j (by omega)⟩
end Go.Proofs.YtloijngccppfgaaGreat.Pure
end

section
namespace Go.Proofs.YtloijngccppfgaaGreat.Pure
set_option linter.unusedVariables false
set_option linter.unusedSectionVars false
open Go.RowKit Go.Proofs.YtloijngccppfgaaGreat.F Go.Proofs.YtloijngccppfgaaGreatW.PrintWords Go.Proofs.YtloijngccppfgaaGreatW.PrintLast
theorem rd_item {l : List S39} {i : Nat} (hl : i < l.length) : rd_T39 l (i : Int) = l[i] := by unfold rd_T39; rw [Int.toNat_natCast, List.getD_eq_getElem?_getD, List.getElem?_eq_getElem hl]; rfl
section
variable {Q : S39 → Prop} (hQ : ∀ (x : S39) (m : List Int), Q x → Q ⟨x.f0, x.f1, x.f2, x.f3, x.f4, x.f5, x.f6, m⟩)
 (hN : ∀ (x : S112) (inn alt : Int), fitsS x = true → Q ⟨x.f0, x.f1, x.f3, x.f4, (x.f5.length : Int), inn, alt, []⟩)
def QA (Q : S39 → Prop) (l : List S39) : Prop := ∀ x ∈ l, Q x
theorem QA.snoc {l : List S39} (h : QA Q l) {x : S39} (hx : Q x) : QA Q (l ++ [x]) := by
 intro y hy
 rcases List.mem_append.1 hy with hy | hy
 ·exact h y hy
 ·rw [List.mem_singleton.1 hy]; exact hx
include hQ in
theorem QA.after {l : List S39} (h : QA Q l) (a k : Int) : QA Q (addAfter l a k) := by
 intro y hy
 unfold addAfter at hy
 by_cases hl : a.toNat < l.length
 ·have hr : rd_T39 l a = l[a.toNat] := by unfold rd_T39; rw [List.getD_eq_getElem?_getD, List.getElem?_eq_getElem hl]; rfl
  rcases List.mem_or_eq_of_mem_set hy with hy | hy
  ·exact h y hy
  ·rw [hy]; exact hQ _ _ (by rw [hr]; exact h _ (List.getElem_mem hl))
 ·rw [List.set_eq_of_length_le (by omega)] at hy
  exact h y hy
include hQ in
theorem QA.arcs (b : List S112) (ats : List Int) (a : Int) : ∀ (s : List ByteArray) (l : List S39), QA Q l → QA Q (arcsTo b ats a s l)
 | [], _, h => h
 | x :: s, l, h => by rw [arcsTo]; exact QA.arcs b ats a s _ (QA.after hQ h _ _)
include hQ in
theorem QA.pass2 (b : List S112) (ats : List Int) : ∀ (n : List S112) (i : Nat) (l : List S39), QA Q l → QA Q (F.pass2 b ats i n l)
 | [], _, _, h => h
 | x :: n, i, l, h => by rw [F.pass2]; exact QA.pass2 b ats n (i + 1) _ (QA.arcs hQ _ _ _ _ _ h)
theorem fits_alts {nm un : ByteArray} {af : List ByteArray} {sb vi : Bool} {al : List (SB110 S112)} (h : fitsS ⟨nm, un, af, sb, vi, al⟩ = true) : altsFit al = true ∧ (sb = false → al = []) ∧ (sb = true → 0 < al.length) := by
 unfold fitsS at h
 split at h
 ·cases h
 ·cases sb with
  | true =>
   simp only [if_true, Bool.and_eq_true, decide_eq_true_eq] at h
   exact ⟨h.2.1, fun e => (by cases e), fun _ => h.2.2⟩
  | false =>
   simp only [Bool.false_eq_true, if_false, Bool.and_eq_true, decide_eq_true_eq] at h
   obtain rfl := List.length_eq_zero_iff.1 h.2.1
   exact ⟨by unfold altsFit; rfl, fun _ => rfl, fun e => by cases e⟩
include hQ hN in
mutual
theorem QA.node (inn alt : Int) (out : List S39) (h : QA Q out) : ∀ x : S112, fitsS x = true → QA Q (flNode inn alt out x)
 | ⟨nm, un, af, sb, vi, al⟩, hf => by
  unfold flNode
  exact QA.alts _ _ _ (QA.snoc h (hN ⟨nm, un, af, sb, vi, al⟩ inn alt hf)) al (fits_alts hf).1
theorem QA.nodes (inn alt : Int) (out : List S39) (nums : List Int) (h : QA Q out) : ∀ l : List S112, nodesFit l = true → QA Q (flNodes inn alt out nums l).1
 | [], _ => by simpa [flNodes] using h
 | x :: l, hf => by
  unfold nodesFit at hf
  rw [Bool.and_eq_true] at hf
  unfold flNodes
  exact QA.nodes inn alt _ _ (QA.node inn alt out h x hf.1) l hf.2
theorem QA.body (inn alt : Int) (out : List S39) (h : QA Q out) : ∀ b : SB110 S112, bodyFits b = true → QA Q (flBody inn alt out b)
 | ⟨l⟩, hf => by
  unfold bodyFits at hf
  unfold flBody
  exact QA.pass2 hQ _ _ _ _ _ (QA.nodes inn alt out [] h l hf)
theorem QA.alts (inn alt : Int) (out : List S39) (h : QA Q out) : ∀ l : List (SB110 S112), altsFit l = true → QA Q (flAlts inn alt out l)
 | [], _ => by simpa [flAlts] using h
 | b :: l, hf => by
  unfold altsFit at hf
  rw [Bool.and_eq_true] at hf
  unfold flAlts
  exact QA.alts inn (alt + 1) _ (QA.body inn alt out h b hf.1) l hf.2
end
end
theorem eqAll_get {α β : Type} (p : α → β → Bool) : ∀ (l : List α) (m : List β), eqAll p l m = true → l.length = m.length ∧ ∀ (i : Nat) (h1 : i < l.length) (h2 : i < m.length), p l[i] m[i] = true
 | [], [], _ => ⟨rfl, fun i h1 _ => by simp at h1⟩
 | x :: l, y :: m, h => by
  unfold eqAll at h
  rw [Bool.and_eq_true] at h
  have ih := eqAll_get p l m h.2
  refine ⟨by simp [ih.1], fun i h1 h2 => ?_⟩
  cases i with
  | zero => exact h.1
  | succ i => exact ih.2 i (by simpa using h1) (by simpa using h2)
 | [], _ :: _, h => by unfold eqAll at h; cases h
 | _ :: _, [], h => by unfold eqAll at h; cases h
def ItemQ (x : S39) : Prop := (x.f2 = false → x.f4 = 0) ∧ (x.f2 = true → 1 ≤ x.f4)
theorem right_saga {p : List S39} (h : rightB p = true) : shapedB p = true ∧ checkB (nameP p) (sagaOf p) = true ∧ p.length = (makeL (nameP p) (sagaOf p)).length ∧ ∀ (i : Nat) (h1 : i < p.length) (h2 : i < (makeL (nameP p) (sagaOf p)).length), alikeB p[i] (makeL (nameP p) (sagaOf p))[i] = true := by
 unfold rightB at h
 simp only [Bool.and_eq_true] at h
 exact ⟨h.1, h.2.1, (eqAll_get _ _ _ h.2.2).1, (eqAll_get _ _ _ h.2.2).2⟩
theorem check_fits {nm : ByteArray} {l : List BodyK} (h : checkB nm l = true) : altsFit l = true ∧ 0 < l.length := by
 have h1 := (check_small h).2.2.2.2.2
 unfold checkI at h1
 split at h1
 ·split at h1
  ·omega
  ·split at h1
   ·omega
   ·split at h1
    ·rename_i hb
     unfold bodiesOk at hb
     rw [Bool.and_eq_true, decide_eq_true_eq] at hb
     exact hb
    ·omega
 ·omega
theorem right_items {p : List S39} (h : rightB p = true) (i : Nat) (hi : i < p.length) : ItemQ (rd_T39 p (i : Int)) := by
 obtain ⟨h1, h2, h3, h4⟩ := right_saga h
 have hf := check_fits h2
 have hm : QA ItemQ (makeL (nameP p) (sagaOf p)) := by
  unfold makeL
  refine QA.alts (fun x m hx => hx) (fun x inn alt hx => ?_) 0 0 _ ?_ _ hf.1
  ·obtain ⟨nm, un, af, sb, vi, al⟩ := x
   obtain ⟨-, k1, k2⟩ := fits_alts hx
   refine ⟨fun e => ?_, fun e => ?_⟩
   ·have := k1 e
    simp [this]
   ·have := k2 e
    show 1 ≤ (al.length : Int)
    omega
  ·intro x hx
   rw [List.mem_singleton.1 hx]
   refine ⟨fun e => (by cases e), fun _ => ?_⟩
   show 1 ≤ ((sagaOf p).length : Int)
   omega
 have h5 := h4 i hi (by omega)
 have h6 := hm _ (List.getElem_mem (show i < (makeL (nameP p) (sagaOf p)).length by omega))
 rw [rd_item hi]
 unfold alikeB at h5
 simp only [Bool.and_eq_true, beq_iff_eq, decide_eq_true_eq] at h5
 unfold ItemQ at h6 ⊢
 rw [h5.2.2.1, h5.2.2.2.2.1]
 exact h6
theorem item_in {p : List S39} (h : rightB p = true) (i : Nat) (hi : i < p.length) (h0 : i ≠ 0) : ∃ a k : Nat, (rd_T39 p (i : Int)).f5 = a ∧ (rd_T39 p (i : Int)).f6 = k ∧ a < i ∧ (k : Int) < (rd_T39 p (a : Int)).f4 ∧ (rd_T39 p (a : Int)).f2 = true := by
 obtain ⟨h1, -⟩ := right_saga h
 have h2 := itemB_in (shaped_at h1 hi) h0
 rw [← rd_item hi] at h2
 obtain ⟨a, ha⟩ := Int.eq_ofNat_of_zero_le h2.1
 obtain ⟨k, hk⟩ := Int.eq_ofNat_of_zero_le h2.2.2.1
 rw [ha] at h2
 rw [hk] at h2
 have hal : a < p.length := by omega
 have h3 := right_items h a hal
 refine ⟨a, k, ha, hk, by omega, h2.2.2.2, ?_⟩
 cases hs : (rd_T39 p (a : Int)).f2
 ·have := h3.1 hs
  have := h2.2.2.2
  omega
 ·rfl
end Go.Proofs.YtloijngccppfgaaGreat.Pure
end

section
namespace Go.Proofs.YtloijngccppfgaaGreat.Pure
set_option linter.unusedVariables false
open Go.RowKit Go.Proofs.YtloijngccppfgaaGreat.F Go.Proofs.YtloijngccppfgaaGreatW.PrintWords Go.Proofs.YtloijngccppfgaaGreatW.PrintLast
abbrev I_ (p : List S39) (i : Nat) : S39 := rd_T39 p (i : Int)
abbrev L_ (l : List S50) (i : Nat) : S50 := rd_T50 l (i : Int)
theorem sagaS_tc (n : Nat) (f : Nat → By) (x : Fl) : (sagaS n f x).tc = x.tc := by unfold sagaS; split <;> rfl
theorem sagaS_ha (n : Nat) (f : Nat → By) (x : Fl) : (sagaS n f x).ha = x.ha := by unfold sagaS; split <;> rfl
def kid (p : List S39) (i a k : Nat) : Prop := i ≠ 0 ∧ (I_ p i).f5.toNat = a ∧ (I_ p i).f6.toNat = k
def flLow (t : Bool) : Fl := ⟨false, t, false, false, false, 0⟩
structure DownAt (p : List S39) (l : List S50) (m : Nat) (s : St) : Prop where
 fa : ∀ a k, (s.bo a k).fa = true ↔ ∃ i, m ≤ i ∧ i < p.length ∧ kid p i a k ∧ ((L_ l i).f0 = 3 ∨ ((I_ p i).f3 = true ∧ (s.it i).sp = true))
 cl : ∀ a k, (s.bo a k).cl = true ↔ ∀ i, m ≤ i → i < p.length → kid p i a k → (s.it i).cl = true
 wh : ∀ a k, (s.bo a k).wh = true ↔ ∀ i, m ≤ i → i < p.length → kid p i a k → ((s.it i).dn = true ∨ ((s.it i).sp = true ∧ (I_ p i).f3 = false))
 tc : ∀ a, (a < m ∨ (I_ p a).f2 = true) → ((s.it a).tc = true ↔ ∃ i, m ≤ i ∧ i < p.length ∧ i ≠ 0 ∧ (I_ p i).f5.toNat = a ∧ (s.it i).tc = true)
 step : ∀ i, m ≤ i → i < p.length → (I_ p i).f2 = false → s.it i = stepS (L_ l i)
 saga : ∀ i, m ≤ i → i < p.length → (I_ p i).f2 = true → s.it i = sagaS (I_ p i).f4.toNat (s.bo i) (flLow (s.it i).tc)
 low : ∀ a, a < m → s.it a = flLow (s.it a).tc
def InP (p : List S39) : Prop := ∀ i, i < p.length → i ≠ 0 → (I_ p i).f5.toNat < i ∧ (I_ p (I_ p i).f5.toNat).f2 = true
theorem down_start (p : List S39) (l : List S50) : DownAt p l p.length stA where
 fa := fun a k => ⟨fun h => (by cases h), fun ⟨i, h1, h2, _⟩ => by omega⟩
 cl := fun a k => ⟨fun _ i h1 h2 => by omega, fun _ => rfl⟩
 wh := fun a k => ⟨fun _ i h1 h2 => by omega, fun _ => rfl⟩
 tc := fun a _ => ⟨fun h => (by cases h), fun ⟨i, h1, h2, _⟩ => by omega⟩
 step := fun i h1 h2 => by omega
 saga := fun i h1 h2 => by omega
 low := fun a _ => rfl
def ownF (p : List S39) (l : List S50) (s : St) (m : Nat) : Fl := if (I_ p m).f2 then sagaS (I_ p m).f4.toNat (s.bo m) (s.it m) else stepS (L_ l m)
theorem turn_own (p : List S39) (l : List S50) (s : St) (m : Nat) : turnS p l s m = if m = 0 then s.setIt m (ownF p l s m) else handS (I_ p m).f3 (L_ l m).f0 (ownF p l s m) (s.setIt m (ownF p l s m)) (I_ p m).f5.toNat (I_ p m).f6.toNat := by
 have e : ∀ f : Fl, (s.setIt m f).it m = f := fun f => by unfold St.setIt; exact if_pos rfl
 unfold turnS ownF
 by_cases h : (rd_T39 p (m : Int)).f2 = true
 ·rw [if_pos h, if_pos h]; simp only [e]
 ·rw [if_neg h, if_neg h]; simp only [e]
theorem own_tc {p : List S39} {l : List S50} {s : St} {m : Nat} (h : (I_ p m).f2 = true) : (ownF p l s m).tc = (s.it m).tc := by
 unfold ownF
 rw [if_pos h, sagaS_tc]
theorem own_saga {p : List S39} {l : List S50} {s : St} {m : Nat} (h : (I_ p m).f2 = true) (hl : s.it m = flLow (s.it m).tc) : ownF p l s m = sagaS (I_ p m).f4.toNat (s.bo m) (flLow (s.it m).tc) := by
 unfold ownF
 rw [if_pos h, ← hl]
theorem own_step {p : List S39} {l : List S50} {s : St} {m : Nat} (h : (I_ p m).f2 = false) : ownF p l s m = stepS (L_ l m) := by
 unfold ownF
 rw [if_neg (by simp [h])]
theorem down_last {p : List S39} {l : List S50} {s : St} (h : DownAt p l 1 s) (hn : 0 < p.length) : DownAt p l 0 (turnS p l s 0) := by
 rw [turn_own, if_pos rfl]
 have e0 : ∀ f : Fl, (s.setIt 0 f).it 0 = f := fun f => by unfold St.setIt; simp
 have e1 : ∀ (f : Fl) (i : Nat), i ≠ 0 → (s.setIt 0 f).it i = s.it i := fun f i hi => by unfold St.setIt; exact if_neg hi
 have eb : ∀ (f : Fl), (s.setIt 0 f).bo = s.bo := fun f => rfl
 have hl := h.low 0 (by omega)
 constructor
 ·intro a k
  rw [eb, h.fa a k]
  constructor
  ·rintro ⟨i, h1, h2, h3, h4⟩
   exact ⟨i, by omega, h2, h3, by rw [e1 _ _ h3.1]; exact h4⟩
  ·rintro ⟨i, h1, h2, h3, h4⟩
   have := h3.1
   exact ⟨i, by omega, h2, h3, by rw [e1 _ _ h3.1] at h4; exact h4⟩
 ·intro a k
  rw [eb, h.cl a k]
  constructor
  ·intro g i h1 h2 h3
   have := h3.1
   rw [e1 _ _ h3.1]
   exact g i (by omega) h2 h3
  ·intro g i h1 h2 h3
   have := g i (by omega) h2 h3
   rwa [e1 _ _ h3.1] at this
 ·intro a k
  rw [eb, h.wh a k]
  constructor
  ·intro g i h1 h2 h3
   have := h3.1
   rw [e1 _ _ h3.1]
   exact g i (by omega) h2 h3
  ·intro g i h1 h2 h3
   have := g i (by omega) h2 h3
   rwa [e1 _ _ h3.1] at this
 ·intro a ha
  have ha2 : (I_ p a).f2 = true := by
   rcases ha with ha | ha
   ·omega
   ·exact ha
  have e : ((s.setIt 0 (ownF p l s 0)).it a).tc = (s.it a).tc := by
   by_cases hz : a = 0
   ·subst hz; rw [e0, own_tc ha2]
   ·rw [e1 _ _ hz]
  rw [e, h.tc a (.inr ha2)]
  constructor
  ·rintro ⟨i, h1, h2, h3, h4, h5⟩
   exact ⟨i, by omega, h2, h3, h4, by rw [e1 _ _ h3]; exact h5⟩
  ·rintro ⟨i, h1, h2, h3, h4, h5⟩
   exact ⟨i, by omega, h2, h3, h4, by rw [e1 _ _ h3] at h5; exact h5⟩
 ·intro i h1 h2 h3
  by_cases hz : i = 0
  ·subst hz; rw [e0, own_step h3]
  ·rw [e1 _ _ hz]; exact h.step i (by omega) h2 h3
 ·intro i h1 h2 h3
  rw [eb]
  by_cases hz : i = 0
  ·subst hz; rw [e0, own_tc h3]; exact own_saga h3 hl
  ·rw [e1 _ _ hz]; exact h.saga i (by omega) h2 h3
 ·intro a ha; omega
theorem down_turn {p : List S39} {l : List S50} {s : St} {m : Nat} (hI : InP p) (h : DownAt p l (m + 1) s) (hm : m < p.length) : DownAt p l m (turnS p l s m) := by
 by_cases hz : m = 0
 ·subst hz; exact down_last h hm
 rw [turn_own, if_neg hz]
 obtain ⟨hin1, hin2⟩ := hI m hm hz
 have hl := h.low m (by omega)
 generalize hF : ownF p l s m = F
 generalize ha0 : (I_ p m).f5.toNat = a0 at hin1 hin2 ⊢
 generalize hk0 : (I_ p m).f6.toNat = k0
 have em : (handS (I_ p m).f3 (L_ l m).f0 F (s.setIt m F) a0 k0).it m = F := by
  unfold handS St.setIt St.setBo
  dsimp only
  rw [if_neg (by omega), if_pos rfl]
 have ei : ∀ i, i ≠ m → i ≠ a0 → (handS (I_ p m).f3 (L_ l m).f0 F (s.setIt m F) a0 k0).it i = s.it i := fun i h1 h2 => by
  unfold handS St.setIt St.setBo
  dsimp only
  rw [if_neg h2, if_neg h1]
 have ea : (handS (I_ p m).f3 (L_ l m).f0 F (s.setIt m F) a0 k0).it a0 = (s.it a0).touch F.tc := by
  unfold handS St.setIt St.setBo
  dsimp only
  rw [if_pos rfl, if_neg (by omega)]
 have eb0 : (handS (I_ p m).f3 (L_ l m).f0 F (s.setIt m F) a0 k0).bo a0 k0 = handB (I_ p m).f3 (L_ l m).f0 F (s.bo a0 k0) := by
  unfold handS St.setIt St.setBo
  dsimp only
  rw [if_pos ⟨rfl, rfl⟩]
 have eb : ∀ a k, ¬ (a = a0 ∧ k = k0) → (handS (I_ p m).f3 (L_ l m).f0 F (s.setIt m F) a0 k0).bo a k = s.bo a k := fun a k hn => by
  unfold handS St.setIt St.setBo
  dsimp only
  rw [if_neg hn]
 generalize hS : handS (I_ p m).f3 (L_ l m).f0 F (s.setIt m F) a0 k0 = s' at em ei ea eb0 eb ⊢
 have hkm : kid p m a0 k0 := ⟨hz, ha0, hk0⟩
 have hkm' : ∀ {a k}, kid p m a k → a = a0 ∧ k = k0 := fun hk => ⟨by rw [← hk.2.1, ha0], by rw [← hk.2.2, hk0]⟩
 have eg : ∀ i, m < i → s'.it i = s.it i := fun i hi => ei i (by omega) (by omega)
 constructor
 ·intro a k
  by_cases hak : a = a0 ∧ k = k0
  ·obtain ⟨rfl, rfl⟩ := hak
   rw [eb0]
   unfold handB
   simp only [Bool.or_eq_true, Bool.and_eq_true, beq_iff_eq]
   rw [h.fa a k]
   constructor
   ·rintro (⟨i, h1, h2, h3, h4⟩ | h4)
    ·exact ⟨i, by omega, h2, h3, by rw [eg i (by omega)]; exact h4⟩
    ·exact ⟨m, Nat.le_refl _, hm, hkm, by rw [em]; exact h4⟩
   ·rintro ⟨i, h1, h2, h3, h4⟩
    by_cases him : i = m
    ·subst him
     rw [em] at h4
     exact .inr h4
    ·exact .inl ⟨i, by omega, h2, h3, by rw [eg i (by omega)] at h4; exact h4⟩
  ·rw [eb a k hak, h.fa a k]
   constructor
   ·rintro ⟨i, h1, h2, h3, h4⟩
    exact ⟨i, by omega, h2, h3, by rw [eg i (by omega)]; exact h4⟩
   ·rintro ⟨i, h1, h2, h3, h4⟩
    by_cases him : i = m
    ·subst him; exact absurd (hkm' h3) hak
    ·exact ⟨i, by omega, h2, h3, by rw [eg i (by omega)] at h4; exact h4⟩
 ·intro a k
  by_cases hak : a = a0 ∧ k = k0
  ·obtain ⟨rfl, rfl⟩ := hak
   rw [eb0]
   unfold handB
   simp only [Bool.and_eq_true]
   rw [h.cl a k]
   constructor
   ·rintro ⟨g1, g2⟩ i h1 h2 h3
    by_cases him : i = m
    ·subst him; rw [em]; exact g2
    ·rw [eg i (by omega)]; exact g1 i (by omega) h2 h3
   ·intro g
    refine ⟨fun i h1 h2 h3 => ?_, ?_⟩
    ·have := g i (by omega) h2 h3
     rwa [eg i (by omega)] at this
    ·have := g m (Nat.le_refl _) hm hkm
     rwa [em] at this
  ·rw [eb a k hak, h.cl a k]
   constructor
   ·intro g i h1 h2 h3
    by_cases him : i = m
    ·subst him; exact absurd (hkm' h3) hak
    ·rw [eg i (by omega)]; exact g i (by omega) h2 h3
   ·intro g i h1 h2 h3
    have := g i (by omega) h2 h3
    rwa [eg i (by omega)] at this
 ·intro a k
  by_cases hak : a = a0 ∧ k = k0
  ·obtain ⟨rfl, rfl⟩ := hak
   rw [eb0]
   unfold handB
   simp only [Bool.and_eq_true, Bool.or_eq_true, Bool.not_eq_true']
   rw [h.wh a k]
   constructor
   ·rintro ⟨g1, g2⟩ i h1 h2 h3
    by_cases him : i = m
    ·subst him; rw [em]; exact g2
    ·rw [eg i (by omega)]; exact g1 i (by omega) h2 h3
   ·intro g
    refine ⟨fun i h1 h2 h3 => ?_, ?_⟩
    ·have := g i (by omega) h2 h3
     rwa [eg i (by omega)] at this
    ·have := g m (Nat.le_refl _) hm hkm
     rwa [em] at this
  ·rw [eb a k hak, h.wh a k]
   constructor
   ·intro g i h1 h2 h3
    by_cases him : i = m
    ·subst him; exact absurd (hkm' h3) hak
    ·rw [eg i (by omega)]; exact g i (by omega) h2 h3
   ·intro g i h1 h2 h3
    have := g i (by omega) h2 h3
    rwa [eg i (by omega)] at this
 ·intro a ha
  have ht := h.tc a (by rcases ha with ha | ha; exact .inl (by omega); exact .inr ha)
  by_cases haa : a = a0
  ·subst haa
   rw [ea]
   unfold Fl.touch
   simp only [Bool.or_eq_true]
   rw [ht]
   constructor
   ·rintro (⟨i, h1, h2, h3, h4, h5⟩ | h5)
    ·exact ⟨i, by omega, h2, h3, h4, by rw [eg i (by omega)]; exact h5⟩
    ·exact ⟨m, Nat.le_refl _, hm, hz, ha0, by rw [em]; exact h5⟩
   ·rintro ⟨i, h1, h2, h3, h4, h5⟩
    by_cases him : i = m
    ·subst him; rw [em] at h5; exact .inr h5
    ·exact .inl ⟨i, by omega, h2, h3, h4, by rw [eg i (by omega)] at h5; exact h5⟩
  ·have e : (s'.it a).tc = (s.it a).tc := by
    by_cases ham : a = m
    ·subst ham
     have ha2 : (I_ p a).f2 = true := by
      rcases ha with ha | ha
      ·omega
      ·exact ha
     rw [em, ← hF, own_tc ha2]
    ·rw [ei a ham haa]
   rw [e, ht]
   constructor
   ·rintro ⟨i, h1, h2, h3, h4, h5⟩
    exact ⟨i, by omega, h2, h3, h4, by rw [eg i (by omega)]; exact h5⟩
   ·rintro ⟨i, h1, h2, h3, h4, h5⟩
    by_cases him : i = m
    ·subst him; exact absurd (h4.symm.trans ha0) haa
    ·exact ⟨i, by omega, h2, h3, h4, by rw [eg i (by omega)] at h5; exact h5⟩
 ·intro i h1 h2 h3
  by_cases him : i = m
  ·subst him; rw [em, ← hF, own_step h3]
  ·rw [eg i (by omega)]; exact h.step i (by omega) h2 h3
 ·intro i h1 h2 h3
  have ebi : s'.bo i = s.bo i := by
   funext k
   exact eb i k (by omega)
  rw [ebi]
  by_cases him : i = m
  ·subst him
   have e : F.tc = (s.it i).tc := by rw [← hF, own_tc h3]
   rw [em, e, ← hF]; exact own_saga h3 hl
  ·rw [eg i (by omega)]; exact h.saga i (by omega) h2 h3
 ·intro a ha
  by_cases haa : a = a0
  ·subst haa
   rw [ea]
   have := h.low a (by omega)
   rw [this]
   rfl
  ·rw [ei a (by omega) haa]; exact h.low a (by omega)
theorem down_all {p : List S39} {l : List S50} (hI : InP p) : ∀ (m : Nat) (s : St), m ≤ p.length → DownAt p l m s → DownAt p l 0 (downS p l m s)
 | 0, s, _, h => h
 | m + 1, s, hm, h => by
  unfold downS
  exact down_all hI m _ (by omega) (down_turn hI h (by omega))
def Fl.noHa (f : Fl) : Fl := ⟨f.cl, f.tc, f.dn, f.sp, false, f.at_⟩
theorem up_all (p : List S39) (s0 : St) (hI : InP p) : ∀ (d i : Nat) (s : St), i + d = p.length → s.bo = s0.bo → (∀ j, Fl.noHa (s.it j) = Fl.noHa (s0.it j)) → (∀ j, 0 < j → j < i → (s.it j).ha = ((s.bo (I_ p j).f5.toNat (I_ p j).f6.toNat).fa || (s.it (I_ p j).f5.toNat).ha)) → (s.it 0).ha = (s0.it 0).ha →
  (upS p i d s).bo = s0.bo ∧ (∀ j, Fl.noHa ((upS p i d s).it j) = Fl.noHa (s0.it j)) ∧ (∀ j, 0 < j → j < p.length → ((upS p i d s).it j).ha = (((upS p i d s).bo (I_ p j).f5.toNat (I_ p j).f6.toNat).fa || ((upS p i d s).it (I_ p j).f5.toNat).ha)) ∧ ((upS p i d s).it 0).ha = (s0.it 0).ha
 | 0, i, s, hi, h1, h2, h3, h4 => by
  unfold upS
  exact ⟨h1, h2, fun j a b => h3 j a (by omega), h4⟩
 | d + 1, i, s, hi, h1, h2, h3, h4 => by
  unfold upS
  by_cases hz : i = 0
  ·subst hz
   have e : haltS p s 0 = s := by unfold haltS; exact if_pos rfl
   rw [e]
   exact up_all p s0 hI d 1 s (by omega) h1 h2 (fun j a b => by omega) h4
  ·have e : haltS p s i = s.setIt i (haltF p s i) := by unfold haltS; exact if_neg hz
   rw [e]
   have eii : (s.setIt i (haltF p s i)).it i = haltF p s i := by unfold St.setIt; exact if_pos rfl
   have eij : ∀ j, j ≠ i → (s.setIt i (haltF p s i)).it j = s.it j := fun j hj => by unfold St.setIt; exact if_neg hj
   have eb : (s.setIt i (haltF p s i)).bo = s.bo := rfl
   obtain ⟨hin, -⟩ := hI i (by omega) hz
   refine up_all p s0 hI d (i + 1) _ (by omega) (by rw [eb]; exact h1) (fun j => ?_) (fun j a b => ?_) ?_
   ·by_cases hj : j = i
    ·subst hj
     rw [eii, ← h2 j]
     rfl
    ·rw [eij j hj]; exact h2 j
   ·by_cases hj : j = i
    ·subst hj
     rw [eii, eb, eij _ (by omega)]
     rfl
    ·obtain ⟨hin2, -⟩ := hI j (by omega) (by omega)
     rw [eij j hj, eb, eij _ (by omega)]
     exact h3 j a (by omega)
   ·rw [eij 0 (fun h => hz h.symm)]; exact h4
structure MadeAt (p : List S39) (l : List S50) (s : St) : Prop where
 fa : ∀ a k, (s.bo a k).fa = true ↔ ∃ i, i < p.length ∧ kid p i a k ∧ ((L_ l i).f0 = 3 ∨ ((I_ p i).f3 = true ∧ (s.it i).sp = true))
 cl : ∀ a k, (s.bo a k).cl = true ↔ ∀ i, i < p.length → kid p i a k → (s.it i).cl = true
 wh : ∀ a k, (s.bo a k).wh = true ↔ ∀ i, i < p.length → kid p i a k → ((s.it i).dn = true ∨ ((s.it i).sp = true ∧ (I_ p i).f3 = false))
 tc : ∀ a, (I_ p a).f2 = true → ((s.it a).tc = true ↔ ∃ i, i < p.length ∧ i ≠ 0 ∧ (I_ p i).f5.toNat = a ∧ (s.it i).tc = true)
 step : ∀ i, i < p.length → (I_ p i).f2 = false → Fl.noHa (s.it i) = stepS (L_ l i)
 saga : ∀ i, i < p.length → (I_ p i).f2 = true → Fl.noHa (s.it i) = sagaS (I_ p i).f4.toNat (s.bo i) (flLow (s.it i).tc)
 ha0 : (s.it 0).ha = false
 ha : ∀ j, 0 < j → j < p.length → (s.it j).ha = ((s.bo (I_ p j).f5.toNat (I_ p j).f6.toNat).fa || (s.it (I_ p j).f5.toNat).ha)
theorem own_ha {p : List S39} {l : List S50} {s : St} (h : DownAt p l 0 s) {i : Nat} (hi : i < p.length) : (s.it i).ha = false := by
 cases hs : (I_ p i).f2
 ·rw [h.step i (by omega) hi hs]; rfl
 ·rw [h.saga i (by omega) hi hs, sagaS_ha]; rfl
theorem made_all {p : List S39} {l : List S50} (hn : 0 < p.length) (hI : InP p) : MadeAt p l (madeS p l) := by
 have h0 := down_all hI p.length stA (Nat.le_refl _) (down_start p l)
 unfold madeS
 generalize downS p l p.length stA = s0 at h0
 obtain ⟨h1, h2, h3, h4⟩ := up_all p s0 hI p.length 0 s0 (by omega) rfl (fun _ => rfl) (fun j a b => by omega) rfl
 generalize upS p 0 p.length s0 = s at h1 h2 h3 h4 ⊢
 have ecl : ∀ j, (s.it j).cl = (s0.it j).cl := fun j => (show (Fl.noHa (s.it j)).cl = (Fl.noHa (s0.it j)).cl by rw [h2 j])
 have etc : ∀ j, (s.it j).tc = (s0.it j).tc := fun j => (show (Fl.noHa (s.it j)).tc = (Fl.noHa (s0.it j)).tc by rw [h2 j])
 have edn : ∀ j, (s.it j).dn = (s0.it j).dn := fun j => (show (Fl.noHa (s.it j)).dn = (Fl.noHa (s0.it j)).dn by rw [h2 j])
 have esp : ∀ j, (s.it j).sp = (s0.it j).sp := fun j => (show (Fl.noHa (s.it j)).sp = (Fl.noHa (s0.it j)).sp by rw [h2 j])
 have hno : ∀ i, i < p.length → Fl.noHa (s0.it i) = s0.it i := fun i hi => by
  have := own_ha h0 hi
  unfold Fl.noHa
  rw [← this]
 constructor
 ·intro a k
  rw [h1, h0.fa a k]
  simp only [esp, Nat.zero_le, true_and]
 ·intro a k
  rw [h1, h0.cl a k]
  simp only [ecl, Nat.zero_le, true_implies]
 ·intro a k
  rw [h1, h0.wh a k]
  simp only [edn, esp, Nat.zero_le, true_implies]
 ·intro a ha
  rw [etc, h0.tc a (.inr ha)]
  simp only [etc, Nat.zero_le, true_and]
 ·intro i hi hs
  rw [h2, hno i hi]; exact h0.step i (by omega) hi hs
 ·intro i hi hs
  rw [h2, hno i hi, h1, etc]; exact h0.saga i (by omega) hi hs
 ·rw [h4]; exact own_ha h0 hn
 ·exact h3
end Go.Proofs.YtloijngccppfgaaGreat.Pure
end

section
namespace Go.Proofs.YtloijngccppfgaaGreat.Pure
set_option linter.unusedVariables false
open Go.RowKit Go.Proofs.YtloijngccppfgaaGreat.F Go.Proofs.YtloijngccppfgaaGreatW.PrintWords Go.Proofs.YtloijngccppfgaaGreatW.PrintLast
theorem small_ok {p : List S39} (hp : smallP p = true) {l : List S50} (hl : l.length ≤ 100) : okArgs p l = true := by
 unfold okArgs
 rw [hp, decide_eq_true (by omega : l.length ≤ 1000000)]
 rfl
section
variable {p : List S39} {l : List S50}
theorem right_in (h : rightB p = true) : InP p := fun i hi h0 => by
 obtain ⟨a, k, h1, h2, h3, h4, h5⟩ := item_in h i hi h0
 have e : (I_ p i).f5 = a := h1
 rw [e, Int.toNat_natCast]
 exact ⟨h3, h5⟩
theorem facts_made (h : factsB p l = true) : MadeAt p l (madeS p l) ∧ rightB p = true ∧ l.length = p.length ∧ 0 < p.length ∧ p.length ≤ 64 := by
 obtain ⟨h1, h2, h3⟩ := (facts_iff p l).1 h
 obtain ⟨h4, -⟩ := right_saga h2
 exact ⟨made_all (shape_few h4).1 (right_in h2), h2, h1, shape_few h4⟩
variable {s : St} (M : MadeAt p l s)
include M
end
theorem allB_len (p : List S39) (l : List S50) (s : St) : (allB p l s).length = p.length := by unfold allB; simp
theorem w64_next {i : Nat} (h : i ≤ 1000000) : wrap64 ((i : Int) + 1) = ((i + 1 : Nat) : Int) := by unfold wrap64; omega
section
variable {p : List S39} (hp : smallP p = true) {l : List S50} (hl : l.length ≤ 100)
include hp hl
theorem all_ev : state_All.f p l = some (if factsB p l then (allB p l (madeS p l), 0) else ([], 2)) := by unfold state_All.f; rw [if_pos (small_ok hp hl)]
theorem all_yes (h : factsB p l = true) : state_All.f p l = some (allB p l (madeS p l), 0) := by rw [all_ev hp hl, h]; rfl
theorem all_no (h : factsB p l = false) : state_All.f p l = some ([], 2) := by rw [all_ev hp hl, h]; rfl
end
end Go.Proofs.YtloijngccppfgaaGreat.Pure
end

section
namespace Go.Proofs.YtloijngccppfgaaGreat.Pure
set_option linter.unusedVariables false
open Go.RowKit Go.Proofs.YtloijngccppfgaaGreat.F Go.Proofs.YtloijngccppfgaaGreatW.PrintWords Go.Proofs.YtloijngccppfgaaGreatW.PrintLast
theorem shape_up {p : List S39} (h : shapedB p = true) : UpP p := by
 refine ⟨(shape_few h).2, fun i hi => ?_⟩
 obtain ⟨-, h2, h3⟩ := itemB_shape (shape_item h hi)
 by_cases h0 : i = 0
 ·have := h3 h0; omega
 ·have := h2 h0; omega
end Go.Proofs.YtloijngccppfgaaGreat.Pure
end
