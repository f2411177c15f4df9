-- Texts of this seat's, joined.
import Derived.Test.YtloijngccppfgaaGreatZTaskOrder1
import Derived.Test.YtloijngccppfgaaGreatZTaskOrder4
import Derived.Test.YtloijngccppfgaaGreatZTaskOrder5
import Derived.BigRegion
import Derived.Deep.RegionHeld2
import Derived.Deep.RegionWith
import Derived.WalkSmall
import Derived.Deep.DeepCutAuto
import Derived.Deep.CutRange
section
namespace Go.Proofs.YtloijngccppfgaaGreat.F
open Go.RowKit Go.Proofs.YtloijngccppfgaaGreatW.PrintWords Go.Proofs.YtloijngccppfgaaGreatW.PrintLast Go.Proofs.YtloijngccppfgaaGreatW.PrintMore
attribute [local go_sem] max2_int min2_int max_two min_two max_three min_three max_four min_four
set_option linter.unusedVariables false
set_option linter.unusedSimpArgs false
open Go.Proofs.YtloijngccppfgaaGreat.Pure
def tCells (m : Nat → Value) : Array Value := Array.ofFn (n := 133) fun j => m j
def memT (gb gv : Nat) (pv lv sv : Value) (o r : Nat → Int) (j : Nat) : Value :=
 if j = 0 then .pointer (some ⟨gb, 0, none⟩) else if j = 1 then pv else if j = 2 then lv else if j = 3 then sv else if j = 4 then .pointer (some ⟨gv, 0, none⟩) else if j < 69 then .int .i64 (o (j - 5)) else .int .i64 (r (j - 69))
theorem tCells_at (m : Nat → Value) (j : Nat) (h : j < 133) : (tCells m)[j]? = some (m j) := by
 unfold tCells
 rw [Array.getElem?_ofFn, dif_pos h]
theorem tCells_set (m : Nat → Value) (j : Nat) (v : Value) : (tCells m).setIfInBounds j v = tCells (fun k => if k = j then v else m k) := by
 apply Array.ext
 ·simp [tCells]
 ·intro k h1 h2
  rw [Array.getElem_setIfInBounds (by simpa using h1)]
  simp only [tCells, Array.getElem_ofFn]
  by_cases h : j = k
  ·rw [if_pos h, if_pos h.symm]
  ·rw [if_neg h, if_neg (fun e => h e.symm)]
theorem tCells_ext {m n : Nat → Value} (h : ∀ j, j < 133 → m j = n j) : tCells m = tCells n := by
 apply Array.ext
 ·simp [tCells]
 ·intro k h1 h2
  simp only [tCells, Array.getElem_ofFn]
  exact h k (by simpa [tCells] using h1)
theorem zero_view (gb gv : Nat) (pv lv sv : Value) : ((((Tryz.zeroCells137.setIfInBounds 0 (.pointer (some ⟨gb, 0, none⟩))).setIfInBounds 1 pv).setIfInBounds 2 lv).setIfInBounds 3 sv).setIfInBounds 4 (.pointer (some ⟨gv, 0, none⟩)) = tCells (memT gb gv pv lv sv (fun _ => 0) (fun _ => 0)) := by kernel_rfl
theorem tBlk_ext {W : World} {g : Nat} {m n : Nat → Value} (h : W.heap[g]? = some (.cells (tCells m) 137 (0, 0))) (hm : ∀ j, j < 133 → m j = n j) : W.heap[g]? = some (.cells (tCells n) 137 (0, 0)) := by rw [h, tCells_ext hm]
abbrev OwnG (g : Nat) : Nat → Prop := fun k => k = g
structure TaskSt (w : World) (p : List S39) (A : Option Addr) (c : Nat) (l : List S50) (Al : Option Addr) (cl : Nat) (S : List Int) (As : Option Addr) (cs gb gv : Nat) : Prop where
 bd : ∃ Ab cb, BdAt w gb p A c l Ab cb (madeS p l)
 vw : ViewAt w gv p A c
 fl : Kd.C k50 w Al l.length l
 st : Kd.C (Kd.int .i64) w As S.length S
 sh : shapedB p = true
 len : l.length = p.length ∧ S.length = p.length ∧ 0 < p.length
theorem TaskSt.below {w w' : World} {p : List S39} {A : Option Addr} {c : Nat} {l : List S50} {Al : Option Addr} {cl : Nat} {S : List Int} {As : Option Addr} {cs gb gv : Nat} (h : TaskSt w p A c l Al cl S As cs gb gv) (hb : Below w.heap.size w w') : TaskSt w' p A c l Al cl S As cs gb gv := by
 obtain ⟨Ab, cb, h1⟩ := h.bd
 exact ⟨⟨Ab, cb, h1.below hb⟩, h.vw.below hb, Kd.C_below h.fl hb, Kd.C_below h.st hb, h.sh, h.len⟩
structure TaskAt (w0 : World) (g : Nat) (p : List S39) (A : Option Addr) (c : Nat) (l : List S50) (Al : Option Addr) (cl : Nat) (S : List Int) (As : Option Addr) (cs gb gv : Nat) (o r : Nat → Int) (w : World) : Prop where
 st0 : TaskSt w0 p A c l Al cl S As cs gb gv
 eg : w0.heap.size = g
 b : Below g w0 w
 blk : w.heap[g]? = some (.cells (tCells (memT gb gv (.slice A p.length c) (.slice Al l.length cl) (.slice As S.length cs) o r)) 137 (0, 0))
section
variable {w0 w : World} {g : Nat} {p : List S39} {A : Option Addr} {c : Nat} {l : List S50} {Al : Option Addr} {cl : Nat} {S : List Int} {As : Option Addr} {cs gb gv : Nat} {o r : Nat → Int}
theorem TaskAt.st (h : TaskAt w0 g p A c l Al cl S As cs gb gv o r w) : TaskSt w p A c l Al cl S As cs gb gv := h.st0.below (by rw [h.eg]; exact h.b)
theorem TaskAt.cell (h : TaskAt w0 g p A c l Al cl S As cs gb gv o r w) (j : Nat) (hj : j < 133) : w.cell? ⟨g, j, none⟩ = some (memT gb gv (.slice A p.length c) (.slice Al l.length cl) (.slice As S.length cs) o r j) := (blk_cell h.blk j).trans (tCells_at _ j hj)
theorem TaskAt.free (h : TaskAt w0 g p A c l Al cl S As cs gb gv o r w) (j : Nat) : w.frozen? ⟨g, j, none⟩ = false := blk_frozen h.blk j
theorem TaskAt.c0 (h : TaskAt w0 g p A c l Al cl S As cs gb gv o r w) : w.cell? ⟨g, 0, none⟩ = some (.pointer (some ⟨gb, 0, none⟩)) := h.cell 0 (by omega)
theorem TaskAt.c1 (h : TaskAt w0 g p A c l Al cl S As cs gb gv o r w) : w.cell? ⟨g, 1, none⟩ = some (.slice A p.length c) := h.cell 1 (by omega)
theorem TaskAt.c2 (h : TaskAt w0 g p A c l Al cl S As cs gb gv o r w) : w.cell? ⟨g, 2, none⟩ = some (.slice Al l.length cl) := h.cell 2 (by omega)
theorem TaskAt.c3 (h : TaskAt w0 g p A c l Al cl S As cs gb gv o r w) : w.cell? ⟨g, 3, none⟩ = some (.slice As S.length cs) := h.cell 3 (by omega)
theorem TaskAt.c4 (h : TaskAt w0 g p A c l Al cl S As cs gb gv o r w) : w.cell? ⟨g, 4, none⟩ = some (.pointer (some ⟨gv, 0, none⟩)) := h.cell 4 (by omega)
theorem TaskAt.over (h : TaskAt w0 g p A c l Al cl S As cs gb gv o r w) (i : Nat) (hi : i < 64) : w.cell? ⟨g, 5 + i, none⟩ = some (.int .i64 (o i)) := by
 rw [h.cell _ (by omega)]
 unfold memT
 rw [if_neg (by omega), if_neg (by omega), if_neg (by omega), if_neg (by omega), if_neg (by omega), if_pos (by omega), show 5 + i - 5 = i from by omega]
theorem TaskAt.reach (h : TaskAt w0 g p A c l Al cl S As cs gb gv o r w) (i : Nat) (hi : i < 64) : w.cell? ⟨g, 69 + i, none⟩ = some (.int .i64 (r i)) := by
 rw [h.cell _ (by omega)]
 unfold memT
 rw [if_neg (by omega), if_neg (by omega), if_neg (by omega), if_neg (by omega), if_neg (by omega), if_neg (by omega), show 69 + i - 69 = i from by omega]
theorem TaskAt.keep {w' : World} (h : TaskAt w0 g p A c l Al cl S As cs gb gv o r w) (hb : Below w.heap.size w w') : TaskAt w0 g p A c l Al cl S As cs gb gv o r w' :=
 ⟨h.st0, h.eg, h.b.trans (hb.mono (Nat.le_of_lt (lt_of_blk_ h.blk))), blk_below h.blk hb⟩
def upd (f : Nat → Int) (i : Nat) (v : Int) : Nat → Int := fun j => if j = i then v else f j
theorem upd_same (f : Nat → Int) (i : Nat) (v : Int) : upd f i v i = v := if_pos rfl
theorem upd_other (f : Nat → Int) {i j : Nat} (v : Int) (h : j ≠ i) : upd f i v j = f j := if_neg h
theorem TaskAt.putO (h : TaskAt w0 g p A c l Al cl S As cs gb gv o r w) (i : Nat) (hi : i < 64) (v : Int) : TaskAt w0 g p A c l Al cl S As cs gb gv (upd o i v) r (w.setCell ⟨g, 5 + i, none⟩ (.int .i64 v)) := by
 refine ⟨h.st0, h.eg, h.b.setCell (Nat.le_refl _) _, tBlk_ext (blk_put h.blk (5 + i) (.int .i64 v) (tCells_set _ _ _)) (fun j hj => ?_)⟩
 unfold memT upd
 by_cases h0 : j = 5 + i
 ·rw [if_pos h0, if_neg (by omega), if_neg (by omega), if_neg (by omega), if_neg (by omega), if_neg (by omega), if_pos (by omega), if_pos (by omega)]
 ·rw [if_neg h0]
  by_cases h5 : j < 5
  ·have : j - 5 = 0 := by omega
   by_cases a0 : j = 0
   ·rw [if_pos a0, if_pos a0]
   by_cases a1 : j = 1
   ·rw [if_neg a0, if_pos a1, if_neg a0, if_pos a1]
   by_cases a2 : j = 2
   ·rw [if_neg a0, if_neg a1, if_pos a2, if_neg a0, if_neg a1, if_pos a2]
   by_cases a3 : j = 3
   ·rw [if_neg a0, if_neg a1, if_neg a2, if_pos a3, if_neg a0, if_neg a1, if_neg a2, if_pos a3]
   have a4 : j = 4 := by omega
   rw [if_neg a0, if_neg a1, if_neg a2, if_neg a3, if_pos a4, if_neg a0, if_neg a1, if_neg a2, if_neg a3, if_pos a4]
  ·rw [show (if j - 5 = i then v else o (j - 5)) = o (j - 5) from if_neg (by omega)]
theorem TaskAt.putR (h : TaskAt w0 g p A c l Al cl S As cs gb gv o r w) (i : Nat) (hi : i < 64) (v : Int) : TaskAt w0 g p A c l Al cl S As cs gb gv o (upd r i v) (w.setCell ⟨g, 69 + i, none⟩ (.int .i64 v)) := by
 refine ⟨h.st0, h.eg, h.b.setCell (Nat.le_refl _) _, tBlk_ext (blk_put h.blk (69 + i) (.int .i64 v) (tCells_set _ _ _)) (fun j hj => ?_)⟩
 unfold memT upd
 by_cases h0 : j = 69 + i
 ·rw [if_pos h0, if_neg (by omega), if_neg (by omega), if_neg (by omega), if_neg (by omega), if_neg (by omega), if_neg (by omega), if_pos (by omega)]
 ·rw [if_neg h0]
  by_cases h5 : j < 69
  ·by_cases a0 : j = 0
   ·rw [if_pos a0, if_pos a0]
   by_cases a1 : j = 1
   ·rw [if_neg a0, if_pos a1, if_neg a0, if_pos a1]
   by_cases a2 : j = 2
   ·rw [if_neg a0, if_neg a1, if_pos a2, if_neg a0, if_neg a1, if_pos a2]
   by_cases a3 : j = 3
   ·rw [if_neg a0, if_neg a1, if_neg a2, if_pos a3, if_neg a0, if_neg a1, if_neg a2, if_pos a3]
   by_cases a4 : j = 4
   ·rw [if_neg a0, if_neg a1, if_neg a2, if_neg a3, if_pos a4, if_neg a0, if_neg a1, if_neg a2, if_neg a3, if_pos a4]
   rw [if_neg a0, if_neg a1, if_neg a2, if_neg a3, if_neg a4, if_pos h5, if_neg a0, if_neg a1, if_neg a2, if_neg a3, if_neg a4, if_pos h5]
  ·rw [show (if j - 69 = i then v else r (j - 69)) = r (j - 69) from if_neg (by omega)]
end
def TSeenP (p : List S39) (A : Option Addr) (c : Nat) (l : List S50) (Al : Option Addr) (cl : Nat) (w : World) (r : Option Nat) (w' : World) : Prop :=
 Below w.heap.size w w' ∧ match r with | some g => factsB p l = true ∧ w.heap.size ≤ g ∧ ∃ w0 As cs gb gv, TaskAt w0 g p A c l Al cl (allB p l (madeS p l)) As cs gb gv (fun _ => 0) (fun _ => 0) w' | none => factsB p l = false
theorem TSeenP.some_ {p : List S39} {A : Option Addr} {c : Nat} {l : List S50} {Al : Option Addr} {cl : Nat} {w w' : World} {r : Option Nat} (h : TSeenP p A c l Al cl w r w') (hf : factsB p l = true) : ∃ g w0 As cs gb gv, r = some g ∧ w.heap.size ≤ g ∧ TaskAt w0 g p A c l Al cl (allB p l (madeS p l)) As cs gb gv (fun _ => 0) (fun _ => 0) w' := by
 cases r with
 | none => have := h.2; rw [hf] at this; cases this
 | some g => obtain ⟨h1, w0, As, cs, gb, gv, h3⟩ := h.2.2; exact ⟨g, w0, As, cs, gb, gv, rfl, h1, h3⟩
theorem TSeenP.none_ {p : List S39} {A : Option Addr} {c : Nat} {l : List S50} {Al : Option Addr} {cl : Nat} {w w' : World} {r : Option Nat} (h : TSeenP p A c l Al cl w r w') (hf : factsB p l = false) : r = none := by
 cases r with
 | none => rfl
 | some g => have := h.2.1; rw [hf] at this; cases this
theorem SeeT.some_ {p : List S39} {Ap : Option Addr} {cp : Nat} {l : List S50} {w w' : World} {r : Option Nat} (h : SeeP p Ap cp l w r w') (hf : factsB p l = true) : ∃ g, r = some g := by
 cases r with
 | none => rw [h.hasnt] at hf; cases hf
 | some g => exact ⟨g, rfl⟩
theorem SeeT.none_ {p : List S39} {Ap : Option Addr} {cp : Nat} {l : List S50} {w w' : World} {r : Option Nat} (h : SeeP p Ap cp l w r w') (hf : factsB p l = false) : r = none := by
 cases r with
 | none => rfl
 | some g => have := h.has.1; rw [hf] at this; cases this
theorem ViewT.some_ {p : List S39} {A : Option Addr} {c : Nat} {w w' : World} {r : Option Nat} (h : ViewP p A c w r w') (hf : rightB p = true) : ∃ g, r = some g ∧ ViewAt w' g p A c := by
 cases r with
 | none => have := h.2; rw [hf] at this; cases this
 | some g => exact ⟨g, rfl, h.2.2.1⟩
set_option maxHeartbeats 8000000 in
set_option maxRecDepth 100000 in
theorem task_seen_walk (p : List S39) (A : Option Addr) (c : Nat) (l : List S50) (Al : Option Addr) (cl : Nat) (w : World) (hp : Kd.C k39 w A p.length p) (hcp : p.length ≤ c) (hl : Kd.C k50 w Al l.length l) (hcl : l.length ≤ cl) (hok : okArgs p l = true) :
  Calls Tryz.prog 47 #[.agg #[.slice A p.length c], .slice Al l.length cl] w fun e w' => ∃ r, e = .returned (.tuple #[ptrV r, .bool (factsB p l)]) ∧ TSeenP p A c l Al cl w r w' := by
 unfold okArgs at hok
 rw [Bool.and_eq_true, decide_eq_true_eq] at hok
 have HL := Aside0.mk hl
 have HB0 := Aside0.mk (below_alloc (Below.refl w.heap.size w) (.cells #[.slice A p.length c] 24 (0, 0)))
 have HG0 := Aside0.mk (blk_new w (.cells #[.slice A p.length c] 24 (0, 0)))
 have HSW := Aside0.mk (fun (W : World) (hb : Below w.heap.size w W) => see_walk p A c l Al cl W (Kd.C_below hp hb) hcp (Kd.C_below hl hb) hcl hok.1 hok.2)
 have HPW := Aside0.mk (fun (W : World) (hb : Below w.heap.size w W) => plan_see_walk p A c W (Kd.C_below hp hb) hcp hok.1)
 clear hp hcp hl hcl hok
 obtain ⟨v, hv⟩ : ∃ v, factsB p l = v := ⟨_, rfl⟩
 have HV := Aside0.mk hv
 rw [hv] at HSW ⊢
 clear hv
 cases v with
 | false =>
  simp only [Bool.false_eq_true, if_false] at HSW
  go_enter Tryz.func47, Tryz.ntmps47
  go_wp2_with (go_at_call 37; refine (HSW.out _ HB0.out).mono ?_; rintro e w2 ⟨r, rfl, hm⟩; obtain rfl := SeeT.none_ hm HV.out; dsimp only [ptrV]; have HM := Aside0.mk (HB0.out.trans (hm.1.mono HB0.out.size)); clear hm)
  go_ret2
  exact ⟨none, rfl, HM.out, HV.out⟩
 | true =>
  have hf := HV.out
  obtain ⟨hln, hsh⟩ := facts_shape hf
  have HSH := Aside0.mk hsh
  have HN0 := Aside0.mk (shape_few hsh).1
  have HLN := Aside0.mk hln
  have HRT : Aside0 (rightB p = true) := ⟨(facts_made hf).2.1⟩
  have HAL := Aside0.mk (allB_len p l (madeS p l))
  rw [HRT.out] at HPW
  simp only [if_true] at HSW HPW
  clear hf hln hsh
  go_enter Tryz.func47, Tryz.ntmps47
  go_upto_region 5 with (first
   | (go_at_call 37; refine (HSW.out _ HB0.out).mono ?_; rintro e w2 ⟨r, rfl, hm⟩; obtain ⟨gb, rfl⟩ := SeeT.some_ hm HV.out; dsimp only [ptrV]; have HM := Aside0.mk hm; have HB2 := Aside0.mk (HB0.out.trans (hm.1.mono HB0.out.size)); have HG2 := Aside0.mk (blk_below HG0.out hm.1); clear hm; have x0 : w2.cell? ⟨w.heap.size, 0, none⟩ = some (.slice A p.length c) := (blk_cell HG2.out 0).trans rfl)
   | (go_at_call 60; refine (HPW.out _ HB2.out).mono ?_; rintro e w3 ⟨r, rfl, hm⟩; obtain ⟨gv, rfl, hvw⟩ := ViewT.some_ hm HRT.out; dsimp only [ptrO]; have HVW := Aside0.mk hvw; have HB3 := Aside0.mk (HB2.out.trans (hm.1.mono HB2.out.size)); have HB23 := Aside0.mk hm.1; have HG3 := Aside0.mk (blk_below HG2.out hm.1); clear hm hvw x0; have x0 : w3.cell? ⟨w.heap.size, 0, none⟩ = some (.slice A p.length c) := (blk_cell HG3.out 0).trans rfl))
  obtain ⟨-, -, -, Al2, cl2, hbd⟩ := HM.out.has
  have HBD := Aside0.mk (hbd.below HB23.out)
  have HAW := Aside0.mk (all_walk (hbd.below (below_drewN HB23.out 1)))
  clear hbd
  go_region_with (go_at_call 38; have hA_ := HAW.out; refine hA_.mono ?_; clear hA_; rintro e w4 ⟨v4, rfl, hR, hb⟩; obtain ⟨A4, c4, rfl⟩ := Kd.R_slice hR; have HB34 := Aside0.mk hb; have HR4 := Aside0.mk hR; have x4 : w4.cell? ⟨w.heap.size, 0, none⟩ = some (.slice A p.length c) := (blk_cell (blk_below (blk_drew HG3.out) hb) 0).trans rfl; clear hR hb)
  all_goals
   go_wp2
   go_ret2
   have hb3 := (below_drewN (Below.refl w3.heap.size w3) 1).trans (HB34.out.mono (Nat.le_of_eq rfl))
   exact ⟨some w4.heap.size, rfl, below_alloc (HB3.out.trans (hb3.mono HB3.out.size)) _, HV.out, Nat.le_trans HB3.out.size hb3.size, w4, A4, c4, gb, gv, ⟨⟨Al2, cl2, HBD.out.below hb3⟩, HVW.out.below hb3, Kd.C_below HL.out (HB3.out.trans (hb3.mono HB3.out.size)), (Kd.R_reads' HR4.out).2.2, HSH.out, HLN.out, HAL.out, HN0.out⟩, rfl, below_alloc (Below.refl _ _) _, (blk_new _ _).trans (by rw [zero_view])⟩
end Go.Proofs.YtloijngccppfgaaGreat.F
end

section
namespace Go.Proofs.YtloijngccppfgaaGreat.F
open Go.RowKit Go.Proofs.YtloijngccppfgaaGreatW.PrintWords Go.Proofs.YtloijngccppfgaaGreatW.PrintLast Go.Proofs.YtloijngccppfgaaGreatW.PrintMore
attribute [local go_sem] max2_int min2_int max_two min_two max_three min_three max_four min_four
set_option linter.unusedVariables false
set_option linter.unusedSimpArgs false
open Go.Proofs.YtloijngccppfgaaGreat.Pure
def passedB (p : List S39) (S : List Int) (k : Int) : Bool := if (rd_T39 p k).f2 then (rd S k == 2 || (rd S k == 3 && !(rd_T39 p k).f3)) else rd S k == 2
def lateB (p : List S39) (S : List Int) (k : Int) : Bool := !passedB p S k
def runsG (S : List Int) (rec : Nat → Bool) (a : Int) : Bool := !(rd S a == 2) && (!(rd S a == 3) && (a == 0 || (decide (0 < a) && rec a.toNat)))
def reachF (p : List S39) (l : List S50) (S : List Int) : Nat → Nat → Bool
 | 0, _ => false
 | d + 1, i => runsG S (reachF p l S d) (rd_T39 p (i : Int)).f5 && (atB p (madeS p l) (rd_T39 p (i : Int)).f5 == (rd_T39 p (i : Int)).f6 && (!fallB p (madeS p l) (rd_T39 p (i : Int)).f5 (rd_T39 p (i : Int)).f6 && !((rd_T39 p (i : Int)).f7.any (lateB p S))))
def reachB (p : List S39) (l : List S50) (S : List Int) (i : Nat) : Bool := reachF p l S i i
def ansI (b : Bool) : Int := if b then 2 else 1
theorem runsG_congr {S : List Int} {f g : Nat → Bool} {a : Int} (h : 0 < a → f a.toNat = g a.toNat) : runsG S f a = runsG S g a := by
 unfold runsG
 by_cases h0 : 0 < a
 ·rw [h h0]
 ·rw [decide_eq_false h0]; rfl
theorem reachF_more {p : List S39} {l : List S50} {S : List Int} (hu : UpP p) : ∀ (d i : Nat), 1 ≤ i → i < p.length → i ≤ d → reachF p l S d i = reachB p l S i := by
 intro d
 induction d using Nat.strongRecOn with
 | _ d ih =>
  intro i h1 h2 h3
  obtain ⟨m, rfl⟩ : ∃ m, i = m + 1 := ⟨i - 1, by omega⟩
  obtain ⟨e, rfl⟩ : ∃ e, d = e + 1 := ⟨d - 1, by omega⟩
  have hup := hu.2 (m + 1) h2
  have hr : runsG S (reachF p l S e) (rd_T39 p ((m + 1 : Nat) : Int)).f5 = runsG S (reachF p l S m) (rd_T39 p ((m + 1 : Nat) : Int)).f5 := runsG_congr fun h0 => by
   rw [ih e (by omega) _ (by omega) (by omega) (by omega)]
   by_cases hm : m < e + 1
   ·rw [ih m hm _ (by omega) (by omega) (by omega)]
   ·omega
  unfold reachB
  unfold reachF
  rw [hr]
theorem reachB_eq {p : List S39} {l : List S50} {S : List Int} (hu : UpP p) (i : Nat) (h1 : 1 ≤ i) (h2 : i < p.length) : reachB p l S i = (runsG S (reachB p l S) (rd_T39 p (i : Int)).f5 && (atB p (madeS p l) (rd_T39 p (i : Int)).f5 == (rd_T39 p (i : Int)).f6 && (!fallB p (madeS p l) (rd_T39 p (i : Int)).f5 (rd_T39 p (i : Int)).f6 && !((rd_T39 p (i : Int)).f7.any (lateB p S))))) := by
 obtain ⟨m, rfl⟩ : ∃ m, i = m + 1 := ⟨i - 1, by omega⟩
 have hup := hu.2 (m + 1) h2
 have hr : runsG S (reachF p l S m) (rd_T39 p ((m + 1 : Nat) : Int)).f5 = runsG S (reachB p l S) (rd_T39 p ((m + 1 : Nat) : Int)).f5 := runsG_congr fun h0 => reachF_more hu _ _ (by omega) (by omega) (by omega)
 rw [← hr]
 rfl
section
variable {w0 w : World} {g : Nat} {p : List S39} {A : Option Addr} {c : Nat} {l : List S50} {Al : Option Addr} {cl : Nat} {S : List Int} {As : Option Addr} {cs gb gv : Nat} {o r : Nat → Int}
set_option maxHeartbeats 8000000 in
theorem passed_walk (h : TaskAt w0 g p A c l Al cl S As cs gb gv o r w) (k : Nat) (hk : k < p.length) : Calls Tryz.prog 102 #[.pointer (some ⟨g, 0, none⟩), .int .i64 k] w fun e w' => e = .returned (.bool (passedB p S k)) ∧ Below w.heap.size w w' := by
 have y1 := h.c1
 have y3 := h.c3
 have hl := h.st0.len
 have h0 : (0 : Int) ≤ k := by omega
 have h1 : (k : Int) < (p.length : Int) := by omega
 have h2 : (k : Int) < (S.length : Int) := by omega
 obtain ⟨ad, e0, hs0⟩ := Kd.at_int h.st.st (k : Int) h0 h2
 obtain ⟨ai, A7, c7, e1, q0, q1, q2, q3, q4, q5, q6, q7, -, -⟩ := at_T39 h.st.vw.pl (k : Int) h0 h1
 subst e0
 subst e1
 rw [Int.toNat_natCast] at hs0 q0 q1 q2 q3 q4 q5 q6 q7
 unfold passedB
 generalize rd S (k : Int) = y at hs0 ⊢
 generalize rd_T39 p (k : Int) = x at q0 q1 q2 q3 q4 q5 q6 q7 ⊢
 obtain ⟨x0, x1, b2, b3, x4, x5, x6, x7⟩ := x
 dsimp only at q0 q1 q2 q3 q4 q5 q6 q7 ⊢
 have z3 := cell_al (o := .cells #[.string x0, .string x1, .bool b2, .bool b3, .int .i64 x4, .int .i64 x5, .int .i64 x6, .slice A7 x7.length c7] 39 (0, 0)) y3
 have z4 := cell_al (o := .cells #[.string x0, .string x1, .bool b2, .bool b3, .int .i64 x4, .int .i64 x5, .int .i64 x6, .slice A7 x7.length c7] 39 (0, 0)) hs0
 clear h hl hk
 cases b2
 ·go_enter Tryz.func102, Tryz.ntmps102
  go_wp2
  go_ret
  exact ⟨rfl, below_alloc (Below.refl _ _) _⟩
 ·by_cases n2 : y = 2
  ·subst n2
   go_enter Tryz.func102, Tryz.ntmps102
   go_wp2
   go_ret
   exact ⟨rfl, below_alloc (Below.refl _ _) _⟩
  ·have c2 : (y == 2) = false := beq_eq_false_iff_ne.2 n2
   rw [c2]
   by_cases n3 : y = 3
   ·subst n3
    cases b3
    all_goals
     go_enter Tryz.func102, Tryz.ntmps102
     go_wp2
     go_ret
     exact ⟨rfl, below_alloc (Below.refl _ _) _⟩
   ·have c3 : (y == 3) = false := beq_eq_false_iff_ne.2 n3
    rw [c3]
    go_enter Tryz.func102, Tryz.ntmps102
    go_wp2
    go_ret
    exact ⟨rfl, below_alloc (Below.refl _ _) _⟩
theorem late_lit (h : TaskAt w0 g p A c l Al cl S As cs gb gv o r w) (gx : Nat) (hg : w.heap[gx]? = some (.cells #[.pointer (some ⟨g, 0, none⟩)] 89 (0, 0))) (k : Nat) (hk : k < p.length) : Calls Tryz.prog 101 (#[.int .i64 k] ++ #[.pointer (some ⟨gx, 0, none⟩)]) w fun e w' => e = .returned (.bool (lateB p S k)) ∧ Below w.heap.size w w' := by
 have x0 : w.cell? ⟨gx, 0, none⟩ = some (.pointer (some ⟨g, 0, none⟩)) := (blk_cell hg 0).trans rfl
 have HF := Aside0.mk (passed_walk h k hk)
 clear h hg hk
 show Calls Tryz.prog 101 #[.int .i64 k, .pointer (some ⟨gx, 0, none⟩)] w _
 go_enter Tryz.func101, Tryz.ntmps101
 go_wp2_with (go_at_call 102; refine HF.out.mono ?_; rintro e w2 ⟨rfl, hb⟩; have HB := Aside0.mk hb; clear hb)
 go_ret
 exact ⟨rfl, HB.out⟩
def ReachC (w0 : World) (g : Nat) (p : List S39) (A : Option Addr) (c : Nat) (l : List S50) (Al : Option Addr) (cl : Nat) (S : List Int) (As : Option Addr) (cs gb gv : Nat) (o : Nat → Int) (fn : Nat) (i : Nat) (b : Bool) : Prop := ∀ r w, TaskAt w0 g p A c l Al cl S As cs gb gv o r w → (∀ j, 1 ≤ j → j ≤ i → r j = 0 ∨ r j = ansI (reachB p l S j)) → Calls Tryz.prog fn #[.pointer (some ⟨g, 0, none⟩), .int .i64 i] w fun e w' => e = .returned (.bool b) ∧ KeepE (OwnG g) w w' ∧ ∃ r', TaskAt w0 g p A c l Al cl S As cs gb gv o r' w' ∧ (∀ j, 1 ≤ j → j ≤ i → r' j = 0 ∨ r' j = ansI (reachB p l S j)) ∧ ∀ j, i < j → r' j = r j
set_option maxHeartbeats 8000000 in
theorem runs_walk (a : Nat) (ha : a < p.length) (hrec : 1 ≤ a → ReachC w0 g p A c l Al cl S As cs gb gv o 75 a (reachB p l S a)) : ReachC w0 g p A c l Al cl S As cs gb gv o 103 a (runsG S (reachB p l S) a) := by
 intro r w h hv
 have HH := Aside0.mk h
 have HV := Aside0.mk hv
 have y3 := h.c3
 have hl := h.st0.len
 have h0 : (0 : Int) ≤ a := by omega
 have h2 : (a : Int) < (S.length : Int) := by omega
 obtain ⟨ad, e0, hs0⟩ := Kd.at_int h.st.st (a : Int) h0 h2
 subst e0
 rw [Int.toNat_natCast] at hs0
 unfold runsG
 rw [Int.toNat_natCast]
 have HR := Aside0.mk (fun h1 => hrec h1 r w h hv)
 generalize rd S (a : Int) = y at hs0 ⊢
 clear h hv hl hrec
 by_cases n2 : y = 2
 ·subst n2
  go_enter Tryz.func103, Tryz.ntmps103
  go_wp2
  go_ret
  exact ⟨rfl, KeepE.refl _ _, r, HH.out, HV.out, fun _ _ => rfl⟩
 ·have c2 : (y == 2) = false := beq_eq_false_iff_ne.2 n2
  rw [c2]
  by_cases n3 : y = 3
  ·subst n3
   go_enter Tryz.func103, Tryz.ntmps103
   go_wp2
   go_ret
   exact ⟨rfl, KeepE.refl _ _, r, HH.out, HV.out, fun _ _ => rfl⟩
  ·have c3 : (y == 3) = false := beq_eq_false_iff_ne.2 n3
   rw [c3]
   by_cases hz : a = 0
   ·subst hz
    have hs1 : w.cell? ad = some (.int .i64 y) := by simpa [Addr.add] using hs0
    show Calls Tryz.prog 103 #[.pointer (some ⟨g, 0, none⟩), .int .i64 0] w _
    go_enter Tryz.func103, Tryz.ntmps103
    go_wp2
    go_ret
    exact ⟨by simp [bne, c2, c3], KeepE.refl _ _, r, HH.out, HV.out, fun _ _ => rfl⟩
   ·have hne : ((a : Int) == 0) = false := beq_eq_false_iff_ne.2 (by omega)
    have hnz : ¬ (a : Int) = 0 := by omega
    have hnn : ¬ a = 0 := hz
    have hd : decide (0 < (a : Int)) = true := decide_eq_true (by omega)
    have HR2 := Aside0.mk (HR.out (by omega))
    obtain ⟨b, hb⟩ : ∃ b, reachB p l S a = b := ⟨_, rfl⟩
    rw [hb] at HR2
    rw [hne, hd, hb]
    clear hb HR
    go_enter Tryz.func103, Tryz.ntmps103
    go_wp2_with (go_at_call 75; refine HR2.out.mono ?_; rintro e w2 ⟨rfl, hk, hr⟩; have HK := Aside0.mk hk; have HR3 := Aside0.mk hr; clear hk hr)
    go_ret
    exact ⟨by simp [n2, n3], HK.out, HR3.out⟩
def rT0 : Array Bool := #[false, false, false, false, false, false, false, false, false, false, false, false, false, false, false, false, false, false, false, false, false, false, false, false, false, false, false, false, false, false, false, false, false, false, false]
def rT1 : Array Bool := #[true, true, true, false, false, false, false, false, false, false, false, false, false, false, false, false, false, false, false, false, false, false, false, false, false, false, false, false, false, false, false, false, false, false, false]
def rT2 : Array Bool := #[true, true, true, true, false, false, false, false, false, false, false, false, false, false, false, false, false, false, false, false, false, false, false, false, false, false, false, false, false, false, false, false, false, false, false]
def rT3 : Array Bool := #[true, true, true, true, true, true, true, true, true, true, true, true, true, true, true, true, true, true, true, true, true, true, true, true, true, true, true, true, true, true, true, true, true, true, true]
def rT4 : Array Bool := #[true, true, true, true, true, true, true, true, true, true, true, false, true, true, false, false, false, false, false, false, false, false, false, false, false, false, false, false, false, false, false, false, false, false, false]
def rT5 : Array Bool := #[true, true, true, true, true, true, true, true, true, true, true, true, true, true, false, false, false, false, false, false, false, false, false, false, false, false, false, false, false, false, false, false, false, false, false]
def rT6 : Array Bool := #[true, true, true, true, true, true, true, true, true, true, true, true, true, true, true, true, true, true, true, true, true, true, true, true, true, false, false, false, false, false, false, false, false, false, false]
def rT7 : Array Bool := #[true, true, true, true, true, true, true, true, true, true, true, true, true, true, true, true, true, true, true, true, true, true, true, true, true, true, false, false, false, false, false, false, false, false, false]
def rT8 : Array Bool := #[true, true, true, true, true, true, true, true, true, true, true, true, true, true, true, true, true, true, true, true, true, true, true, true, true, true, true, true, true, true, true, true, false, false, false]
def rT9 : Array Bool := #[true, true, true, true, true, true, true, true, true, true, true, true, true, true, true, true, true, true, true, true, true, true, true, true, true, true, true, true, true, true, true, true, true, false, false]
theorem TaskAt.low (h : TaskAt w0 g p A c l Al cl S As cs gb gv o r w) : Below w0.heap.size w0 w := by rw [h.eg]; exact h.b
theorem memo_no {r r4 : Nat → Int} {a i : Nat} (hai : a < i) (hv : ∀ j, 1 ≤ j → j ≤ i → r j = 0 ∨ r j = ansI (reachB p l S j)) (h4 : ∀ j, 1 ≤ j → j ≤ a → r4 j = 0 ∨ r4 j = ansI (reachB p l S j)) (hg : ∀ j, a < j → r4 j = upd r i 1 j) (hb : reachB p l S i = false) : (∀ j, 1 ≤ j → j ≤ i → r4 j = 0 ∨ r4 j = ansI (reachB p l S j)) ∧ ∀ j, i < j → r4 j = r j := by
 refine ⟨fun j h1 h2 => ?_, fun j h1 => by rw [hg j (by omega), upd_other _ _ (by omega)]⟩
 by_cases hja : j ≤ a
 ·exact h4 j h1 hja
 ·rw [hg j (by omega)]
  by_cases hji : j = i
  ·subst hji; rw [upd_same, hb]; exact .inr rfl
  ·rw [upd_other _ _ hji]; exact hv j h1 h2
theorem memo_yes {r r4 : Nat → Int} {a i : Nat} (hai : a < i) (hv : ∀ j, 1 ≤ j → j ≤ i → r j = 0 ∨ r j = ansI (reachB p l S j)) (h4 : ∀ j, 1 ≤ j → j ≤ a → r4 j = 0 ∨ r4 j = ansI (reachB p l S j)) (hg : ∀ j, a < j → r4 j = upd r i 1 j) (hb : reachB p l S i = true) : (∀ j, 1 ≤ j → j ≤ i → upd r4 i 2 j = 0 ∨ upd r4 i 2 j = ansI (reachB p l S j)) ∧ ∀ j, i < j → upd r4 i 2 j = r j := by
 refine ⟨fun j h1 h2 => ?_, fun j h1 => by rw [upd_other _ _ (by omega), hg j (by omega), upd_other _ _ (by omega)]⟩
 by_cases hji : j = i
 ·subst hji; rw [upd_same, hb]; exact .inr rfl
 ·rw [upd_other _ _ hji]
  by_cases hja : j ≤ a
  ·exact h4 j h1 hja
  ·rw [hg j (by omega), upd_other _ _ hji]; exact hv j h1 h2
set_option maxHeartbeats 16000000 in
set_option maxRecDepth 100000 in
theorem reached_walk_one (i : Nat) (h1 : 1 ≤ i) (hi : i < p.length) (hrec : ∀ a, 1 ≤ a → a < i → ReachC w0 g p A c l Al cl S As cs gb gv o 75 a (reachB p l S a)) : ReachC w0 g p A c l Al cl S As cs gb gv o 75 i (reachB p l S i) := by
 intro r w h hv
 have HV := Aside0.mk hv
 have hsh := h.st0.sh
 have HI64 : Aside0 (i < 64) := ⟨by have := (shape_few hsh).2; omega⟩
 have h0i : (0 : Int) ≤ i := by omega
 have h6i : (i : Int) < 64 := by have := HI64.out; omega
 have HT1 := Aside0.mk (h.keep (below_alloc (Below.refl w.heap.size w) (.cells #[.pointer (some ⟨g, 0, none⟩)] 89 (0, 0))))
 have HK1 : Aside0 (KeepE (OwnG g) w (w.alloc (.cells #[.pointer (some ⟨g, 0, none⟩)] 89 (0, 0)))) := ⟨KeepE.of_below (below_alloc (Below.refl w.heap.size w) _) (Nat.le_refl _)⟩
 have y1 := HT1.out.reach i HI64.out
 have f1 := HT1.out.free (69 + i)
 have y2 := HT1.out.c1
 by_cases hm : r i = 0
 ·rw [hm] at y1
  have HGN : Aside0 (w.heap.size ≠ g) := ⟨by have := lt_of_blk_ h.blk; omega⟩
  have HGX : Aside0 (¬ OwnG g w.heap.size) := ⟨HGN.out⟩
  have HE := Aside0.mk (enters_of Tryz.func101 (P := Tryz.prog) (f := 101) (by kernel_rfl) rfl)
  have hmf : ∀ (fn : Fn) (first cap : Array Value) (w : World), (Instr.makeFunc fn first cap).run Tryz.prog w = .ok (.func fn first cap) w := fun _ _ _ _ => rfl
  obtain ⟨ha2, hin, -⟩ := itemB_shape (shape_item hsh hi)
  obtain ⟨q51, q52, q61, q62⟩ := hin (by omega)
  obtain ⟨a, ha⟩ := Int.eq_ofNat_of_zero_le q51
  obtain ⟨k, hk⟩ := Int.eq_ofNat_of_zero_le q61
  have HAI : Aside0 (a < i) := ⟨by omega⟩
  have HN0 : Aside0 (0 < p.length) := ⟨by omega⟩
  have HSP := Aside0.mk (shape_of hsh)
  have HBQ := reachB_eq (l := l) (S := S) (shape_up hsh) i h1 hi
  have HRUN := Aside0.mk (runs_walk (w0 := w0) (g := g) (p := p) (A := A) (c := c) (l := l) (Al := Al) (cl := cl) (S := S) (As := As) (cs := cs) (gb := gb) (gv := gv) (o := o) a (by omega) (fun h2 => hrec a h2 HAI.out))
  obtain ⟨ai, A7, c7, e1, q0, q1, q2, q3, q4, q5, q6, q7, q8, q9⟩ := at_T39 h.st0.vw.pl (i : Int) (by omega) (by omega)
  have HX7 := Aside0.mk (fun q hq => (itemB_alts (shaped_at hsh hi)).2.2 q hq)
  subst e1
  have h1i : (i : Int) < (p.length : Int) := by omega
  rw [Int.toNat_natCast] at q0 q1 q2 q3 q4 q5 q6 q7
  rw [← rd_at hi] at HX7
  rw [ha] at q5 HBQ
  rw [hk] at q6 HBQ
  have HX8 : Aside0 (∀ q ∈ (rd_T39 p (i : Int)).f7, ∃ n : Nat, q = n ∧ n < p.length) := ⟨fun q hq => by obtain ⟨g1, g2⟩ := HX7.out q hq; exact ⟨q.toNat, by omega, by omega⟩⟩
  clear HX7
  have HX7 := HX8
  clear HX8 q51 q52 q61 q62 hin ha2
  have HC7 := Aside0.mk q9
  obtain ⟨x, hx⟩ : ∃ x, rd_T39 p (i : Int) = x := ⟨_, rfl⟩
  rw [hx] at q0 q1 q2 q3 q4 q7 HC7 HX7 HBQ
  obtain ⟨x0, x1, x2, x3, x4, x5, x6, x7⟩ := x
  dsimp only at q0 q1 q2 q3 q4 q7 HC7 HX7 HBQ
  clear q8 q9 hx ha hk hrec hsh h hv hm
  obtain ⟨tA, htA⟩ : ∃ q, atB p (madeS p l) (a : Int) = q := ⟨_, rfl⟩
  obtain ⟨tF, htF⟩ : ∃ q, fallB p (madeS p l) (a : Int) (k : Int) = q := ⟨_, rfl⟩
  obtain ⟨tL, htL⟩ : ∃ q, x7.any (lateB p S) = q := ⟨_, rfl⟩
  obtain ⟨tR, htR⟩ : ∃ q, runsG S (reachB p l S) (a : Int) = q := ⟨_, rfl⟩
  have HCA := Aside0.mk htA
  have HCF := Aside0.mk htF
  have HCL := Aside0.mk htL
  have HCR := Aside0.mk htR
  rw [htA, htF, htL, htR] at HBQ
  clear htA htF htL htR
  go_enter Tryz.func75, Tryz.ntmps75
  go_upto_region 3 with (fail)
  refine at_letter_ (fun W => Aside0 (TaskAt w0 g p (some ai) c l Al cl S As cs gb gv o (upd r i 1) W) ∧ Aside0 (KeepE (OwnG g) w W) ∧ Aside0 (W.heap[w.heap.size]? = some (.cells #[.pointer (some ⟨g, 0, none⟩)] 89 (0, 0)))) ⟨⟨(HT1.out.putR i HI64.out 1)⟩, ⟨HK1.out.trans (KeepE.put (E := OwnG g) _ rfl _ _)⟩, ⟨(Below.heap_setCell _ _ _ _ HGN.out).trans (blk_new w _)⟩⟩ (fun W2 ⟨HT2, HK2, HX2⟩ => ?_)
  clear y1 f1 y2
  generalize w.heap.size = gx at HX2 HGN HGX ⊢
  have u2 : W2.cell? ⟨gx, 0, none⟩ = some (.pointer (some ⟨g, 0, none⟩)) := (blk_cell HX2.out 0).trans rfl
  have z1 := HT2.out.c1
  have p0 := cell_bel HT2.out.low q0
  have p1 := cell_bel HT2.out.low q1
  have p2 := cell_bel HT2.out.low q2
  have p3 := cell_bel HT2.out.low q3
  have p4 := cell_bel HT2.out.low q4
  have p5 := cell_bel HT2.out.low q5
  have p6 := cell_bel HT2.out.low q6
  have p7 := cell_bel HT2.out.low q7
  clear q0 q1 q2 q3 q4 q5 q6 q7
  go_upto_region 5 with (fail)
  refine at_letter_ (fun W => Aside0 (TaskAt w0 g p (some ai) c l Al cl S As cs gb gv o (upd r i 1) W) ∧ Aside0 (KeepE (OwnG g) w W) ∧ Aside0 (W.heap[gx]? = some (.cells #[.pointer (some ⟨g, 0, none⟩)] 89 (0, 0))) ∧ Aside0 (W.heap[W2.heap.size]? = some (.cells #[.string x0, .string x1, .bool x2, .bool x3, .int .i64 x4, .int .i64 a, .int .i64 k, .slice A7 x7.length c7] 39 (0, 0))) ∧ Aside0 (¬ OwnG g W2.heap.size)) ⟨⟨HT2.out.keep (below_alloc (Below.refl _ _) _)⟩, ⟨HK2.out.trans (KeepE.of_below (below_alloc (Below.refl W2.heap.size _) _) (Nat.le_refl _))⟩, ⟨blk_alloc HX2.out _⟩, ⟨blk_new _ _⟩, ⟨fun e => by have e2 : W2.heap.size = g := e; have := lt_of_blk_ HT2.out.blk; omega⟩⟩ (fun W3 ⟨HT3, HK3, HX3, HI3, HGI⟩ => ?_)
  clear u2 z1 p0 p1 p2 p3 p4 p5 p6 p7 HX2
  generalize W2.heap.size = gi at HI3 HGI ⊢
  have u3 : W3.cell? ⟨gx, 0, none⟩ = some (.pointer (some ⟨g, 0, none⟩)) := (blk_cell HX3.out 0).trans rfl
  have u5 : W3.cell? ⟨gi, 5, none⟩ = some (.int .i64 a) := (blk_cell HI3.out 5).trans rfl
  have u6 : W3.cell? ⟨gi, 6, none⟩ = some (.int .i64 k) := (blk_cell HI3.out 6).trans rfl
  have u7 : W3.cell? ⟨gi, 7, none⟩ = some (.slice A7 x7.length c7) := (blk_cell HI3.out 7).trans rfl
  have v0 := HT3.out.c0
  have HVA : Aside0 (∀ j, 1 ≤ j → j ≤ a → upd r i 1 j = 0 ∨ upd r i 1 j = ansI (reachB p l S j)) := ⟨fun j h1 h2 => by rw [upd_other _ _ (by have := HAI.out; omega)]; exact HV.out j h1 (by have := HAI.out; omega)⟩
  have HTD : Aside0 (TaskAt w0 g p (some ai) c l Al cl S As cs gb gv o (upd r i 1) W3.drew) := ⟨HT3.out.keep (below_drewN (Below.refl W3.heap.size W3) 1)⟩
  have HRW := Aside0.mk (HRUN.out (upd r i 1) W3.drew HTD.out HVA.out)
  rw [HCR.out] at HRW
  have HRV : Aside0 (Calls Tryz.prog 103 #[.pointer (some ⟨g, 0, none⟩), .int .i64 a] W3.drew fun e w4 => e = .returned (.bool tR) ∧ ∃ r4, Aside0 (KeepE (OwnG g) W3 w4) ∧ Aside0 (TaskAt w0 g p (some ai) c l Al cl S As cs gb gv o r4 w4) ∧ Aside0 (∀ j, 1 ≤ j → j ≤ a → r4 j = 0 ∨ r4 j = ansI (reachB p l S j)) ∧ Aside0 (∀ j, a < j → r4 j = upd r i 1 j) ∧ Aside0 (w4.heap[gx]? = some (.cells #[.pointer (some ⟨g, 0, none⟩)] 89 (0, 0))) ∧ Aside0 (w4.heap[gi]? = some (.cells #[.string x0, .string x1, .bool x2, .bool x3, .int .i64 x4, .int .i64 a, .int .i64 k, .slice A7 x7.length c7] 39 (0, 0))) ∧ Aside0 ((fun w' => w'.cell? ⟨gx, 0, none⟩ = some (.pointer (some ⟨g, 0, none⟩)) ∧ w'.cell? ⟨gi, 5, none⟩ = some (.int .i64 a) ∧ w'.cell? ⟨gi, 6, none⟩ = some (.int .i64 k) ∧ w'.cell? ⟨gi, 7, none⟩ = some (.slice A7 x7.length c7) ∧ w'.cell? ⟨g, 0, none⟩ = some (.pointer (some ⟨gb, 0, none⟩))) w4) ∧ Aside0 (w4.cell? ⟨g, 69 + i, none⟩ = some (.int .i64 1)) ∧ Aside0 (w4.cell? ⟨gx, 0, none⟩ = some (.pointer (some ⟨g, 0, none⟩)))) := by
   refine ⟨HRW.out.mono ?_⟩
   rintro e w4 ⟨he, hk, r4, ht, hv4, hg4⟩
   have HK4 : KeepE (OwnG g) W3 w4 := (KeepE.of_below (n := W3.heap.size) (below_drewN (Below.refl W3.heap.size W3) 1) (Nat.le_refl _)).trans hk
   have HX4 := HK4.blk HX3.out HGX.out
   have HI4 := HK4.blk HI3.out HGI.out
   refine ⟨he, r4, ⟨HK4⟩, ⟨ht⟩, ⟨hv4⟩, ⟨hg4⟩, ⟨HX4⟩, ⟨HI4⟩, ⟨(blk_cell HX4 0).trans rfl, (blk_cell HI4 5).trans rfl, (blk_cell HI4 6).trans rfl, (blk_cell HI4 7).trans rfl, ht.c0⟩, ⟨?_⟩, ⟨(blk_cell HX4 0).trans rfl⟩⟩
   have y4 := ht.reach i HI64.out
   rw [hg4 i HAI.out, upd_same] at y4
   exact y4
  cases tR with
  | false =>
   have HBR : Aside0 (reachB p l S i = false) := ⟨by rw [HBQ]; rfl⟩
   clear HBQ
   refine start_ (n := 35) (S := fun w' => w'.cell? ⟨gx, 0, none⟩ = some (.pointer (some ⟨g, 0, none⟩)) ∧ w'.cell? ⟨gi, 5, none⟩ = some (.int .i64 a) ∧ w'.cell? ⟨gi, 6, none⟩ = some (.int .i64 k) ∧ w'.cell? ⟨gi, 7, none⟩ = some (.slice A7 x7.length c7) ∧ w'.cell? ⟨g, 0, none⟩ = some (.pointer (some ⟨gb, 0, none⟩))) (ds := []) rT0 (by kernel_rfl) rfl rfl ⟨((blk_cell (blk_drew HX3.out) 0).trans rfl), ((blk_cell (blk_drew HI3.out) 5).trans rfl), ((blk_cell (blk_drew HI3.out) 6).trans rfl), ((blk_cell (blk_drew HI3.out) 7).trans rfl), HTD.out.c0⟩ (fun hHeld => ?_)
   refine ws_ 32 rT1 [(1, false, some 29), (0, true, some 28), (2, true, some 30)] (by kernel_rfl) rfl ?_
   repeat (first | (refine ws_pure (v := ?_) (a' := ?_) rfl rfl (fun _ _ _ h => h) (Or.inl ⟨by rfl, ?_⟩) ?_ ?_; rotate_left; (focus intro w'; go_simp; with_reducible rfl); rotate_left; (focus simp only [Act.put, List.setIfInBounds_toArray, List.set_cons_zero, List.set_cons_succ, i64_w, i32_w]; rfl)) | (refine ws_take (v := ?_) (a' := ?_) rfl rfl (fun _ _ _ h => h) (Or.inl ⟨by rfl, ?_⟩) hHeld ?_ ?_; rotate_left; (focus rintro w' ⟨s0, s1, s2, s3, s4⟩; go_simp; with_reducible rfl); rotate_left; (focus simp only [Act.put, List.setIfInBounds_toArray, List.set_cons_zero, List.set_cons_succ, i64_w, i32_w]; rfl)))
   refine ws_nil ?_
   refine one_ (i := 3) (N := some 31) rT2 rfl rfl (by kernel_rfl) (by decide) (fun K hK => ?_)
   refine goes_ Tryz.func103 (by kernel_rfl) rfl #[.pointer (some ⟨g, 0, none⟩), .int .i64 a] (by rfl) rfl rfl (by simp only [List.map_toArray, List.map_cons, List.map_nil]; rfl) ?_
   with_reducible refine HRV.out.mono ?_
   rintro e w4 ⟨rfl, r4, HK4, HT4, HV4, HG4, HX4, HI4, HKW, HY4, HU4⟩
   refine ⟨_, rfl, ?_⟩
   refine hK.out _ _ ⟨HKW.out.1, HKW.out.2.1, HKW.out.2.2.1, HKW.out.2.2.2.1, HKW.out.2.2.2.2⟩ (fun hHeld => ?_)
   clear hK K
   refine norm_ (a' := ?_) ?_ ?_
   rotate_left
   ·show Act.put _ (some 31) _ = _
    simp only [Act.put, List.setIfInBounds_toArray, List.set_cons_zero, List.set_cons_succ, i64_w, i32_w]
    rfl
   refine ws_ 0 rT3 [(4, false, some 32), (5, false, some 33), (6, false, some 34), (7, false, some 35), (8, false, some 36), (9, false, some 37), (10, false, some 38), (11, false, some 39), (12, false, some 40), (13, false, some 41), (14, false, some 42), (15, false, some 43), (16, false, some 44), (17, false, some 45), (18, false, some 46), (19, false, some 47), (20, false, some 48), (21, false, some 49), (22, false, some 50), (23, false, some 51), (24, false, some 52), (25, false, some 53), (26, false, some 54), (27, false, some 55), (28, false, some 56), (29, false, some 57), (30, false, some 58), (31, false, some 59), (32, false, some 60), (33, false, some 61), (34, false, some 62)] (by kernel_rfl) rfl ?_
   repeat (first | (refine ws_pure (v := ?_) (a' := ?_) rfl rfl (fun _ _ _ h => h) (Or.inl ⟨by rfl, ?_⟩) ?_ ?_; rotate_left; (focus intro w'; go_simp; with_reducible rfl); rotate_left; (focus simp only [Act.put, List.setIfInBounds_toArray, List.set_cons_zero, List.set_cons_succ, i64_w, i32_w]; rfl)) | (refine ws_pure (v := undef) (a' := ?_) rfl rfl (fun _ _ _ h => h) (Or.inr ⟨by rfl, rfl⟩) ?_ ?_; rotate_left; (focus simp only [Act.put, List.setIfInBounds_toArray, List.set_cons_zero, List.set_cons_succ, i64_w, i32_w]; rfl)))
   refine ws_nil ?_
   refine done_ (by kernel_rfl) ?_
   have y4 := HY4.out
   have u4 := HU4.out
   go_wp2
   go_ret
   exact ⟨by rw [HBR.out]; rfl, HK3.out.trans HK4.out, r4, HT4.out, memo_no HAI.out HV.out HV4.out HG4.out HBR.out⟩
  | true =>
   by_cases nA : tA = (k : Int)
   case neg =>
    have bA : (tA == (k : Int)) = false := beq_eq_false_iff_ne.2 nA
    have HBR : Aside0 (reachB p l S i = false) := ⟨by rw [HBQ, bA]; rfl⟩
    clear HBQ
    refine start_ (n := 35) (S := fun w' => w'.cell? ⟨gx, 0, none⟩ = some (.pointer (some ⟨g, 0, none⟩)) ∧ w'.cell? ⟨gi, 5, none⟩ = some (.int .i64 a) ∧ w'.cell? ⟨gi, 6, none⟩ = some (.int .i64 k) ∧ w'.cell? ⟨gi, 7, none⟩ = some (.slice A7 x7.length c7) ∧ w'.cell? ⟨g, 0, none⟩ = some (.pointer (some ⟨gb, 0, none⟩))) (ds := []) rT0 (by kernel_rfl) rfl rfl ⟨((blk_cell (blk_drew HX3.out) 0).trans rfl), ((blk_cell (blk_drew HI3.out) 5).trans rfl), ((blk_cell (blk_drew HI3.out) 6).trans rfl), ((blk_cell (blk_drew HI3.out) 7).trans rfl), HTD.out.c0⟩ (fun hHeld => ?_)
    refine ws_ 32 rT1 [(1, false, some 29), (0, true, some 28), (2, true, some 30)] (by kernel_rfl) rfl ?_
    repeat (first | (refine ws_pure (v := ?_) (a' := ?_) rfl rfl (fun _ _ _ h => h) (Or.inl ⟨by rfl, ?_⟩) ?_ ?_; rotate_left; (focus intro w'; go_simp; with_reducible rfl); rotate_left; (focus simp only [Act.put, List.setIfInBounds_toArray, List.set_cons_zero, List.set_cons_succ, i64_w, i32_w]; rfl)) | (refine ws_take (v := ?_) (a' := ?_) rfl rfl (fun _ _ _ h => h) (Or.inl ⟨by rfl, ?_⟩) hHeld ?_ ?_; rotate_left; (focus rintro w' ⟨s0, s1, s2, s3, s4⟩; go_simp; with_reducible rfl); rotate_left; (focus simp only [Act.put, List.setIfInBounds_toArray, List.set_cons_zero, List.set_cons_succ, i64_w, i32_w]; rfl)))
    refine ws_nil ?_
    refine one_ (i := 3) (N := some 31) rT2 rfl rfl (by kernel_rfl) (by decide) (fun K hK => ?_)
    refine goes_ Tryz.func103 (by kernel_rfl) rfl #[.pointer (some ⟨g, 0, none⟩), .int .i64 a] (by rfl) rfl rfl (by simp only [List.map_toArray, List.map_cons, List.map_nil]; rfl) ?_
    with_reducible refine HRV.out.mono ?_
    rintro e w4 ⟨rfl, r4, HK4, HT4, HV4, HG4, HX4, HI4, HKW, HY4, HU4⟩
    refine ⟨_, rfl, ?_⟩
    refine hK.out _ _ ⟨HKW.out.1, HKW.out.2.1, HKW.out.2.2.1, HKW.out.2.2.2.1, HKW.out.2.2.2.2⟩ (fun hHeld => ?_)
    clear hK K
    refine norm_ (a' := ?_) ?_ ?_
    rotate_left
    ·show Act.put _ (some 31) _ = _
     simp only [Act.put, List.setIfInBounds_toArray, List.set_cons_zero, List.set_cons_succ, i64_w, i32_w]
     rfl
    refine ws_ 22 rT4 [(4, false, some 32), (9, false, some 37), (12, false, some 40), (5, true, some 33), (6, false, some 34), (7, false, some 35), (8, true, some 36), (10, true, some 38), (13, true, some 41)] (by kernel_rfl) rfl ?_
    repeat (first | (refine ws_pure (v := ?_) (a' := ?_) rfl rfl (fun _ _ _ h => h) (Or.inl ⟨by rfl, ?_⟩) ?_ ?_; rotate_left; (focus intro w'; go_simp; with_reducible rfl); rotate_left; (focus simp only [Act.put, List.setIfInBounds_toArray, List.set_cons_zero, List.set_cons_succ, i64_w, i32_w]; rfl)) | (refine ws_take (v := ?_) (a' := ?_) rfl rfl (fun _ _ _ h => h) (Or.inl ⟨by rfl, ?_⟩) hHeld ?_ ?_; rotate_left; (focus rintro w' ⟨s0, s1, s2, s3, s4⟩; go_simp; with_reducible rfl); rotate_left; (focus simp only [Act.put, List.setIfInBounds_toArray, List.set_cons_zero, List.set_cons_succ, i64_w, i32_w]; rfl)))
    refine ws_nil ?_
    refine one_ (i := 11) (N := some 39) rT5 rfl rfl (by kernel_rfl) (by decide) (fun K hK => ?_)
    obtain ⟨Ab, cb, hbd⟩ := HT4.out.st.bd
    refine goes_ Tryz.func104 (by kernel_rfl) rfl #[.pointer (some ⟨gb, 0, none⟩), .int .i64 a] (by rfl) rfl rfl (by simp only [List.map_toArray, List.map_cons, List.map_nil]; rfl) ?_
    with_reducible refine (at_walk hbd HN0.out a).mono ?_
    rw [HCA.out]
    clear hbd
    rintro e w5 ⟨rfl, rfl⟩
    refine ⟨_, rfl, ?_⟩
    refine hK.out _ _ ⟨HKW.out.1, HKW.out.2.1, HKW.out.2.2.1, HKW.out.2.2.2.1, HKW.out.2.2.2.2⟩ (fun hHeld => ?_)
    clear hK K
    refine norm_ (a' := ?_) ?_ ?_
    rotate_left
    ·show Act.put _ (some 39) _ = _
     simp only [Act.put, List.setIfInBounds_toArray, List.set_cons_zero, List.set_cons_succ, i64_w, i32_w]
     rfl
    refine ws_ 0 rT3 [(14, false, some 42), (15, false, some 43), (16, false, some 44), (17, false, some 45), (18, false, some 46), (19, false, some 47), (20, false, some 48), (21, false, some 49), (22, false, some 50), (23, false, some 51), (24, false, some 52), (25, false, some 53), (26, false, some 54), (27, false, some 55), (28, false, some 56), (29, false, some 57), (30, false, some 58), (31, false, some 59), (32, false, some 60), (33, false, some 61), (34, false, some 62)] (by kernel_rfl) rfl ?_
    repeat (first | (refine ws_pure (v := ?_) (a' := ?_) rfl rfl (fun _ _ _ h => h) (Or.inl ⟨by rfl, ?_⟩) ?_ ?_; rotate_left; (focus intro w'; go_simp; with_reducible rfl); rotate_left; (focus simp only [Act.put, List.setIfInBounds_toArray, List.set_cons_zero, List.set_cons_succ, i64_w, i32_w]; rfl)) | (refine ws_pure (v := undef) (a' := ?_) rfl rfl (fun _ _ _ h => h) (Or.inr ⟨by rfl, rfl⟩) ?_ ?_; rotate_left; (focus simp only [Act.put, List.setIfInBounds_toArray, List.set_cons_zero, List.set_cons_succ, i64_w, i32_w]; rfl)))
    refine ws_nil ?_
    refine done_ (by kernel_rfl) ?_
    have y4 := HY4.out
    have u4 := HU4.out
    go_wp2
    go_ret
    exact ⟨by rw [HBR.out]; rfl, HK3.out.trans HK4.out, r4, HT4.out, memo_no HAI.out HV.out HV4.out HG4.out HBR.out⟩
   subst nA
   rw [beq_self_eq_true] at HBQ
   cases tF with
   | true =>
    have HBR : Aside0 (reachB p l S i = false) := ⟨by rw [HBQ]; rfl⟩
    clear HBQ
    refine start_ (n := 35) (S := fun w' => w'.cell? ⟨gx, 0, none⟩ = some (.pointer (some ⟨g, 0, none⟩)) ∧ w'.cell? ⟨gi, 5, none⟩ = some (.int .i64 a) ∧ w'.cell? ⟨gi, 6, none⟩ = some (.int .i64 k) ∧ w'.cell? ⟨gi, 7, none⟩ = some (.slice A7 x7.length c7) ∧ w'.cell? ⟨g, 0, none⟩ = some (.pointer (some ⟨gb, 0, none⟩))) (ds := []) rT0 (by kernel_rfl) rfl rfl ⟨((blk_cell (blk_drew HX3.out) 0).trans rfl), ((blk_cell (blk_drew HI3.out) 5).trans rfl), ((blk_cell (blk_drew HI3.out) 6).trans rfl), ((blk_cell (blk_drew HI3.out) 7).trans rfl), HTD.out.c0⟩ (fun hHeld => ?_)
    refine ws_ 32 rT1 [(1, false, some 29), (0, true, some 28), (2, true, some 30)] (by kernel_rfl) rfl ?_
    repeat (first | (refine ws_pure (v := ?_) (a' := ?_) rfl rfl (fun _ _ _ h => h) (Or.inl ⟨by rfl, ?_⟩) ?_ ?_; rotate_left; (focus intro w'; go_simp; with_reducible rfl); rotate_left; (focus simp only [Act.put, List.setIfInBounds_toArray, List.set_cons_zero, List.set_cons_succ, i64_w, i32_w]; rfl)) | (refine ws_take (v := ?_) (a' := ?_) rfl rfl (fun _ _ _ h => h) (Or.inl ⟨by rfl, ?_⟩) hHeld ?_ ?_; rotate_left; (focus rintro w' ⟨s0, s1, s2, s3, s4⟩; go_simp; with_reducible rfl); rotate_left; (focus simp only [Act.put, List.setIfInBounds_toArray, List.set_cons_zero, List.set_cons_succ, i64_w, i32_w]; rfl)))
    refine ws_nil ?_
    refine one_ (i := 3) (N := some 31) rT2 rfl rfl (by kernel_rfl) (by decide) (fun K hK => ?_)
    refine goes_ Tryz.func103 (by kernel_rfl) rfl #[.pointer (some ⟨g, 0, none⟩), .int .i64 a] (by rfl) rfl rfl (by simp only [List.map_toArray, List.map_cons, List.map_nil]; rfl) ?_
    with_reducible refine HRV.out.mono ?_
    rintro e w4 ⟨rfl, r4, HK4, HT4, HV4, HG4, HX4, HI4, HKW, HY4, HU4⟩
    refine ⟨_, rfl, ?_⟩
    refine hK.out _ _ ⟨HKW.out.1, HKW.out.2.1, HKW.out.2.2.1, HKW.out.2.2.2.1, HKW.out.2.2.2.2⟩ (fun hHeld => ?_)
    clear hK K
    refine norm_ (a' := ?_) ?_ ?_
    rotate_left
    ·show Act.put _ (some 31) _ = _
     simp only [Act.put, List.setIfInBounds_toArray, List.set_cons_zero, List.set_cons_succ, i64_w, i32_w]
     rfl
    refine ws_ 22 rT4 [(4, false, some 32), (9, false, some 37), (12, false, some 40), (5, true, some 33), (6, false, some 34), (7, false, some 35), (8, true, some 36), (10, true, some 38), (13, true, some 41)] (by kernel_rfl) rfl ?_
    repeat (first | (refine ws_pure (v := ?_) (a' := ?_) rfl rfl (fun _ _ _ h => h) (Or.inl ⟨by rfl, ?_⟩) ?_ ?_; rotate_left; (focus intro w'; go_simp; with_reducible rfl); rotate_left; (focus simp only [Act.put, List.setIfInBounds_toArray, List.set_cons_zero, List.set_cons_succ, i64_w, i32_w]; rfl)) | (refine ws_take (v := ?_) (a' := ?_) rfl rfl (fun _ _ _ h => h) (Or.inl ⟨by rfl, ?_⟩) hHeld ?_ ?_; rotate_left; (focus rintro w' ⟨s0, s1, s2, s3, s4⟩; go_simp; with_reducible rfl); rotate_left; (focus simp only [Act.put, List.setIfInBounds_toArray, List.set_cons_zero, List.set_cons_succ, i64_w, i32_w]; rfl)))
    refine ws_nil ?_
    refine one_ (i := 11) (N := some 39) rT5 rfl rfl (by kernel_rfl) (by decide) (fun K hK => ?_)
    obtain ⟨Ab, cb, hbd⟩ := HT4.out.st.bd
    refine goes_ Tryz.func104 (by kernel_rfl) rfl #[.pointer (some ⟨gb, 0, none⟩), .int .i64 a] (by rfl) rfl rfl (by simp only [List.map_toArray, List.map_cons, List.map_nil]; rfl) ?_
    with_reducible refine (at_walk hbd HN0.out a).mono ?_
    rw [HCA.out]
    clear hbd
    rintro e w5 ⟨rfl, rfl⟩
    refine ⟨_, rfl, ?_⟩
    refine hK.out _ _ ⟨HKW.out.1, HKW.out.2.1, HKW.out.2.2.1, HKW.out.2.2.2.1, HKW.out.2.2.2.2⟩ (fun hHeld => ?_)
    clear hK K
    refine norm_ (a' := ?_) ?_ ?_
    rotate_left
    ·show Act.put _ (some 39) _ = _
     simp only [Act.put, List.setIfInBounds_toArray, List.set_cons_zero, List.set_cons_succ, i64_w, i32_w]
     rfl
    refine ws_ 10 rT6 [(14, false, some 42), (15, false, some 43), (16, false, some 44), (21, false, some 49), (23, false, some 51), (17, true, some 45), (18, false, some 46), (19, false, some 47), (20, true, some 48), (22, true, some 50), (24, true, some 52)] (by kernel_rfl) rfl ?_
    repeat (first | (refine ws_pure (v := ?_) (a' := ?_) rfl rfl (fun _ _ _ h => h) (Or.inl ⟨by rfl, ?_⟩) ?_ ?_; rotate_left; (focus intro w'; go_simp; with_reducible rfl); rotate_left; (focus simp only [Act.put, List.setIfInBounds_toArray, List.set_cons_zero, List.set_cons_succ, i64_w, i32_w]; rfl)) | (refine ws_take (v := ?_) (a' := ?_) rfl rfl (fun _ _ _ h => h) (Or.inl ⟨by rfl, ?_⟩) hHeld ?_ ?_; rotate_left; (focus rintro w' ⟨s0, s1, s2, s3, s4⟩; go_simp; with_reducible rfl); rotate_left; (focus simp only [Act.put, List.setIfInBounds_toArray, List.set_cons_zero, List.set_cons_succ, i64_w, i32_w]; rfl)))
    refine ws_nil ?_
    refine one_ (i := 25) (N := some 53) rT7 rfl rfl (by kernel_rfl) (by decide) (fun K hK => ?_)
    obtain ⟨Ab, cb, hbd⟩ := HT4.out.st.bd
    refine goes_ Tryz.func43 (by kernel_rfl) rfl #[.pointer (some ⟨gb, 0, none⟩), .int .i64 a, .int .i64 k] (by rfl) rfl rfl (by simp only [List.map_toArray, List.map_cons, List.map_nil]; rfl) ?_
    with_reducible refine (falling_walk hbd HSP.out a k).mono ?_
    rw [HCF.out]
    clear hbd
    rintro e w6 ⟨rfl, rfl⟩
    refine ⟨_, rfl, ?_⟩
    refine hK.out _ _ ⟨HKW.out.1, HKW.out.2.1, HKW.out.2.2.1, HKW.out.2.2.2.1, HKW.out.2.2.2.2⟩ (fun hHeld => ?_)
    clear hK K
    refine norm_ (a' := ?_) ?_ ?_
    rotate_left
    ·show Act.put _ (some 53) _ = _
     simp only [Act.put, List.setIfInBounds_toArray, List.set_cons_zero, List.set_cons_succ, i64_w, i32_w]
     rfl
    refine ws_ 0 rT3 [(26, false, some 54), (27, false, some 55), (28, false, some 56), (29, false, some 57), (30, false, some 58), (31, false, some 59), (32, false, some 60), (33, false, some 61), (34, false, some 62)] (by kernel_rfl) rfl ?_
    repeat (first | (refine ws_pure (v := ?_) (a' := ?_) rfl rfl (fun _ _ _ h => h) (Or.inl ⟨by rfl, ?_⟩) ?_ ?_; rotate_left; (focus intro w'; go_simp; with_reducible rfl); rotate_left; (focus simp only [Act.put, List.setIfInBounds_toArray, List.set_cons_zero, List.set_cons_succ, i64_w, i32_w]; rfl)) | (refine ws_pure (v := undef) (a' := ?_) rfl rfl (fun _ _ _ h => h) (Or.inr ⟨by rfl, rfl⟩) ?_ ?_; rotate_left; (focus simp only [Act.put, List.setIfInBounds_toArray, List.set_cons_zero, List.set_cons_succ, i64_w, i32_w]; rfl)))
    refine ws_nil ?_
    refine done_ (by kernel_rfl) ?_
    have y4 := HY4.out
    have u4 := HU4.out
    go_wp2
    go_ret
    exact ⟨by rw [HBR.out]; rfl, HK3.out.trans HK4.out, r4, HT4.out, memo_no HAI.out HV.out HV4.out HG4.out HBR.out⟩
   | false =>
    cases tL with
    | true =>
     have HBR : Aside0 (reachB p l S i = false) := ⟨by rw [HBQ]; rfl⟩
     clear HBQ
     refine start_ (n := 35) (S := fun w' => w'.cell? ⟨gx, 0, none⟩ = some (.pointer (some ⟨g, 0, none⟩)) ∧ w'.cell? ⟨gi, 5, none⟩ = some (.int .i64 a) ∧ w'.cell? ⟨gi, 6, none⟩ = some (.int .i64 k) ∧ w'.cell? ⟨gi, 7, none⟩ = some (.slice A7 x7.length c7) ∧ w'.cell? ⟨g, 0, none⟩ = some (.pointer (some ⟨gb, 0, none⟩))) (ds := []) rT0 (by kernel_rfl) rfl rfl ⟨((blk_cell (blk_drew HX3.out) 0).trans rfl), ((blk_cell (blk_drew HI3.out) 5).trans rfl), ((blk_cell (blk_drew HI3.out) 6).trans rfl), ((blk_cell (blk_drew HI3.out) 7).trans rfl), HTD.out.c0⟩ (fun hHeld => ?_)
     refine ws_ 32 rT1 [(1, false, some 29), (0, true, some 28), (2, true, some 30)] (by kernel_rfl) rfl ?_
     repeat (first | (refine ws_pure (v := ?_) (a' := ?_) rfl rfl (fun _ _ _ h => h) (Or.inl ⟨by rfl, ?_⟩) ?_ ?_; rotate_left; (focus intro w'; go_simp; with_reducible rfl); rotate_left; (focus simp only [Act.put, List.setIfInBounds_toArray, List.set_cons_zero, List.set_cons_succ, i64_w, i32_w]; rfl)) | (refine ws_take (v := ?_) (a' := ?_) rfl rfl (fun _ _ _ h => h) (Or.inl ⟨by rfl, ?_⟩) hHeld ?_ ?_; rotate_left; (focus rintro w' ⟨s0, s1, s2, s3, s4⟩; go_simp; with_reducible rfl); rotate_left; (focus simp only [Act.put, List.setIfInBounds_toArray, List.set_cons_zero, List.set_cons_succ, i64_w, i32_w]; rfl)))
     refine ws_nil ?_
     refine one_ (i := 3) (N := some 31) rT2 rfl rfl (by kernel_rfl) (by decide) (fun K hK => ?_)
     refine goes_ Tryz.func103 (by kernel_rfl) rfl #[.pointer (some ⟨g, 0, none⟩), .int .i64 a] (by rfl) rfl rfl (by simp only [List.map_toArray, List.map_cons, List.map_nil]; rfl) ?_
     with_reducible refine HRV.out.mono ?_
     rintro e w4 ⟨rfl, r4, HK4, HT4, HV4, HG4, HX4, HI4, HKW, HY4, HU4⟩
     refine ⟨_, rfl, ?_⟩
     refine hK.out _ _ ⟨HKW.out.1, HKW.out.2.1, HKW.out.2.2.1, HKW.out.2.2.2.1, HKW.out.2.2.2.2⟩ (fun hHeld => ?_)
     clear hK K
     refine norm_ (a' := ?_) ?_ ?_
     rotate_left
     ·show Act.put _ (some 31) _ = _
      simp only [Act.put, List.setIfInBounds_toArray, List.set_cons_zero, List.set_cons_succ, i64_w, i32_w]
      rfl
     refine ws_ 22 rT4 [(4, false, some 32), (9, false, some 37), (12, false, some 40), (5, true, some 33), (6, false, some 34), (7, false, some 35), (8, true, some 36), (10, true, some 38), (13, true, some 41)] (by kernel_rfl) rfl ?_
     repeat (first | (refine ws_pure (v := ?_) (a' := ?_) rfl rfl (fun _ _ _ h => h) (Or.inl ⟨by rfl, ?_⟩) ?_ ?_; rotate_left; (focus intro w'; go_simp; with_reducible rfl); rotate_left; (focus simp only [Act.put, List.setIfInBounds_toArray, List.set_cons_zero, List.set_cons_succ, i64_w, i32_w]; rfl)) | (refine ws_take (v := ?_) (a' := ?_) rfl rfl (fun _ _ _ h => h) (Or.inl ⟨by rfl, ?_⟩) hHeld ?_ ?_; rotate_left; (focus rintro w' ⟨s0, s1, s2, s3, s4⟩; go_simp; with_reducible rfl); rotate_left; (focus simp only [Act.put, List.setIfInBounds_toArray, List.set_cons_zero, List.set_cons_succ, i64_w, i32_w]; rfl)))
     refine ws_nil ?_
     refine one_ (i := 11) (N := some 39) rT5 rfl rfl (by kernel_rfl) (by decide) (fun K hK => ?_)
     obtain ⟨Ab, cb, hbd⟩ := HT4.out.st.bd
     refine goes_ Tryz.func104 (by kernel_rfl) rfl #[.pointer (some ⟨gb, 0, none⟩), .int .i64 a] (by rfl) rfl rfl (by simp only [List.map_toArray, List.map_cons, List.map_nil]; rfl) ?_
     with_reducible refine (at_walk hbd HN0.out a).mono ?_
     rw [HCA.out]
     clear hbd
     rintro e w5 ⟨rfl, rfl⟩
     refine ⟨_, rfl, ?_⟩
     refine hK.out _ _ ⟨HKW.out.1, HKW.out.2.1, HKW.out.2.2.1, HKW.out.2.2.2.1, HKW.out.2.2.2.2⟩ (fun hHeld => ?_)
     clear hK K
     refine norm_ (a' := ?_) ?_ ?_
     rotate_left
     ·show Act.put _ (some 39) _ = _
      simp only [Act.put, List.setIfInBounds_toArray, List.set_cons_zero, List.set_cons_succ, i64_w, i32_w]
      rfl
     refine ws_ 10 rT6 [(14, false, some 42), (15, false, some 43), (16, false, some 44), (21, false, some 49), (23, false, some 51), (17, true, some 45), (18, false, some 46), (19, false, some 47), (20, true, some 48), (22, true, some 50), (24, true, some 52)] (by kernel_rfl) rfl ?_
     repeat (first | (refine ws_pure (v := ?_) (a' := ?_) rfl rfl (fun _ _ _ h => h) (Or.inl ⟨by rfl, ?_⟩) ?_ ?_; rotate_left; (focus intro w'; go_simp; with_reducible rfl); rotate_left; (focus simp only [Act.put, List.setIfInBounds_toArray, List.set_cons_zero, List.set_cons_succ, i64_w, i32_w]; rfl)) | (refine ws_take (v := ?_) (a' := ?_) rfl rfl (fun _ _ _ h => h) (Or.inl ⟨by rfl, ?_⟩) hHeld ?_ ?_; rotate_left; (focus rintro w' ⟨s0, s1, s2, s3, s4⟩; go_simp; with_reducible rfl); rotate_left; (focus simp only [Act.put, List.setIfInBounds_toArray, List.set_cons_zero, List.set_cons_succ, i64_w, i32_w]; rfl)))
     refine ws_nil ?_
     refine one_ (i := 25) (N := some 53) rT7 rfl rfl (by kernel_rfl) (by decide) (fun K hK => ?_)
     obtain ⟨Ab, cb, hbd⟩ := HT4.out.st.bd
     refine goes_ Tryz.func43 (by kernel_rfl) rfl #[.pointer (some ⟨gb, 0, none⟩), .int .i64 a, .int .i64 k] (by rfl) rfl rfl (by simp only [List.map_toArray, List.map_cons, List.map_nil]; rfl) ?_
     with_reducible refine (falling_walk hbd HSP.out a k).mono ?_
     rw [HCF.out]
     clear hbd
     rintro e w6 ⟨rfl, rfl⟩
     refine ⟨_, rfl, ?_⟩
     refine hK.out _ _ ⟨HKW.out.1, HKW.out.2.1, HKW.out.2.2.1, HKW.out.2.2.2.1, HKW.out.2.2.2.2⟩ (fun hHeld => ?_)
     clear hK K
     refine norm_ (a' := ?_) ?_ ?_
     rotate_left
     ·show Act.put _ (some 53) _ = _
      simp only [Act.put, List.setIfInBounds_toArray, List.set_cons_zero, List.set_cons_succ, i64_w, i32_w]
      rfl
     refine ws_ 3 rT8 [(26, false, some 54), (27, false, some 55), (28, false, some 56), (29, false, some 57), (31, false, some 59), (30, true, some 58)] (by kernel_rfl) rfl ?_
     repeat (first | (refine ws_pure (v := ?_) (a' := ?_) rfl rfl (fun _ _ _ h => h) (Or.inl ⟨by rfl, ?_⟩) ?_ ?_; rotate_left; (focus intro w'; go_simp; with_reducible rfl); rotate_left; (focus simp only [Act.put, List.setIfInBounds_toArray, List.set_cons_zero, List.set_cons_succ, i64_w, i32_w]; rfl)) | (refine ws_take (v := ?_) (a' := ?_) rfl rfl (fun _ _ _ h => h) (Or.inl ⟨by rfl, ?_⟩) hHeld ?_ ?_; rotate_left; (focus rintro w' ⟨s0, s1, s2, s3, s4⟩; go_simp; with_reducible rfl); rotate_left; (focus simp only [Act.put, List.setIfInBounds_toArray, List.set_cons_zero, List.set_cons_succ, i64_w, i32_w]; rfl)))
     refine ws_nil ?_
     refine one_ (i := 32) (N := some 60) rT9 rfl rfl (by kernel_rfl) (by decide) (fun K hK => ?_)
     have HCO := Aside0.mk (contains_func_int 101 #[.pointer (some ⟨gx, 0, none⟩)] HE.out (lateB p S) A7 c7 x7 w6 (Kd.C_below HC7.out HT4.out.low) (fun j hj W hW => by obtain ⟨n, hn, hlt⟩ := HX7.out x7[j] (List.getElem_mem hj); rw [hn]; exact late_lit (HT4.out.keep hW) gx (blk_below HX4.out hW) n hlt))
     refine goes_ Tryz.func77 (by kernel_rfl) rfl #[.slice A7 x7.length c7, .func (.func 101) #[] #[.pointer (some ⟨gx, 0, none⟩)]] (by rfl) rfl rfl (by simp only [List.map_toArray, List.map_cons, List.map_nil]; rfl) ?_
     with_reducible refine HCO.out.mono ?_
     rw [HCL.out]
     rintro e w7 ⟨rfl, hb⟩
     refine ⟨_, rfl, ?_⟩
     have HB7 := Aside0.mk hb
     have HT7 := Aside0.mk (HT4.out.keep hb)
     have HX7_ := Aside0.mk (blk_below HX4.out hb)
     have HI7 := Aside0.mk (blk_below HI4.out hb)
     clear hb
     refine hK.out _ _ ⟨((blk_cell HX7_.out 0).trans rfl), ((blk_cell HI7.out 5).trans rfl), ((blk_cell HI7.out 6).trans rfl), ((blk_cell HI7.out 7).trans rfl), HT7.out.c0⟩ (fun hHeld => ?_)
     clear hK K
     refine norm_ (a' := ?_) ?_ ?_
     rotate_left
     ·show Act.put _ (some 60) _ = _
      simp only [Act.put, List.setIfInBounds_toArray, List.set_cons_zero, List.set_cons_succ, i64_w, i32_w]
      rfl
     refine ws_ 0 rT3 [(33, false, some 61), (34, false, some 62)] (by kernel_rfl) rfl ?_
     repeat (first | (refine ws_pure (v := ?_) (a' := ?_) rfl rfl (fun _ _ _ h => h) (Or.inl ⟨by rfl, ?_⟩) ?_ ?_; rotate_left; (focus intro w'; go_simp; with_reducible rfl); rotate_left; (focus simp only [Act.put, List.setIfInBounds_toArray, List.set_cons_zero, List.set_cons_succ, i64_w, i32_w]; rfl)))
     refine ws_nil ?_
     refine done_ (by kernel_rfl) ?_
     have y7 := HT7.out.reach i HI64.out
     rw [HG4.out i HAI.out, upd_same] at y7
     have u7 : w7.cell? ⟨gx, 0, none⟩ = some (.pointer (some ⟨g, 0, none⟩)) := (blk_cell HX7_.out 0).trans rfl
     have f7 := HT7.out.free (69 + i)
     go_wp2
     go_ret
     exact ⟨by rw [HBR.out]; rfl, (HK3.out.trans HK4.out).trans (KeepE.of_below HB7.out (Nat.le_refl _)), r4, HT7.out, memo_no HAI.out HV.out HV4.out HG4.out HBR.out⟩
    | false =>
     have HBR : Aside0 (reachB p l S i = true) := ⟨by rw [HBQ]; rfl⟩
     clear HBQ
     refine start_ (n := 35) (S := fun w' => w'.cell? ⟨gx, 0, none⟩ = some (.pointer (some ⟨g, 0, none⟩)) ∧ w'.cell? ⟨gi, 5, none⟩ = some (.int .i64 a) ∧ w'.cell? ⟨gi, 6, none⟩ = some (.int .i64 k) ∧ w'.cell? ⟨gi, 7, none⟩ = some (.slice A7 x7.length c7) ∧ w'.cell? ⟨g, 0, none⟩ = some (.pointer (some ⟨gb, 0, none⟩))) (ds := []) rT0 (by kernel_rfl) rfl rfl ⟨((blk_cell (blk_drew HX3.out) 0).trans rfl), ((blk_cell (blk_drew HI3.out) 5).trans rfl), ((blk_cell (blk_drew HI3.out) 6).trans rfl), ((blk_cell (blk_drew HI3.out) 7).trans rfl), HTD.out.c0⟩ (fun hHeld => ?_)
     refine ws_ 32 rT1 [(1, false, some 29), (0, true, some 28), (2, true, some 30)] (by kernel_rfl) rfl ?_
     repeat (first | (refine ws_pure (v := ?_) (a' := ?_) rfl rfl (fun _ _ _ h => h) (Or.inl ⟨by rfl, ?_⟩) ?_ ?_; rotate_left; (focus intro w'; go_simp; with_reducible rfl); rotate_left; (focus simp only [Act.put, List.setIfInBounds_toArray, List.set_cons_zero, List.set_cons_succ, i64_w, i32_w]; rfl)) | (refine ws_take (v := ?_) (a' := ?_) rfl rfl (fun _ _ _ h => h) (Or.inl ⟨by rfl, ?_⟩) hHeld ?_ ?_; rotate_left; (focus rintro w' ⟨s0, s1, s2, s3, s4⟩; go_simp; with_reducible rfl); rotate_left; (focus simp only [Act.put, List.setIfInBounds_toArray, List.set_cons_zero, List.set_cons_succ, i64_w, i32_w]; rfl)))
     refine ws_nil ?_
     refine one_ (i := 3) (N := some 31) rT2 rfl rfl (by kernel_rfl) (by decide) (fun K hK => ?_)
     refine goes_ Tryz.func103 (by kernel_rfl) rfl #[.pointer (some ⟨g, 0, none⟩), .int .i64 a] (by rfl) rfl rfl (by simp only [List.map_toArray, List.map_cons, List.map_nil]; rfl) ?_
     with_reducible refine HRV.out.mono ?_
     rintro e w4 ⟨rfl, r4, HK4, HT4, HV4, HG4, HX4, HI4, HKW, HY4, HU4⟩
     refine ⟨_, rfl, ?_⟩
     refine hK.out _ _ ⟨HKW.out.1, HKW.out.2.1, HKW.out.2.2.1, HKW.out.2.2.2.1, HKW.out.2.2.2.2⟩ (fun hHeld => ?_)
     clear hK K
     refine norm_ (a' := ?_) ?_ ?_
     rotate_left
     ·show Act.put _ (some 31) _ = _
      simp only [Act.put, List.setIfInBounds_toArray, List.set_cons_zero, List.set_cons_succ, i64_w, i32_w]
      rfl
     refine ws_ 22 rT4 [(4, false, some 32), (9, false, some 37), (12, false, some 40), (5, true, some 33), (6, false, some 34), (7, false, some 35), (8, true, some 36), (10, true, some 38), (13, true, some 41)] (by kernel_rfl) rfl ?_
     repeat (first | (refine ws_pure (v := ?_) (a' := ?_) rfl rfl (fun _ _ _ h => h) (Or.inl ⟨by rfl, ?_⟩) ?_ ?_; rotate_left; (focus intro w'; go_simp; with_reducible rfl); rotate_left; (focus simp only [Act.put, List.setIfInBounds_toArray, List.set_cons_zero, List.set_cons_succ, i64_w, i32_w]; rfl)) | (refine ws_take (v := ?_) (a' := ?_) rfl rfl (fun _ _ _ h => h) (Or.inl ⟨by rfl, ?_⟩) hHeld ?_ ?_; rotate_left; (focus rintro w' ⟨s0, s1, s2, s3, s4⟩; go_simp; with_reducible rfl); rotate_left; (focus simp only [Act.put, List.setIfInBounds_toArray, List.set_cons_zero, List.set_cons_succ, i64_w, i32_w]; rfl)))
     refine ws_nil ?_
     refine one_ (i := 11) (N := some 39) rT5 rfl rfl (by kernel_rfl) (by decide) (fun K hK => ?_)
     obtain ⟨Ab, cb, hbd⟩ := HT4.out.st.bd
     refine goes_ Tryz.func104 (by kernel_rfl) rfl #[.pointer (some ⟨gb, 0, none⟩), .int .i64 a] (by rfl) rfl rfl (by simp only [List.map_toArray, List.map_cons, List.map_nil]; rfl) ?_
     with_reducible refine (at_walk hbd HN0.out a).mono ?_
     rw [HCA.out]
     clear hbd
     rintro e w5 ⟨rfl, rfl⟩
     refine ⟨_, rfl, ?_⟩
     refine hK.out _ _ ⟨HKW.out.1, HKW.out.2.1, HKW.out.2.2.1, HKW.out.2.2.2.1, HKW.out.2.2.2.2⟩ (fun hHeld => ?_)
     clear hK K
     refine norm_ (a' := ?_) ?_ ?_
     rotate_left
     ·show Act.put _ (some 39) _ = _
      simp only [Act.put, List.setIfInBounds_toArray, List.set_cons_zero, List.set_cons_succ, i64_w, i32_w]
      rfl
     refine ws_ 10 rT6 [(14, false, some 42), (15, false, some 43), (16, false, some 44), (21, false, some 49), (23, false, some 51), (17, true, some 45), (18, false, some 46), (19, false, some 47), (20, true, some 48), (22, true, some 50), (24, true, some 52)] (by kernel_rfl) rfl ?_
     repeat (first | (refine ws_pure (v := ?_) (a' := ?_) rfl rfl (fun _ _ _ h => h) (Or.inl ⟨by rfl, ?_⟩) ?_ ?_; rotate_left; (focus intro w'; go_simp; with_reducible rfl); rotate_left; (focus simp only [Act.put, List.setIfInBounds_toArray, List.set_cons_zero, List.set_cons_succ, i64_w, i32_w]; rfl)) | (refine ws_take (v := ?_) (a' := ?_) rfl rfl (fun _ _ _ h => h) (Or.inl ⟨by rfl, ?_⟩) hHeld ?_ ?_; rotate_left; (focus rintro w' ⟨s0, s1, s2, s3, s4⟩; go_simp; with_reducible rfl); rotate_left; (focus simp only [Act.put, List.setIfInBounds_toArray, List.set_cons_zero, List.set_cons_succ, i64_w, i32_w]; rfl)))
     refine ws_nil ?_
     refine one_ (i := 25) (N := some 53) rT7 rfl rfl (by kernel_rfl) (by decide) (fun K hK => ?_)
     obtain ⟨Ab, cb, hbd⟩ := HT4.out.st.bd
     refine goes_ Tryz.func43 (by kernel_rfl) rfl #[.pointer (some ⟨gb, 0, none⟩), .int .i64 a, .int .i64 k] (by rfl) rfl rfl (by simp only [List.map_toArray, List.map_cons, List.map_nil]; rfl) ?_
     with_reducible refine (falling_walk hbd HSP.out a k).mono ?_
     rw [HCF.out]
     clear hbd
     rintro e w6 ⟨rfl, rfl⟩
     refine ⟨_, rfl, ?_⟩
     refine hK.out _ _ ⟨HKW.out.1, HKW.out.2.1, HKW.out.2.2.1, HKW.out.2.2.2.1, HKW.out.2.2.2.2⟩ (fun hHeld => ?_)
     clear hK K
     refine norm_ (a' := ?_) ?_ ?_
     rotate_left
     ·show Act.put _ (some 53) _ = _
      simp only [Act.put, List.setIfInBounds_toArray, List.set_cons_zero, List.set_cons_succ, i64_w, i32_w]
      rfl
     refine ws_ 3 rT8 [(26, false, some 54), (27, false, some 55), (28, false, some 56), (29, false, some 57), (31, false, some 59), (30, true, some 58)] (by kernel_rfl) rfl ?_
     repeat (first | (refine ws_pure (v := ?_) (a' := ?_) rfl rfl (fun _ _ _ h => h) (Or.inl ⟨by rfl, ?_⟩) ?_ ?_; rotate_left; (focus intro w'; go_simp; with_reducible rfl); rotate_left; (focus simp only [Act.put, List.setIfInBounds_toArray, List.set_cons_zero, List.set_cons_succ, i64_w, i32_w]; rfl)) | (refine ws_take (v := ?_) (a' := ?_) rfl rfl (fun _ _ _ h => h) (Or.inl ⟨by rfl, ?_⟩) hHeld ?_ ?_; rotate_left; (focus rintro w' ⟨s0, s1, s2, s3, s4⟩; go_simp; with_reducible rfl); rotate_left; (focus simp only [Act.put, List.setIfInBounds_toArray, List.set_cons_zero, List.set_cons_succ, i64_w, i32_w]; rfl)))
     refine ws_nil ?_
     refine one_ (i := 32) (N := some 60) rT9 rfl rfl (by kernel_rfl) (by decide) (fun K hK => ?_)
     have HCO := Aside0.mk (contains_func_int 101 #[.pointer (some ⟨gx, 0, none⟩)] HE.out (lateB p S) A7 c7 x7 w6 (Kd.C_below HC7.out HT4.out.low) (fun j hj W hW => by obtain ⟨n, hn, hlt⟩ := HX7.out x7[j] (List.getElem_mem hj); rw [hn]; exact late_lit (HT4.out.keep hW) gx (blk_below HX4.out hW) n hlt))
     refine goes_ Tryz.func77 (by kernel_rfl) rfl #[.slice A7 x7.length c7, .func (.func 101) #[] #[.pointer (some ⟨gx, 0, none⟩)]] (by rfl) rfl rfl (by simp only [List.map_toArray, List.map_cons, List.map_nil]; rfl) ?_
     with_reducible refine HCO.out.mono ?_
     rw [HCL.out]
     rintro e w7 ⟨rfl, hb⟩
     refine ⟨_, rfl, ?_⟩
     have HB7 := Aside0.mk hb
     have HT7 := Aside0.mk (HT4.out.keep hb)
     have HX7_ := Aside0.mk (blk_below HX4.out hb)
     have HI7 := Aside0.mk (blk_below HI4.out hb)
     clear hb
     refine hK.out _ _ ⟨((blk_cell HX7_.out 0).trans rfl), ((blk_cell HI7.out 5).trans rfl), ((blk_cell HI7.out 6).trans rfl), ((blk_cell HI7.out 7).trans rfl), HT7.out.c0⟩ (fun hHeld => ?_)
     clear hK K
     refine norm_ (a' := ?_) ?_ ?_
     rotate_left
     ·show Act.put _ (some 60) _ = _
      simp only [Act.put, List.setIfInBounds_toArray, List.set_cons_zero, List.set_cons_succ, i64_w, i32_w]
      rfl
     refine ws_ 0 rT3 [(33, false, some 61), (34, false, some 62)] (by kernel_rfl) rfl ?_
     repeat (first | (refine ws_pure (v := ?_) (a' := ?_) rfl rfl (fun _ _ _ h => h) (Or.inl ⟨by rfl, ?_⟩) ?_ ?_; rotate_left; (focus intro w'; go_simp; with_reducible rfl); rotate_left; (focus simp only [Act.put, List.setIfInBounds_toArray, List.set_cons_zero, List.set_cons_succ, i64_w, i32_w]; rfl)))
     refine ws_nil ?_
     refine done_ (by kernel_rfl) ?_
     have y7 := HT7.out.reach i HI64.out
     rw [HG4.out i HAI.out, upd_same] at y7
     have u7 : w7.cell? ⟨gx, 0, none⟩ = some (.pointer (some ⟨g, 0, none⟩)) := (blk_cell HX7_.out 0).trans rfl
     have f7 := HT7.out.free (69 + i)
     go_upto_region 7 with (fail)
     refine at_letter_ (fun W => Aside0 (TaskAt w0 g p (some ai) c l Al cl S As cs gb gv o (upd r4 i 2) W) ∧ Aside0 (KeepE (OwnG g) w W) ∧ Aside0 (W.heap[gx]? = some (.cells #[.pointer (some ⟨g, 0, none⟩)] 89 (0, 0)))) ⟨⟨HT7.out.putR i HI64.out 2⟩, ⟨((HK3.out.trans HK4.out).trans (KeepE.of_below HB7.out (Nat.le_refl _))).trans (KeepE.put (E := OwnG g) _ rfl _ _)⟩, ⟨(Below.heap_setCell _ _ _ _ HGX.out).trans HX7_.out⟩⟩ (fun W8 ⟨HT8, HK8, HX8⟩ => ?_)
     clear y7 u7 f7
     have y8 := HT8.out.reach i HI64.out
     rw [upd_same] at y8
     have u8 : W8.cell? ⟨gx, 0, none⟩ = some (.pointer (some ⟨g, 0, none⟩)) := (blk_cell HX8.out 0).trans rfl
     go_wp2
     go_ret
     exact ⟨by rw [HBR.out]; rfl, HK8.out, upd r4 i 2, HT8.out, memo_yes HAI.out HV.out HV4.out HG4.out HBR.out⟩
 ·have hri := (hv i h1 (Nat.le_refl _)).resolve_left hm
  have HV2 := Aside0.mk (show (∀ j, 1 ≤ j → j ≤ i → r j = 0 ∨ r j = ansI (reachB p l S j)) ∧ ∀ j, i < j → r j = r j from ⟨hv, fun _ _ => rfl⟩)
  generalize hb : reachB p l S i = b at hri ⊢
  rw [hri] at y1
  clear h hv hrec hm hri hb hsh
  cases b
  all_goals
   dsimp only [ansI] at y1
   go_enter Tryz.func75, Tryz.ntmps75
   go_wp2
   go_ret
   exact ⟨rfl, HK1.out, r, HT1.out, HV2.out.1, fun _ _ => rfl⟩
end
end Go.Proofs.YtloijngccppfgaaGreat.F
end

section
namespace Go.Proofs.YtloijngccppfgaaGreat.F
open Go.RowKit Go.Proofs.YtloijngccppfgaaGreatW.PrintWords Go.Proofs.YtloijngccppfgaaGreatW.PrintLast Go.Proofs.YtloijngccppfgaaGreatW.PrintMore
attribute [local go_sem] max2_int min2_int max_two min_two max_three min_three max_four min_four
set_option linter.unusedVariables false
set_option linter.unusedSimpArgs false
open Go.Proofs.YtloijngccppfgaaGreat.Pure
def soilT (p : List S39) (l : List S50) (k : Int) : Bool := !cleanB p (madeS p l) k
def freeT (p : List S39) (l : List S50) (i : Int) : Bool := !((overL p i).any (soilT p l))
def boundT (p : List S39) (l : List S50) (k : Int) : Bool := decide (0 < k) && !freeT p l k
def undoT (p : List S39) (l : List S50) (i : Int) : Bool := ((rd_T50 l i).f0 == 2 && (!(rd_T50 l i).f3 && ((rd_T50 l i).f1 == (rd_T50 l i).f2 && fallB p (madeS p l) (rd_T39 p i).f5 (rd_T39 p i).f6))) && (freeT p l i && !((aboveL p i).any (boundT p l)))
section
variable {w0 w : World} {g : Nat} {p : List S39} {A : Option Addr} {c : Nat} {l : List S50} {Al : Option Addr} {cl : Nat} {S : List Int} {As : Option Addr} {cs gb gv : Nat} {o r : Nat → Int}
theorem soil_lit (h : TaskAt w0 g p A c l Al cl S As cs gb gv o r w) (gx : Nat) (hg : w.heap[gx]? = some (.cells #[.pointer (some ⟨g, 0, none⟩)] 89 (0, 0))) (k : Int) : Calls Tryz.prog 128 (#[.int .i64 k] ++ #[.pointer (some ⟨gx, 0, none⟩)]) w fun e w' => e = .returned (.bool (soilT p l k)) ∧ Below w.heap.size w w' := by
 have x0 : w.cell? ⟨gx, 0, none⟩ = some (.pointer (some ⟨g, 0, none⟩)) := (blk_cell hg 0).trans rfl
 have y0 := h.c0
 obtain ⟨Ab, cb, hbd⟩ := h.st.bd
 have HF := Aside0.mk (clean_walk hbd k)
 clear h hg hbd
 show Calls Tryz.prog 128 #[.int .i64 k, .pointer (some ⟨gx, 0, none⟩)] w _
 go_enter Tryz.func128, Tryz.ntmps128
 go_wp2_with (go_at_call 50; refine HF.out.mono ?_; rintro e w2 ⟨rfl, rfl⟩)
 go_ret
 exact ⟨rfl, Below.refl _ _⟩
def FreeP (w0 : World) (g : Nat) (p : List S39) (A : Option Addr) (c : Nat) (l : List S50) (Al : Option Addr) (cl : Nat) (S : List Int) (As : Option Addr) (cs gb gv : Nat) (r : Nat → Int) (w w' : World) : Prop := KeepE (OwnG g) w w' ∧ ∃ o', TaskAt w0 g p A c l Al cl S As cs gb gv o' r w' ∧ ∀ j : Nat, o' j = 0 ∨ o' j = ansI (freeT p l (j : Int))
theorem memo_o {o : Nat → Int} {i : Nat} {b : Bool} (hv : ∀ j : Nat, o j = 0 ∨ o j = ansI (freeT p l (j : Int))) (hb : freeT p l (i : Int) = b) : ∀ j : Nat, upd o i (ansI b) j = 0 ∨ upd o i (ansI b) j = ansI (freeT p l (j : Int)) := fun j => by
 by_cases hj : j = i
 ·subst hj; rw [upd_same, hb]; exact .inr rfl
 ·rw [upd_other _ _ hj]; exact hv j
theorem upd_upd (f : Nat → Int) (i : Nat) (a b : Int) : upd (upd f i a) i b = upd f i b := by
 funext j
 by_cases h : j = i
 ·subst h; rw [upd_same, upd_same]
 ·rw [upd_other _ _ h, upd_other _ _ h, upd_other _ _ h]
set_option maxHeartbeats 16000000 in
set_option maxRecDepth 100000 in
theorem free_walk (h : TaskAt w0 g p A c l Al cl S As cs gb gv o r w) (hv : ∀ j : Nat, o j = 0 ∨ o j = ansI (freeT p l (j : Int))) (i : Nat) (hi : i < p.length) : Calls Tryz.prog 106 #[.pointer (some ⟨g, 0, none⟩), .int .i64 i] w fun e w' => e = .returned (.bool (freeT p l (i : Int))) ∧ FreeP w0 g p A c l Al cl S As cs gb gv r w w' := by
 have HV := Aside0.mk hv
 have hsh := h.st0.sh
 have HSH := Aside0.mk hsh
 have HI64 : Aside0 (i < 64) := ⟨by have := (shape_few hsh).2; omega⟩
 have h0i : (0 : Int) ≤ i := by omega
 have h6i : (i : Int) < 64 := by have := HI64.out; omega
 have HT1 := Aside0.mk (h.keep (below_alloc (Below.refl w.heap.size w) (.cells #[.pointer (some ⟨g, 0, none⟩)] 89 (0, 0))))
 have HK1 : Aside0 (KeepE (OwnG g) w (w.alloc (.cells #[.pointer (some ⟨g, 0, none⟩)] 89 (0, 0)))) := ⟨KeepE.of_below (below_alloc (Below.refl w.heap.size w) _) (Nat.le_refl _)⟩
 have y1 := HT1.out.over i HI64.out
 have f1 := HT1.out.free (5 + i)
 by_cases hm : o i = 0
 ·rw [hm] at y1
  have HGN : Aside0 (w.heap.size ≠ g) := ⟨by have := lt_of_blk_ h.blk; omega⟩
  have HGX : Aside0 (¬ OwnG g w.heap.size) := ⟨HGN.out⟩
  have HE := Aside0.mk (enters_of Tryz.func128 (P := Tryz.prog) (f := 128) (by kernel_rfl) rfl)
  have hmf : ∀ (fn : Fn) (first cap : Array Value) (w : World), (Instr.makeFunc fn first cap).run Tryz.prog w = .ok (.func fn first cap) w := fun _ _ _ _ => rfl
  have HIL := Aside0.mk hi
  obtain ⟨b, hb⟩ : ∃ b, (overL p (i : Int)).any (soilT p l) = b := ⟨_, rfl⟩
  have HBO := Aside0.mk hb
  have HBF : Aside0 (freeT p l (i : Int) = !b) := ⟨by unfold freeT; rw [hb]⟩
  rw [HBF.out]
  clear hm h hv hsh hi hb
  go_enter Tryz.func106, Tryz.ntmps106
  go_upto_region 3 with (fail)
  refine at_letter_ (fun W => Aside0 (TaskAt w0 g p A c l Al cl S As cs gb gv (upd o i 2) r W) ∧ Aside0 (KeepE (OwnG g) w W) ∧ Aside0 (W.heap[w.heap.size]? = some (.cells #[.pointer (some ⟨g, 0, none⟩)] 89 (0, 0)))) ⟨⟨HT1.out.putO i HI64.out 2⟩, ⟨HK1.out.trans (KeepE.put (E := OwnG g) _ rfl _ _)⟩, ⟨(Below.heap_setCell _ _ _ _ HGN.out).trans (blk_new w _)⟩⟩ (fun W2 ⟨HT2, HK2, HX2⟩ => ?_)
  clear y1 f1
  generalize w.heap.size = gx at HX2 HGN HGX ⊢
  have u2 : W2.cell? ⟨gx, 0, none⟩ = some (.pointer (some ⟨g, 0, none⟩)) := (blk_cell HX2.out 0).trans rfl
  have z4 := HT2.out.c4
  have HOV := Aside0.mk (over_walk_ HT2.out.st.vw HSH.out i HIL.out)
  cases b
  all_goals
   go_upto_region 4 with (first
    | (go_at_call 49; refine HOV.out.mono ?_; rintro e w3 ⟨v, rfl, hR, hb⟩; obtain ⟨A3, c3, rfl⟩ := Kd.R_slice hR; have HR3 := Aside0.mk (Kd.R_reads' hR).2.2; have HT3 := Aside0.mk (HT2.out.keep hb); have HB3 := Aside0.mk hb; have HX3 := Aside0.mk (blk_below HX2.out hb); clear hb hR u2; have u3 : w3.cell? ⟨gx, 0, none⟩ = some (.pointer (some ⟨g, 0, none⟩)) := (blk_cell HX3.out 0).trans rfl)
    | (go_at_call 77; refine (contains_func_int 128 #[.pointer (some ⟨gx, 0, none⟩)] HE.out (soilT p l) A3 c3 _ w3 HR3.out ?hp).mono ?_; (case hp => intro j hj W hW; exact soil_lit (HT3.out.keep hW) gx (blk_below HX3.out hW) _); rw [HBO.out]; rintro e w4 ⟨rfl, hb⟩; have HT4 := Aside0.mk (HT3.out.keep hb); have HB4 := Aside0.mk (HB3.out.trans (hb.mono HB3.out.size)); have HX4 := Aside0.mk (blk_below HX3.out hb); clear hb u3; have u4 : w4.cell? ⟨gx, 0, none⟩ = some (.pointer (some ⟨g, 0, none⟩)) := (blk_cell HX4.out 0).trans rfl; have y4 := HT4.out.over i HI64.out; rw [upd_same] at y4; have f4 := HT4.out.free (5 + i)))
  ·go_ret
   exact ⟨rfl, HK2.out.trans (KeepE.of_below HB4.out (Nat.le_refl _)), upd o i 2, HT4.out, memo_o (b := true) HV.out (by rw [HBF.out]; rfl)⟩
  ·go_upto_region 5 with (fail)
   refine at_letter_ (fun W => Aside0 (TaskAt w0 g p A c l Al cl S As cs gb gv (upd (upd o i 2) i 1) r W) ∧ Aside0 (KeepE (OwnG g) w W) ∧ Aside0 (W.heap[gx]? = some (.cells #[.pointer (some ⟨g, 0, none⟩)] 89 (0, 0)))) ⟨⟨HT4.out.putO i HI64.out 1⟩, ⟨(HK2.out.trans (KeepE.of_below HB4.out (Nat.le_refl _))).trans (KeepE.put (E := OwnG g) _ rfl _ _)⟩, ⟨(Below.heap_setCell _ _ _ _ HGX.out).trans HX4.out⟩⟩ (fun W8 ⟨HT8, HK8, HX8⟩ => ?_)
   clear y4 u4 f4
   have y8 := HT8.out.over i HI64.out
   rw [upd_same] at y8
   have u8 : W8.cell? ⟨gx, 0, none⟩ = some (.pointer (some ⟨g, 0, none⟩)) := (blk_cell HX8.out 0).trans rfl
   go_wp2
   go_ret
   exact ⟨rfl, HK8.out, upd (upd o i 2) i 1, HT8.out, by rw [upd_upd]; exact memo_o (b := false) HV.out (by rw [HBF.out]; rfl)⟩
 ·have hri := (hv i).resolve_left hm
  generalize hb : freeT p l (i : Int) = b at hri ⊢
  rw [hri] at y1
  clear h hv hm hri hb hsh HSH
  cases b
  all_goals
   dsimp only [ansI] at y1
   go_enter Tryz.func106, Tryz.ntmps106
   go_wp2
   go_ret
   exact ⟨rfl, HK1.out, o, HT1.out, HV.out⟩
theorem bound_lit (h : TaskAt w0 g p A c l Al cl S As cs gb gv o r w) (hv : ∀ j : Nat, o j = 0 ∨ o j = ansI (freeT p l (j : Int))) (gx : Nat) (hg : w.heap[gx]? = some (.cells #[.pointer (some ⟨g, 0, none⟩)] 89 (0, 0))) (k : Nat) (hk : k < p.length) : Calls Tryz.prog 105 (#[.int .i64 k] ++ #[.pointer (some ⟨gx, 0, none⟩)]) w fun e w' => e = .returned (.bool (boundT p l (k : Int))) ∧ FreeP w0 g p A c l Al cl S As cs gb gv r w w' := by
 have x0 : w.cell? ⟨gx, 0, none⟩ = some (.pointer (some ⟨g, 0, none⟩)) := (blk_cell hg 0).trans rfl
 have HF := Aside0.mk (free_walk h hv k hk)
 have HR : Aside0 (FreeP w0 g p A c l Al cl S As cs gb gv r w w) := ⟨KeepE.refl _ _, o, h, hv⟩
 show Calls Tryz.prog 105 #[.int .i64 k, .pointer (some ⟨gx, 0, none⟩)] w _
 unfold boundT
 generalize freeT p l (k : Int) = b at HF ⊢
 clear h hv hg hk
 by_cases hz : k = 0
 ·subst hz
  show Calls Tryz.prog 105 #[.int .i64 0, .pointer (some ⟨gx, 0, none⟩)] w _
  go_enter Tryz.func105, Tryz.ntmps105
  go_wp2
  go_ret
  exact ⟨rfl, HR.out⟩
 ·have hk0 : (0 : Int) < k := by omega
  have hk1 : 0 < k := by omega
  have hk2 : (k : Int) > 0 := hk0
  rw [decide_eq_true hk0]
  go_enter Tryz.func105, Tryz.ntmps105
  go_wp2_with (go_at_call 106; refine HF.out.mono ?_; rintro e w2 ⟨rfl, hq⟩; have HQ := Aside0.mk hq; clear hq)
  go_ret
  exact ⟨rfl, HQ.out⟩
theorem above_nat_ {p : List S39} (hu : UpP p) : ∀ (d : Nat) (k : Int), -1 ≤ k → k < p.length → ∀ y ∈ aboveF p d k, ∃ n : Nat, y = n ∧ n < p.length
 | 0, _, _, _, y, hy => by cases hy
 | d + 1, k, h1, h2, y, hy => by
  unfold aboveF at hy
  by_cases h0 : 0 ≤ k
  ·rw [if_pos h0] at hy
   obtain ⟨q, rfl⟩ := Int.eq_ofNat_of_zero_le h0
   have hq := hu.2 q (by omega)
   rcases List.mem_cons.1 hy with rfl | hy
   ·exact ⟨q, rfl, by omega⟩
   ·exact above_nat_ hu d _ hq.1 (by omega) y hy
  ·rw [if_neg h0] at hy; cases hy
theorem aboveL_nat {p : List S39} (hu : UpP p) (i : Nat) (y : Int) (hy : y ∈ aboveL p (i : Int)) : ∃ n : Nat, y = n ∧ n < p.length := by
 unfold aboveL at hy
 cases hb : hasB p (i : Int)
 ·rw [hb] at hy; cases hy
 ·rw [hb, if_pos rfl] at hy
  unfold hasB at hb
  rw [Bool.and_eq_true, decide_eq_true_eq, decide_eq_true_eq] at hb
  have hq := hu.2 i (by omega)
  exact above_nat_ hu _ _ hq.1 (by omega) y hy
theorem row_block {w : World} {base : Nat} {e : TypeId} {ok : Nat → Prop} {A : Option Addr} {n c : Nat} {xs : List Int} (h : Kd.R (Kd.int .i64) e w base ok (.slice A n c) xs) : ∀ ad, A = some ad → base ≤ ad.block := by
 rintro ad rfl
 obtain ⟨inner, ho⟩ := Kd.R_own h
 rcases ho.2 with ⟨q1, -⟩ | ⟨gr, cap, cur, q1, q2, -⟩
 ·cases q1
 ·injection q1 with q3
  cases q3
  exact q2
theorem cell_keepE {E : Nat → Prop} {X X' : World} (h : KeepE E X X') {a : Addr} {v : Value} (hc : X.cell? a = some v) (he : ¬ E a.block) : X'.cell? a = some v := (World.cell?_of_block (w := X) (h.block a.block (World.block_lt_of_cell? X a hc) he)).trans hc
theorem ints_keepE {E : Nat → Prop} {X X' : World} (h : KeepE E X X') {A : Option Addr} {n : Nat} {xs : List Int} (hr : Kd.C (Kd.int .i64) X A n xs) (hA : ∀ ad, A = some ad → ¬ E ad.block) : Kd.C (Kd.int .i64) X' A n xs := by
 refine ⟨hr.1, hr.2.1, fun hp => ?_⟩
 obtain ⟨ad, ea, hc⟩ := hr.2.2 hp
 refine ⟨ad, ea, fun j q hj => ?_⟩
 obtain ⟨cs, h1, h2, h3⟩ := hc j q hj
 refine ⟨cs, h1, h2, fun i u hu => cell_keepE h (h3 i u hu) ?_⟩
 have := hA ad ea
 unfold Addr.add
 split
 ·exact this
 ·exact this
set_option maxHeartbeats 16000000 in
set_option maxRecDepth 100000 in
theorem undo_walk (h : TaskAt w0 g p A c l Al cl S As cs gb gv o r w) (hv : ∀ j : Nat, o j = 0 ∨ o j = ansI (freeT p l (j : Int))) (i : Nat) (hi : i < p.length) : Calls Tryz.prog 76 #[.pointer (some ⟨g, 0, none⟩), .int .i64 i] w fun e w' => e = .returned (.bool (undoT p l (i : Int))) ∧ FreeP w0 g p A c l Al cl S As cs gb gv r w w' := by
 have HV := Aside0.mk hv
 have hsh := h.st0.sh
 have HSH := Aside0.mk hsh
 have hlen := h.st0.len
 have HIL := Aside0.mk hi
 have hil : i < l.length := by omega
 have h0i : (0 : Int) ≤ i := by omega
 have h1i : (i : Int) < (p.length : Int) := by omega
 have h2i : (i : Int) < (l.length : Int) := by omega
 have HT1 := Aside0.mk (h.keep (below_alloc (Below.refl w.heap.size w) (.cells #[.pointer (some ⟨g, 0, none⟩)] 89 (0, 0))))
 have HK1 : Aside0 (KeepE (OwnG g) w (w.alloc (.cells #[.pointer (some ⟨g, 0, none⟩)] 89 (0, 0)))) := ⟨KeepE.of_below (below_alloc (Below.refl w.heap.size w) _) (Nat.le_refl _)⟩
 have HX1 := Aside0.mk (blk_new w (.cells #[.pointer (some ⟨g, 0, none⟩)] 89 (0, 0)))
 have HGX : Aside0 (¬ OwnG g w.heap.size) := ⟨fun e => by have e2 : w.heap.size = g := e; have := lt_of_blk_ h.blk; omega⟩
 have HE := Aside0.mk (enters_of Tryz.func105 (P := Tryz.prog) (f := 105) (by kernel_rfl) rfl)
 have hmf : ∀ (fn : Fn) (first cap : Array Value) (w : World), (Instr.makeFunc fn first cap).run Tryz.prog w = .ok (.func fn first cap) w := fun _ _ _ _ => rfl
 have HUP := Aside0.mk (shape_up hsh)
 obtain ⟨ai, A7, c7, e1, q0, q1, q2, q3, q4, q5, q6, q7, q8, q9⟩ := at_T39 HT1.out.st.vw.pl (i : Int) h0i h1i
 obtain ⟨al, e2, s0, s1, s2, s3⟩ := at_T50 HT1.out.st.fl (i : Int) h0i h2i
 subst e1
 subst e2
 rw [Int.toNat_natCast] at q0 q1 q2 q3 q4 q5 q6 q7 s0 s1 s2 s3
 have y1 := HT1.out.c1
 have y2 := HT1.out.c2
 unfold undoT
 obtain ⟨x, hx⟩ : ∃ x, rd_T39 p (i : Int) = x := ⟨_, rfl⟩
 rw [hx] at q0 q1 q2 q3 q4 q5 q6 q7 ⊢
 obtain ⟨f, hf⟩ : ∃ f, rd_T50 l (i : Int) = f := ⟨_, rfl⟩
 rw [hf] at s0 s1 s2 s3 ⊢
 obtain ⟨x0, x1, x2, x3, x4, x5, x6, x7⟩ := x
 obtain ⟨f0, f1, f2, f3⟩ := f
 dsimp only at q0 q1 q2 q3 q4 q5 q6 q7 s0 s1 s2 s3 ⊢
 clear q8 q9 hx hf h hv hsh hi hlen hil
 obtain ⟨tR, htR⟩ : ∃ q, ((f0 == 2 && (!f3 && (f1 == f2 && fallB p (madeS p l) x5 x6))) && (freeT p l (i : Int) && !((aboveL p (i : Int)).any (boundT p l)))) = q := ⟨_, rfl⟩
 rw [htR]
 have HTR := Aside0.mk htR
 clear htR
 go_enter Tryz.func76, Tryz.ntmps76
 go_upto_region 1 with (fail)
 obtain ⟨W1, hW1⟩ : ∃ W, W = w.alloc (.cells #[.pointer (some ⟨g, 0, none⟩)] 89 (0, 0)) := ⟨_, rfl⟩
 rw [← hW1] at HT1 HK1 HX1 q0 q1 q2 q3 q4 q5 q6 q7 s0 s1 s2 s3 y1 y2 ⊢
 clear hW1
 generalize w.heap.size = gx at HX1 HGX ⊢
 have u1 : W1.cell? ⟨gx, 0, none⟩ = some (.pointer (some ⟨g, 0, none⟩)) := (blk_cell HX1.out 0).trans rfl
 go_cut [5, 6] (fun v5 v6 wc => ∃ g5 g6, v5 = .pointer (some ⟨g5, 0, none⟩) ∧ v6 = .pointer (some ⟨g6, 0, none⟩) ∧ Aside0 (Below W1.heap.size W1 wc) ∧ Aside0 (wc.heap[g5]? = some (.cells #[.int .i64 f0, .int .i64 f1, .int .i64 f2, .bool f3] 50 (0, 0))) ∧ Aside0 (wc.heap[g6]? = some (.cells #[.string x0, .string x1, .bool x2, .bool x3, .int .i64 x4, .int .i64 x5, .int .i64 x6, .slice A7 x7.length c7] 39 (0, 0))))
 case first =>
  go_region_held2 (fun w' => w'.cell? ⟨gx, 0, none⟩ = some (.pointer (some ⟨g, 0, none⟩)) ∧ w'.cell? ⟨g, 1, none⟩ = some (.slice (some ai) p.length c) ∧ w'.cell? ⟨g, 2, none⟩ = some (.slice (some al) l.length cl) ∧ w'.cell? (ai.add (i * 8)) = some (.string x0) ∧ w'.cell? ⟨(ai.add (i * 8)).block, (ai.add (i * 8)).off + 1, none⟩ = some (.string x1) ∧ w'.cell? ⟨(ai.add (i * 8)).block, (ai.add (i * 8)).off + 2, none⟩ = some (.bool x2) ∧ w'.cell? ⟨(ai.add (i * 8)).block, (ai.add (i * 8)).off + 3, none⟩ = some (.bool x3) ∧ w'.cell? ⟨(ai.add (i * 8)).block, (ai.add (i * 8)).off + 4, none⟩ = some (.int .i64 x4) ∧ w'.cell? ⟨(ai.add (i * 8)).block, (ai.add (i * 8)).off + 5, none⟩ = some (.int .i64 x5) ∧ w'.cell? ⟨(ai.add (i * 8)).block, (ai.add (i * 8)).off + 6, none⟩ = some (.int .i64 x6) ∧ w'.cell? ⟨(ai.add (i * 8)).block, (ai.add (i * 8)).off + 7, none⟩ = some (.slice A7 x7.length c7) ∧ w'.cell? (al.add (i * 4)) = some (.int .i64 f0) ∧ w'.cell? ⟨(al.add (i * 4)).block, (al.add (i * 4)).off + 1, none⟩ = some (.int .i64 f1) ∧ w'.cell? ⟨(al.add (i * 4)).block, (al.add (i * 4)).off + 2, none⟩ = some (.int .i64 f2) ∧ w'.cell? ⟨(al.add (i * 4)).block, (al.add (i * 4)).off + 3, none⟩ = some (.bool f3)) (go_keep) (fail)
  all_goals
   go_wp2
   go_meet
   case rel =>
    first
    | exact ⟨_, _, rfl, rfl, ⟨below_drewN (below_alloc (below_alloc (Below.refl _ _) _) _) 1⟩, ⟨blk_drew (blk_alloc (blk_new _ _) _)⟩, ⟨blk_drew (blkB_ _ _ _)⟩⟩
    | exact ⟨_, _, rfl, rfl, ⟨below_drewN (below_alloc (below_alloc (Below.refl _ _) _) _) 1⟩, ⟨blk_drew (blkB_ _ _ _)⟩, ⟨blk_drew (blk_alloc (blk_new _ _) _)⟩⟩
 case rest =>
  obtain ⟨g5, g6, rfl, rfl, HBC, HG5, HG6⟩ := hcut
  clear q0 q1 q2 q3 q4 q5 q6 q7 s0 s1 s2 s3 y1 y2 u1
  have HT2 := Aside0.mk (HT1.out.keep HBC.out)
  have HK2 := Aside0.mk (HK1.out.trans (KeepE.of_below HBC.out (Nat.le_refl _)))
  have HX2 := Aside0.mk (blk_below HX1.out HBC.out)
  have u2 : wc.cell? ⟨gx, 0, none⟩ = some (.pointer (some ⟨g, 0, none⟩)) := (blk_cell HX2.out 0).trans rfl
  have v0 : wc.cell? ⟨g5, 0, none⟩ = some (.int .i64 f0) := (blk_cell HG5.out 0).trans rfl
  have v1 : wc.cell? ⟨g5, 1, none⟩ = some (.int .i64 f1) := (blk_cell HG5.out 1).trans rfl
  have v2 : wc.cell? ⟨g5, 2, none⟩ = some (.int .i64 f2) := (blk_cell HG5.out 2).trans rfl
  have v3 : wc.cell? ⟨g5, 3, none⟩ = some (.bool f3) := (blk_cell HG5.out 3).trans rfl
  have v5 : wc.cell? ⟨g6, 5, none⟩ = some (.int .i64 x5) := (blk_cell HG6.out 5).trans rfl
  have v6 : wc.cell? ⟨g6, 6, none⟩ = some (.int .i64 x6) := (blk_cell HG6.out 6).trans rfl
  have z0 := HT2.out.c0
  have HNO : Aside0 (FreeP w0 g p (some ai) c l (some al) cl S As cs gb gv r w wc.drew) := ⟨HK2.out.trans (KeepE.of_below (below_drewN (Below.refl wc.heap.size wc) 1) (Nat.le_refl _)), o, HT2.out.keep (below_drewN (Below.refl wc.heap.size wc) 1), HV.out⟩
  by_cases n0 : f0 = 2
  case neg =>
   have c0 : (f0 == 2) = false := beq_eq_false_iff_ne.2 n0
   have d0 : (f0 != 2) = true := by simp [bne, c0]
   go_upto_region 2 with (fail)
   go_region
   go_wp2
   go_ret
   exact ⟨by rw [← HTR.out, c0]; rfl, HNO.out⟩
  subst n0
  cases f3 with
  | true =>
   go_upto_region 2 with (fail)
   go_region
   go_wp2
   go_ret
   exact ⟨by rw [← HTR.out]; rfl, HNO.out⟩
  | false =>
   by_cases n1 : f1 = f2
   case neg =>
    have c1 : (f1 == f2) = false := beq_eq_false_iff_ne.2 n1
    have d1 : (f1 != f2) = true := by simp [bne, c1]
    go_upto_region 2 with (fail)
    go_region
    go_wp2
    go_ret
    exact ⟨by rw [← HTR.out, c1]; rfl, HNO.out⟩
   subst n1
   obtain ⟨Ab, cb, hbd⟩ := HT2.out.st.bd
   have HFA := Aside0.mk (falling_walk (hbd.below (below_drewN (Below.refl wc.heap.size wc) 1)) (shape_of HSH.out) x5 x6)
   clear hbd
   obtain ⟨tF, htF⟩ : ∃ q, fallB p (madeS p l) x5 x6 = q := ⟨_, rfl⟩
   rw [htF] at HFA
   have HTF := Aside0.mk htF
   clear htF
   have c1 : (f1 == f1) = true := beq_self_eq_true f1
   have d1 : (f1 != f1) = false := by simp
   have HR2 : Aside0 (tR = (tF && (freeT p l (i : Int) && !((aboveL p (i : Int)).any (boundT p l))))) := ⟨by rw [← HTR.out, c1, HTF.out]; rfl⟩
   cases tF with
   | false =>
    go_upto_region 2 with (fail)
    go_region_held2 (fun w' => w'.cell? ⟨gx, 0, none⟩ = some (.pointer (some ⟨g, 0, none⟩)) ∧ w'.cell? ⟨g, 0, none⟩ = some (.pointer (some ⟨gb, 0, none⟩)) ∧ w'.cell? ⟨g5, 0, none⟩ = some (.int .i64 2) ∧ w'.cell? ⟨g5, 1, none⟩ = some (.int .i64 f1) ∧ w'.cell? ⟨g5, 2, none⟩ = some (.int .i64 f1) ∧ w'.cell? ⟨g5, 3, none⟩ = some (.bool false) ∧ w'.cell? ⟨g6, 5, none⟩ = some (.int .i64 x5) ∧ w'.cell? ⟨g6, 6, none⟩ = some (.int .i64 x6)) (first | assumption | go_keep) (first | (go_at_call 43; refine HFA.out.mono ?_; rintro e w3 ⟨rfl, rfl⟩))
    all_goals
     go_wp2
     go_ret
     exact ⟨by rw [HR2.out]; rfl, HNO.out⟩
   | true =>
    go_upto_region 2 with (fail)
    go_region_held2 (fun w' => w'.cell? ⟨gx, 0, none⟩ = some (.pointer (some ⟨g, 0, none⟩)) ∧ w'.cell? ⟨g, 0, none⟩ = some (.pointer (some ⟨gb, 0, none⟩)) ∧ w'.cell? ⟨g5, 0, none⟩ = some (.int .i64 2) ∧ w'.cell? ⟨g5, 1, none⟩ = some (.int .i64 f1) ∧ w'.cell? ⟨g5, 2, none⟩ = some (.int .i64 f1) ∧ w'.cell? ⟨g5, 3, none⟩ = some (.bool false) ∧ w'.cell? ⟨g6, 5, none⟩ = some (.int .i64 x5) ∧ w'.cell? ⟨g6, 6, none⟩ = some (.int .i64 x6)) (first | assumption | go_keep) (first | (go_at_call 43; refine HFA.out.mono ?_; rintro e w3 ⟨rfl, rfl⟩))
    clear z0 v0 v1 v2 v3 v5 v6 u2 c1 d1
    have HTD : Aside0 (TaskAt w0 g p (some ai) c l (some al) cl S As cs gb gv o r (wc.drewN 1)) := ⟨HT2.out.keep (below_drewN (Below.refl wc.heap.size wc) 1)⟩
    have HXD : Aside0 ((wc.drewN 1).heap[gx]? = some (.cells #[.pointer (some ⟨g, 0, none⟩)] 89 (0, 0))) := ⟨blk_below HX2.out (below_drewN (Below.refl wc.heap.size wc) 1)⟩
    have HKD : Aside0 (KeepE (OwnG g) w (wc.drewN 1)) := ⟨HK2.out.trans (KeepE.of_below (below_drewN (Below.refl wc.heap.size wc) 1) (Nat.le_refl _))⟩
    clear HNO HT2 HX2 HK2 HBC HG5 HG6 HT1 HK1 HX1 HFA
    generalize wc.drewN 1 = W2 at HTD HXD HKD ⊢
    have u2 : W2.cell? ⟨gx, 0, none⟩ = some (.pointer (some ⟨g, 0, none⟩)) := (blk_cell HXD.out 0).trans rfl
    have HFW := Aside0.mk (free_walk HTD.out HV.out i HIL.out)
    obtain ⟨b, hb⟩ : ∃ b, freeT p l (i : Int) = b := ⟨_, rfl⟩
    rw [hb] at HR2 HFW
    clear hb
    cases b with
    | false =>
     go_wp2_with (go_at_call 106; refine HFW.out.mono ?_; rintro e w4 ⟨rfl, hk, o4, ht, hv4⟩; have HK4 := Aside0.mk (HKD.out.trans hk); have HT4 := Aside0.mk ht; have HV4 := Aside0.mk hv4; clear hk ht hv4)
     go_ret
     exact ⟨by rw [HR2.out]; rfl, HK4.out, o4, HT4.out, HV4.out⟩
    | true =>
     obtain ⟨b2, hb2⟩ : ∃ b, (aboveL p (i : Int)).any (boundT p l) = b := ⟨_, rfl⟩
     have HBA := Aside0.mk hb2
     rw [hb2] at HR2
     clear hb2
     go_wp2_with (first
      | (go_at_call 106; refine HFW.out.mono ?_; rintro e w4 ⟨rfl, hk, o4, ht, hv4⟩; have HK4 := Aside0.mk (HKD.out.trans hk); have HT4 := Aside0.mk ht; have HV4 := Aside0.mk hv4; have HX4 := Aside0.mk (hk.blk HXD.out HGX.out); clear hk ht hv4; have u4 : w4.cell? ⟨gx, 0, none⟩ = some (.pointer (some ⟨g, 0, none⟩)) := (blk_cell HX4.out 0).trans rfl; have z4 := HT4.out.c4)
      | (go_at_call 40; refine (above_walk_ HT4.out.st.vw HUP.out i HIL.out).mono ?_; rintro e w5 ⟨v, rfl, hR, hb⟩; obtain ⟨A5, c5, rfl⟩ := Kd.R_slice hR; have HR5 := Aside0.mk (Kd.R_reads' hR).2.2; have HB5 := Aside0.mk (row_block hR); have HT5 := Aside0.mk (HT4.out.keep hb); have HK5 := Aside0.mk (HK4.out.trans (KeepE.of_below hb (Nat.le_refl _))); have HX5 := Aside0.mk (blk_below HX4.out hb); clear hb hR u4 z4)
      | (go_at_call 77; refine (contains_func_inv 105 #[.pointer (some ⟨gx, 0, none⟩)] HE.out (boundT p l) A5 c5 _ (fun W => KeepE (OwnG g) w5 W ∧ ∃ o', TaskAt w0 g p (some ai) c l (some al) cl S As cs gb gv o' r W ∧ ∀ j : Nat, o' j = 0 ∨ o' j = ansI (freeT p l (j : Int))) (fun W hW => ints_keepE hW.1 HR5.out (fun ad ea e => by have h1 := HB5.out ad ea; have h2 := lt_of_blk_ HT4.out.blk; have e2 : ad.block = g := e; omega)) w5 ⟨KeepE.refl _ _, o4, HT5.out, HV4.out⟩ ?hp).mono ?_; (case hp => rintro j hj W ⟨hk, o', ht, hv'⟩; obtain ⟨n, hn, hlt⟩ := aboveL_nat HUP.out i _ (List.getElem_mem hj); rw [hn]; refine (bound_lit ht hv' gx (hk.blk HX5.out HGX.out) n hlt).mono ?_; rintro e W' ⟨he, hk', h'⟩; exact ⟨he, hk.trans hk', h'⟩); rw [HBA.out]; rintro e w6 ⟨rfl, hk, hr⟩; have HK6 := Aside0.mk (HK5.out.trans hk); have HR6 := Aside0.mk hr; clear hk hr))
     go_ret
     exact ⟨by rw [HR2.out]; cases b2 <;> rfl, HK6.out, HR6.out⟩
end
end Go.Proofs.YtloijngccppfgaaGreat.F
end

section
namespace Go.Proofs.YtloijngccppfgaaGreat.F
open Go.RowKit Go.Proofs.YtloijngccppfgaaGreatW.PrintWords Go.Proofs.YtloijngccppfgaaGreatW.PrintLast Go.Proofs.YtloijngccppfgaaGreatW.PrintMore
attribute [local go_sem] max2_int min2_int max_two min_two max_three min_three max_four min_four
set_option linter.unusedVariables false
set_option linter.unusedSimpArgs false
open Go.Proofs.YtloijngccppfgaaGreat.Pure
attribute [local go_sem] Oper.semAt_some
def keyOne (p : List S39) (l : List S50) (S : List Int) (i : Nat) : List S46 := if (rd_T39 p (i : Int)).f2 then [] else if (rd_T50 l (i : Int)).f0 == 0 && reachB p l S i then [⟨(i : Int), false, 0⟩] else if undoT p l (i : Int) then [⟨(i : Int), true, (rd_T50 l (i : Int)).f2⟩] else []
def keysL (p : List S39) (l : List S50) (S : List Int) : List S46 := (List.range' 0 p.length).flatMap (keyOne p l S)
theorem flatT_take {α : Type} (F : Nat → List α) : ∀ k a : Nat, (List.range' a (k + 1)).flatMap F = (List.range' a k).flatMap F ++ F (a + k)
 | 0, a => by simp
 | k + 1, a => by
  rw [List.range'_succ, List.flatMap_cons, flatT_take F k (a + 1), List.range'_succ, List.flatMap_cons, List.append_assoc, show a + 1 + k = a + (k + 1) from by omega]
theorem flatT_split {α : Type} (F : Nat → List α) : ∀ (k a n : Nat), k < n → (List.range' a n).flatMap F = (List.range' a k).flatMap F ++ (F (a + k) ++ (List.range' (a + k + 1) (n - k - 1)).flatMap F)
 | 0, a, n, h => by
  obtain ⟨m, rfl⟩ : ∃ m, n = m + 1 := ⟨n - 1, by omega⟩
  rw [List.range'_succ, List.flatMap_cons]
  simp
 | k + 1, a, n, h => by
  obtain ⟨m, rfl⟩ : ∃ m, n = m + 1 := ⟨n - 1, by omega⟩
  rw [List.range'_succ, List.flatMap_cons, flatT_split F k (a + 1) m (by omega), List.range'_succ, List.flatMap_cons, List.append_assoc, show a + 1 + k = a + (k + 1) from by omega, show m + 1 - (k + 1) - 1 = m - k - 1 from by omega]
def MemoV (p : List S39) (l : List S50) (S : List Int) (o r : Nat → Int) : Prop := (∀ j : Nat, o j = 0 ∨ o j = ansI (freeT p l (j : Int))) ∧ ∀ j, 1 ≤ j → r j = 0 ∨ r j = ansI (reachB p l S j)
def TaskD (w0 : World) (g : Nat) (p : List S39) (A : Option Addr) (c : Nat) (l : List S50) (Al : Option Addr) (cl : Nat) (S : List Int) (As : Option Addr) (cs gb gv b1 : Nat) (X : World) : Prop := g < b1 ∧ X.heap[b1]? = some (.cells #[.pointer (some ⟨g, 0, none⟩)] 89 (0, 0)) ∧ ∃ o r, TaskAt w0 g p A c l Al cl S As cs gb gv o r X ∧ MemoV p l S o r
section
variable {w0 w : World} {g : Nat} {p : List S39} {A : Option Addr} {c : Nat} {l : List S50} {Al : Option Addr} {cl : Nat} {S : List Int} {As : Option Addr} {cs gb gv b1 : Nat}
theorem TaskD.below {X X' : World} (h : TaskD w0 g p A c l Al cl S As cs gb gv b1 X) (hb : Below X.heap.size X X') : TaskD w0 g p A c l Al cl S As cs gb gv b1 X' := by
 obtain ⟨h0, h1, o, r, h2, h3⟩ := h
 exact ⟨h0, blk_below h1 hb, o, r, h2.keep hb, h3⟩
theorem TaskAt.stay {o r : Nat → Int} {n : Nat} {X X' : World} (h : TaskAt w0 g p A c l Al cl S As cs gb gv o r X) (hb : Stay n X X') (hn : g ≤ n) : TaskAt w0 g p A c l Al cl S As cs gb gv o r X' := ⟨h.st0, h.eg, h.b.trans (hb.below.mono hn), hb.cells _ _ rfl h.blk⟩
theorem TaskD.stay {n : Nat} {X X' : World} (h : TaskD w0 g p A c l Al cl S As cs gb gv b1 X) (hb : Stay n X X') (hn : g ≤ n) : TaskD w0 g p A c l Al cl S As cs gb gv b1 X' := by
 obtain ⟨h0, h1, o, r, h2, h3⟩ := h
 exact ⟨h0, hb.cells _ _ rfl h1, o, r, h2.stay hb hn, h3⟩
theorem TaskD.keep {X X' : World} {o r : Nat → Int} (h : TaskD w0 g p A c l Al cl S As cs gb gv b1 X) (hk : KeepE (OwnG g) X X') (ht : TaskAt w0 g p A c l Al cl S As cs gb gv o r X') (hv : MemoV p l S o r) : TaskD w0 g p A c l Al cl S As cs gb gv b1 X' := by
 obtain ⟨h0, h1, -⟩ := h
 exact ⟨h0, hk.blk h1 (fun e => by have e2 : b1 = g := e; omega), o, r, ht, hv⟩
theorem reached_all : ∀ (d i : Nat), i < d → 1 ≤ i → i < p.length → ∀ o, ReachC w0 g p A c l Al cl S As cs gb gv o 75 i (reachB p l S i)
 | 0, i, h, _, _, _ => by omega
 | d + 1, i, h, h1, h2, o => reached_walk_one i h1 h2 (fun a q1 q2 => reached_all d a (by omega) q1 (by omega) o)
theorem keys_call (g : Nat) (w : World) : CallsIn Fence.wide 0 Tryz.prog 48 #[.pointer (some ⟨g, 0, none⟩)] w fun e w' => e = .returned (.func (.func 74) #[] #[.pointer (some ⟨w.heap.size, 0, none⟩)]) ∧ w' = w.alloc (.cells #[.pointer (some ⟨g, 0, none⟩)] 89 (0, 0)) := by
 refine callsIn_wide.2 ?_
 have hmf : ∀ (fn : Fn) (first cap : Array Value) (w : World), (Instr.makeFunc fn first cap).run Tryz.prog w = .ok (.func fn first cap) w := fun _ _ _ _ => rfl
 go_enter Tryz.func48, Tryz.ntmps48
 go_wp2
 go_ret
 exact ⟨rfl, rfl⟩
set_option maxHeartbeats 16000000 in
set_option maxRecDepth 100000 in
theorem keys_iter (hroot : (rd_T39 p 0).f2 = true) : IterT Tryz.prog 74 #[.pointer (some ⟨b1, 0, none⟩)] (fun (v : S46) args => args = #[.agg #[.int .i64 v.f0, .bool v.f1, .int .i64 v.f2]]) (keysL p l S) (OwnG g) (TaskD w0 g p A c l Al cl S As cs gb gv b1) := by
 intro ly J Js Ex W hJ0 hD hE hst hsts hcalm hexl hY
 have HRT := Aside0.mk hroot
 have HCALM := Aside0.mk hcalm
 have HD := Aside0.mk hD
 have HST := Aside0.mk hst
 have HSTS := Aside0.mk hsts
 have HY := Aside0.mk hY
 have HJ0 := Aside0.mk hJ0
 have HSTB : Aside0 (∀ s X X', J s X → W.heap.size ≤ X.heap.size → Below X.heap.size X X' → J s X') := ⟨fun s X X' hj hs hb => hst s X X' hj (.of_stay (Stay.of_below hb (Nat.le_refl _) hs)) ((hD _ _ hj).below hb)⟩
 have hd := hD _ _ hJ0
 obtain ⟨hgb, hbx, o0, r0, ht0, -⟩ := hd
 have HGB := Aside0.mk hgb
 have HEG : Aside0 (g < W.heap.size) := ⟨hE g rfl⟩
 have HFEW := Aside0.mk (shape_few ht0.st0.sh)
 have HLEN := Aside0.mk ht0.st0.len
 have c1 : W.cell? ⟨b1, 0, none⟩ = some (.pointer (some ⟨g, 0, none⟩)) := (blk_cell hbx 0).trans rfl
 have c2 := ht0.c1
 clear hroot hJ0 hD hE hst hsts hcalm hexl hY hgb hbx ht0
 refine callsIn_of_wpB Tryz.func74 rfl ?_
 simp only [Tryz.ntmps74, List.size_toArray, List.length_cons, List.length_nil, Nat.reduceAdd, Nat.reduceSub, Array.replicate_succ, Array.replicate_zero, List.push_toArray, List.append_toArray, List.nil_append, List.cons_append]
 (refine wpB_seq_k (fun K hK => ?_); gi_wp2; refine hK.out _ _ ?_; clear hK K)
 refine wpB_block (wpB_loop (fun a' w' => ∃ (k : Nat) (u2 u3 u4 u5 u13 u14 u15 u16 u17 u18 u19 u20 u21 u22 u23 u24 u25 u26 u27 u28 u29 u30 u31 u32 u33 u34 u35 u36 u37 u38 u39 u40 u41 u42 u43 u44 u45 u46 u47 u48 u49 u50 u51 u52 : Value), (k ≤ p.length ∧ Aside0 (J ((List.range' 0 k).flatMap (keyOne p l S)) w') ∧ Aside0 (W.heap.size ≤ w'.heap.size)) ∧ a' = { tmps := #[.func (.yield ly) #[] #[], .pointer (some ⟨b1, 0, none⟩), u2, u3, u4, u5, .pointer (some ⟨g, 0, none⟩), .pointer (some ⟨g, 0, none⟩), .pointer (some ⟨g, 1, none⟩), .pointer (some ⟨g, 1, none⟩), .slice A p.length c, .int .i64 (p.length : Nat), .int .i64 (k : Nat), u13, u14, u15, u16, u17, u18, u19, u20, u21, u22, u23, u24, u25, u26, u27, u28, u29, u30, u31, u32, u33, u34, u35, u36, u37, u38, u39, u40, u41, u42, u43, u44, u45, u46, u47, u48, u49, u50, u51, u52], defers := [] }) (fun a' _ => p.length - (intOf (a'.tmps.getD 12 undef)).toNat) ?_ ?_)
 ·refine ⟨0, ?_⟩
  (repeat apply Exists.intro)
  exact ⟨⟨by omega, HJ0, ⟨Nat.le_refl _⟩⟩, rfl⟩
 clear c1 c2 HJ0
 rintro _ wr ⟨k, u2, u3, u4, u5, u13, u14, u15, u16, u17, u18, u19, u20, u21, u22, u23, u24, u25, u26, u27, u28, u29, u30, u31, u32, u33, u34, u35, u36, u37, u38, u39, u40, u41, u42, u43, u44, u45, u46, u47, u48, u49, u50, u51, u52, ⟨hk, HJ, HSZ⟩, rfl⟩
 by_cases hlt : k < p.length
 ·obtain ⟨-, hbx, o1, r1, ht1, hv1⟩ := HD.out _ _ HJ.out
  have HT1 := Aside0.mk ht1
  have HV1 := Aside0.mk hv1
  have HB1 := Aside0.mk hbx
  have HTK : Aside0 ((List.range' 0 (k + 1)).flatMap (keyOne p l S) = (List.range' 0 k).flatMap (keyOne p l S) ++ keyOne p l S k) := ⟨by rw [flatT_take _ k 0, Nat.zero_add]⟩
  have HSP : Aside0 (keysL p l S = (List.range' 0 k).flatMap (keyOne p l S) ++ (keyOne p l S k ++ (List.range' (k + 1) (p.length - k - 1)).flatMap (keyOne p l S))) := ⟨by unfold keysL; rw [flatT_split _ k 0 p.length hlt, Nat.zero_add]⟩
  have hkl : k < l.length := by have := HLEN.out; omega
  have h0k : (0 : Int) ≤ k := by omega
  have h1k : (k : Int) < (p.length : Int) := by omega
  have h2k : (k : Int) < (l.length : Int) := by omega
  obtain ⟨ai, A7, c7, e1, q0, q1, q2, q3, q4, q5, q6, q7, q8, q9⟩ := at_T39 ht1.st.vw.pl (k : Int) h0k h1k
  obtain ⟨al, e2, s0, s1, s2, s3⟩ := at_T50 ht1.st.fl (k : Int) h0k h2k
  subst e1
  subst e2
  rw [Int.toNat_natCast] at q0 q1 q2 q3 q4 q5 q6 q7 s0 s1 s2 s3
  have hwk : wrap64 ((k : Int) + 1) = ((k + 1 : Nat) : Int) := by have h4 := HFEW.out; unfold wrap64; omega
  have HWK := Aside0.mk hwk
  have HLT := Aside0.mk hlt
  have HKO : Aside0 (keyOne p l S k = if (rd_T39 p (k : Int)).f2 then [] else if (rd_T50 l (k : Int)).f0 == 0 && reachB p l S k then [⟨(k : Int), false, 0⟩] else if undoT p l (k : Int) then [⟨(k : Int), true, (rd_T50 l (k : Int)).f2⟩] else []) := ⟨rfl⟩
  have HUN : Aside0 ((rd_T50 l (k : Int)).f0 = 0 → undoT p l (k : Int) = false) := ⟨fun e => by unfold undoT; rw [e]; rfl⟩
  have HK1 : Aside0 ((rd_T39 p (k : Int)).f2 = false → 1 ≤ k) := ⟨fun e => by
   by_cases hz : k = 0
   ·subst hz
    have e2 : (rd_T39 p 0).f2 = false := e
    rw [HRT.out] at e2; cases e2
   ·omega⟩
  obtain ⟨x, hx⟩ : ∃ x, rd_T39 p (k : Int) = x := ⟨_, rfl⟩
  rw [hx] at q0 q1 q2 q3 q4 q5 q6 q7 HKO HK1
  obtain ⟨f, hf⟩ : ∃ f, rd_T50 l (k : Int) = f := ⟨_, rfl⟩
  rw [hf] at s0 s1 s2 s3 HKO HUN
  obtain ⟨x0, x1, x2, x3, x4, x5, x6, x7⟩ := x
  obtain ⟨f0, f1, f2, f3⟩ := f
  dsimp only at q0 q1 q2 q3 q4 q5 q6 q7 s0 s1 s2 s3 HKO HUN HK1
  have y1 : wr.cell? ⟨b1, 0, none⟩ = some (.pointer (some ⟨g, 0, none⟩)) := (blk_cell hbx 0).trans rfl
  clear q8 q9 hx hf hwk hlt hkl hk ht1 hv1 hbx
  (refine wpB_seq_k (fun K hK => ?_); gi_wp2; refine hK.out _ _ ?_; clear hK K)
  (refine wpB_seq_k (fun K hK => ?_); gi_wp2; refine hK.out _ _ ?_; clear hK K)
  refine wpB_seqB (wpB_block ?_)
  refine wpB_seq_k (fun K hK => ?_)
  gi_wp2
  refine hK.out _ _ ?_
  clear hK K
  obtain ⟨X1, hX1⟩ : ∃ W, W = wr.alloc (.cells #[.string x0, .string x1, .bool x2, .bool x3, .int .i64 x4, .int .i64 x5, .int .i64 x6, .slice A7 x7.length c7] 39 (0, 0)) := ⟨_, rfl⟩
  have HBX1 : Aside0 (Below wr.heap.size wr X1) := ⟨by rw [hX1]; exact below_alloc (Below.refl _ _) _⟩
  have HI1 : Aside0 (X1.heap[wr.heap.size]? = some (.cells #[.string x0, .string x1, .bool x2, .bool x3, .int .i64 x4, .int .i64 x5, .int .i64 x6, .slice A7 x7.length c7] 39 (0, 0))) := ⟨by rw [hX1]; exact blk_new _ _⟩
  rw [← hX1]
  clear hX1 q0 q1 q2 q3 q4 q5 q6 q7 y1
  generalize wr.heap.size = gi at HI1 ⊢
  have y1 : X1.cell? ⟨b1, 0, none⟩ = some (.pointer (some ⟨g, 0, none⟩)) := (blk_cell (blk_below HB1.out HBX1.out) 0).trans rfl
  have y2 := (HT1.out.keep HBX1.out).c2
  replace s0 := cell_bel HBX1.out s0
  replace s1 := cell_bel HBX1.out s1
  replace s2 := cell_bel HBX1.out s2
  replace s3 := cell_bel HBX1.out s3
  refine wpB_seq_k (fun K hK => ?_)
  gi_wp2
  refine hK.out _ _ ?_
  clear hK K
  obtain ⟨X2, hX2⟩ : ∃ W, W = X1.alloc (.cells #[.int .i64 f0, .int .i64 f1, .int .i64 f2, .bool f3] 50 (0, 0)) := ⟨_, rfl⟩
  have HBX2 : Aside0 (Below X1.heap.size X1 X2) := ⟨by rw [hX2]; exact below_alloc (Below.refl _ _) _⟩
  have HF2 : Aside0 (X2.heap[X1.heap.size]? = some (.cells #[.int .i64 f0, .int .i64 f1, .int .i64 f2, .bool f3] 50 (0, 0))) := ⟨by rw [hX2]; exact blk_new _ _⟩
  have HI2 := Aside0.mk (blk_below HI1.out HBX2.out)
  rw [← hX2]
  have HBW : Aside0 (Below wr.heap.size wr X2) := ⟨HBX1.out.trans (HBX2.out.mono HBX1.out.size)⟩
  have HGF : Aside0 (¬ OwnG g X1.heap.size) := ⟨fun e => by have e2 : X1.heap.size = g := e; have := lt_of_blk_ (HT1.out.keep HBX1.out).blk; omega⟩
  clear hX2 s0 s1 s2 s3 y1 y2 HI1
  generalize X1.heap.size = gf at HF2 HGF ⊢
  have HT2 := Aside0.mk (HT1.out.keep HBW.out)
  have HB2 := Aside0.mk (blk_below HB1.out HBW.out)
  have HSZ2 := Aside0.mk (Nat.le_trans HSZ.out HBW.out.size)
  have HJ2 := Aside0.mk (HSTB.out _ _ _ HJ.out HSZ.out HBW.out)
  have z1 : X2.cell? ⟨b1, 0, none⟩ = some (.pointer (some ⟨g, 0, none⟩)) := (blk_cell HB2.out 0).trans rfl
  have z2 : X2.cell? ⟨gi, 2, none⟩ = some (.bool x2) := (blk_cell HI2.out 2).trans rfl
  have z3 : X2.cell? ⟨gf, 0, none⟩ = some (.int .i64 f0) := (blk_cell HF2.out 0).trans rfl
  have z4 : X2.cell? ⟨gf, 2, none⟩ = some (.int .i64 f2) := (blk_cell HF2.out 2).trans rfl
  clear HJ HSZ HT1 HB1 HBX1 HBX2 HBW
  refine wpB_in ?_
  cases x2 with
  | true =>
   have HE : Aside0 (keyOne p l S k = []) := ⟨by rw [HKO.out]; rfl⟩
   gi_wp2
   refine wpB_in ?_
   gi_wp2
   rw [HWK.out]
   refine ⟨⟨k + 1, ?_⟩, ?_⟩
   ·first
    | (refine ⟨⟨HLT.out, ⟨by rw [HTK.out, HE.out, List.append_nil]; exact HJ2.out⟩, ⟨HSZ2.out⟩⟩, ?_⟩; (repeat apply Exists.intro); rfl)
    | ((repeat apply Exists.intro); exact ⟨⟨HLT.out, ⟨by rw [HTK.out, HE.out, List.append_nil]; exact HJ2.out⟩, ⟨HSZ2.out⟩⟩, rfl⟩)
   ·show p.length - ((k + 1 : Nat) : Int).toNat < p.length - ((k : Nat) : Int).toNat
    have := HLT.out; omega
  | false =>
   have HKP : Aside0 (1 ≤ k) := ⟨HK1.out rfl⟩
   by_cases n0 : f0 = 0
   case' pos =>
    subst n0
    have HRC := Aside0.mk (reached_all (p.length) k HLT.out HKP.out HLT.out o1 r1 X2 HT2.out (fun j h1 h2 => HV1.out.2 j h1))
    obtain ⟨b, hb⟩ : ∃ b, reachB p l S k = b := ⟨_, rfl⟩
    rw [hb] at HRC
    have HKO2 : Aside0 (keyOne p l S k = if b then [⟨(k : Int), false, 0⟩] else []) := ⟨by rw [HKO.out, hb, HUN.out (by first | rfl | trivial)]; cases b <;> rfl⟩
    clear hb
    cases b with
    | true =>
     have HE : Aside0 (keyOne p l S k = [⟨(k : Int), false, 0⟩]) := ⟨by rw [HKO2.out]; rfl⟩
     gi_wp2
     refine ⟨trivial, rfl, (callsIn_wide.2 HRC.out).mono ?_⟩
     rintro e X3 ⟨rfl, hk3, r3, ht3, hv3, hg3⟩
     have HV3 : Aside0 (MemoV p l S o1 r3) := ⟨HV1.out.1, fun j h1 => by
      by_cases hj : j ≤ k
      ·exact hv3 j h1 hj
      ·rw [hg3 j (by omega)]; exact HV1.out.2 j h1⟩
     have HT3 := Aside0.mk ht3
     have HKX3 := Aside0.mk hk3
     have HB3 := Aside0.mk (hk3.blk HB2.out (fun e => by have e2 : b1 = g := e; have := HGB.out; omega))
     have HSZ3 := Aside0.mk (Nat.le_trans HSZ2.out hk3.size)
     have HJ3 := Aside0.mk (HST.out _ _ _ HJ2.out (hk3.stay HSZ2.out) ((HD.out _ _ HJ2.out).keep hk3 ht3 HV3.out))
     clear hk3 ht3 hv3 hg3 z1 z2 z3 z4
     have HSP2 : Aside0 (keysL p l S = (List.range' 0 k).flatMap (keyOne p l S) ++ ⟨(k : Int), false, 0⟩ :: (List.range' (k + 1) (p.length - k - 1)).flatMap (keyOne p l S)) := ⟨by rw [HSP.out, HE.out, List.cons_append, List.nil_append]⟩
     obtain ⟨fn, tmps, assign, body, hy, hR⟩ := HY.out _ _ _ _ _ HSP2.out HJ3.out rfl
     have HR := Aside0.mk hR
     change (Instr.yield ly #[.agg #[.int .i64 (k : Int), .bool false, .int .i64 0]]).run Tryz.prog X3 = _ at hy
     clear hR
     gi_wp2
     refine ⟨rfl, HR.out.mono ?_⟩
     clear hy HR
     rintro e X5 ⟨hkx, (⟨rfl, hj5⟩ | ⟨rfl, hj5⟩)⟩
     ·have HJ5 := Aside0.mk hj5
      have HSZ5 : Aside0 (W.heap.size ≤ X5.heap.size) := ⟨Nat.le_trans HSZ3.out hkx.size⟩
      clear hkx hj5
      gi_wp2
      refine wpB_in ?_
      gi_wp2
      rw [HWK.out]
      refine ⟨⟨k + 1, ?_⟩, ?_⟩
      ·(repeat apply Exists.intro)
       exact ⟨⟨HLT.out, ⟨by rw [HTK.out, HE.out]; exact HJ5.out⟩, HSZ5⟩, rfl⟩
      ·show p.length - ((k + 1 : Nat) : Int).toNat < p.length - ((k : Nat) : Int).toNat
       have := HLT.out; omega
     ·have HJ5 := Aside0.mk hj5
      clear hkx hj5
      gi_wp2
      refine leaves_marksX HCALM.out.calm .returning (by simp) [] X5 (MarksX.nil _ _) (fun W' hW' => ?_)
      exact ⟨.tuple #[], results_none rfl _ _ _, _, rfl, .inr (HSTS.out _ _ HJ5.out (.of_stay hW'))⟩
    | false =>
     have HE : Aside0 (keyOne p l S k = []) := ⟨by rw [HKO2.out]; rfl⟩
     gi_wp2
     refine ⟨trivial, rfl, (callsIn_wide.2 HRC.out).mono ?_⟩
     rintro e X3 ⟨rfl, hk3, r3, ht3, hv3, hg3⟩
     have HV3 : Aside0 (MemoV p l S o1 r3) := ⟨HV1.out.1, fun j h1 => by
      by_cases hj : j ≤ k
      ·exact hv3 j h1 hj
      ·rw [hg3 j (by omega)]; exact HV1.out.2 j h1⟩
     have HT3 := Aside0.mk ht3
     have HKX3 := Aside0.mk hk3
     have HB3 := Aside0.mk (hk3.blk HB2.out (fun e => by have e2 : b1 = g := e; have := HGB.out; omega))
     have HSZ3 := Aside0.mk (Nat.le_trans HSZ2.out hk3.size)
     have HJ3 := Aside0.mk (HST.out _ _ _ HJ2.out (hk3.stay HSZ2.out) ((HD.out _ _ HJ2.out).keep hk3 ht3 HV3.out))
     clear hk3 ht3 hv3 hg3 z1 z2 z3 z4
     have z5 : X3.cell? ⟨b1, 0, none⟩ = some (.pointer (some ⟨g, 0, none⟩)) := (blk_cell HB3.out 0).trans rfl
     have HUW := Aside0.mk (undo_walk HT3.out HV3.out.1 k HLT.out)
     rw [HUN.out (by first | rfl | trivial)] at HUW
     gi_wp2
     refine ⟨trivial, rfl, (callsIn_wide.2 HUW.out).mono ?_⟩
     rintro e X4 ⟨rfl, hk4, o4, ht4, hv4⟩
     have HSZ4 := Aside0.mk (Nat.le_trans HSZ3.out hk4.size)
     have HJ4 := Aside0.mk (HST.out _ _ _ HJ3.out (hk4.stay HSZ3.out) ((HD.out _ _ HJ3.out).keep hk4 ht4 ⟨hv4, HV3.out.2⟩))
     clear hk4 ht4 hv4 z5
     gi_wp2
     refine wpB_in ?_
     gi_wp2
     rw [HWK.out]
     refine ⟨⟨k + 1, ?_⟩, ?_⟩
     ·first
      | (refine ⟨⟨HLT.out, ⟨by rw [HTK.out, HE.out, List.append_nil]; exact HJ4.out⟩, ⟨HSZ4.out⟩⟩, ?_⟩; (repeat apply Exists.intro); rfl)
      | ((repeat apply Exists.intro); exact ⟨⟨HLT.out, ⟨by rw [HTK.out, HE.out, List.append_nil]; exact HJ4.out⟩, ⟨HSZ4.out⟩⟩, rfl⟩)
     ·show p.length - ((k + 1 : Nat) : Int).toNat < p.length - ((k : Nat) : Int).toNat
      have := HLT.out; omega
   have c0 : (f0 == 0) = false := beq_eq_false_iff_ne.2 n0
   have HUW := Aside0.mk (undo_walk HT2.out HV1.out.1 k HLT.out)
   obtain ⟨b, hb⟩ : ∃ b, undoT p l (k : Int) = b := ⟨_, rfl⟩
   rw [hb] at HUW
   have HKO2 : Aside0 (keyOne p l S k = if b then [⟨(k : Int), true, f2⟩] else []) := ⟨by rw [HKO.out, hb, c0]; rfl⟩
   clear hb
   cases b with
   | true =>
    have HE : Aside0 (keyOne p l S k = [⟨(k : Int), true, f2⟩]) := ⟨by rw [HKO2.out]; rfl⟩
    gi_wp2_with (refine skip_w (by rfl) ?_)
    refine ⟨trivial, rfl, (callsIn_wide.2 HUW.out).mono ?_⟩
    rintro e X4 ⟨rfl, hk4, o4, ht4, hv4⟩
    have HKX4 := Aside0.mk hk4
    have HSZ4 := Aside0.mk (Nat.le_trans HSZ2.out hk4.size)
    have HJ4 := Aside0.mk (HST.out _ _ _ HJ2.out (hk4.stay HSZ2.out) ((HD.out _ _ HJ2.out).keep hk4 ht4 ⟨hv4, HV1.out.2⟩))
    clear hk4 ht4 hv4 z1 z2 z3 z4
    have z5 : X4.cell? ⟨gf, 2, none⟩ = some (.int .i64 f2) := (blk_cell (HKX4.out.blk HF2.out HGF.out) 2).trans rfl
    have HSP2 : Aside0 (keysL p l S = (List.range' 0 k).flatMap (keyOne p l S) ++ ⟨(k : Int), true, f2⟩ :: (List.range' (k + 1) (p.length - k - 1)).flatMap (keyOne p l S)) := ⟨by rw [HSP.out, HE.out, List.cons_append, List.nil_append]⟩
    obtain ⟨fn, tmps, assign, body, hy, hR⟩ := HY.out _ _ _ _ _ HSP2.out HJ4.out rfl
    have HR := Aside0.mk hR
    change (Instr.yield ly #[.agg #[.int .i64 (k : Int), .bool true, .int .i64 f2]]).run Tryz.prog X4 = _ at hy
    clear hR
    gi_wp2
    refine ⟨rfl, HR.out.mono ?_⟩
    clear hy HR
    rintro e X5 ⟨hkx, (⟨rfl, hj5⟩ | ⟨rfl, hj5⟩)⟩
    ·have HJ5 := Aside0.mk hj5
     have HSZ5 : Aside0 (W.heap.size ≤ X5.heap.size) := ⟨Nat.le_trans HSZ4.out hkx.size⟩
     clear hkx hj5
     gi_wp2
     refine wpB_in ?_
     gi_wp2
     rw [HWK.out]
     refine ⟨⟨k + 1, ?_⟩, ?_⟩
     ·(repeat apply Exists.intro)
      exact ⟨⟨HLT.out, ⟨by rw [HTK.out, HE.out]; exact HJ5.out⟩, HSZ5⟩, rfl⟩
     ·show p.length - ((k + 1 : Nat) : Int).toNat < p.length - ((k : Nat) : Int).toNat
      have := HLT.out; omega
    ·have HJ5 := Aside0.mk hj5
     clear hkx hj5
     gi_wp2
     refine leaves_marksX HCALM.out.calm .returning (by simp) [] X5 (MarksX.nil _ _) (fun W' hW' => ?_)
     exact ⟨.tuple #[], results_none rfl _ _ _, _, rfl, .inr (HSTS.out _ _ HJ5.out (.of_stay hW'))⟩
   | false =>
    have HE : Aside0 (keyOne p l S k = []) := ⟨by rw [HKO2.out]; rfl⟩
    gi_wp2_with (refine skip_w (by rfl) ?_)
    refine ⟨trivial, rfl, (callsIn_wide.2 HUW.out).mono ?_⟩
    rintro e X4 ⟨rfl, hk4, o4, ht4, hv4⟩
    have HKX4 := Aside0.mk hk4
    have HSZ4 := Aside0.mk (Nat.le_trans HSZ2.out hk4.size)
    have HJ4 := Aside0.mk (HST.out _ _ _ HJ2.out (hk4.stay HSZ2.out) ((HD.out _ _ HJ2.out).keep hk4 ht4 ⟨hv4, HV1.out.2⟩))
    clear hk4 ht4 hv4 z1 z2 z3 z4
    gi_wp2
    refine wpB_in ?_
    gi_wp2
    rw [HWK.out]
    refine ⟨⟨k + 1, ?_⟩, ?_⟩
    ·first
     | (refine ⟨⟨HLT.out, ⟨by rw [HTK.out, HE.out, List.append_nil]; exact HJ4.out⟩, ⟨HSZ4.out⟩⟩, ?_⟩; (repeat apply Exists.intro); rfl)
     | ((repeat apply Exists.intro); exact ⟨⟨HLT.out, ⟨by rw [HTK.out, HE.out, List.append_nil]; exact HJ4.out⟩, ⟨HSZ4.out⟩⟩, rfl⟩)
    ·show p.length - ((k + 1 : Nat) : Int).toNat < p.length - ((k : Nat) : Int).toNat
     have := HLT.out; omega
 ·obtain rfl : k = p.length := by omega
  have HJE := Aside0.mk (show J (keysL p l S) wr from HJ.out)
  (refine wpB_seq_k (fun K hK => ?_); gi_wp2; refine hK.out _ _ ?_; clear hK K)
  refine wpB_in ?_
  gi_wp2
  refine leaves_marksX HCALM.out.calm .returning (by simp) [] wr (MarksX.nil _ _) (fun W' hW' => ?_)
  exact ⟨.tuple #[], results_none rfl _ _ _, _, rfl, .inl (HST.out _ _ _ HJE.out (.of_stay hW') ((HD.out _ _ HJE.out).stay hW' (Nat.le_of_lt HEG.out)))⟩
end
end Go.Proofs.YtloijngccppfgaaGreat.F
end

section
namespace Go.Proofs.YtloijngccppfgaaGreat.Pure
set_option linter.unusedVariables false
open Go.RowKit Go.Proofs.YtloijngccppfgaaGreat.F Go.Proofs.YtloijngccppfgaaGreatW.PrintWords Go.Proofs.YtloijngccppfgaaGreatW.PrintLast
abbrev R_ (p : List S39) (i : Nat) : S39 := rd_T39 p (i : Int)
theorem R_get {a : List S39} {i : Nat} (h : i < a.length) : R_ a i = a[i] := rd_item h
theorem R_left {a b : List S39} {i : Nat} (h : i < a.length) : R_ (a ++ b) i = R_ a i := by
 rw [R_get h, R_get (by simp; omega), List.getElem_append_left h]
theorem R_last (a : List S39) (x : S39) : R_ (a ++ [x]) a.length = x := by
 rw [R_get (by simp)]
 simp
theorem R_set {a : List S39} {i j : Nat} (h : i < a.length) (y : S39) : R_ (a.set i y) j = if j = i then y else R_ a j := by
 by_cases hj : j < a.length
 ·rw [R_get (by simpa using hj), List.getElem_set]
  by_cases e : i = j
  ·subst e; rw [if_pos rfl, if_pos rfl]
  ·rw [if_neg e, if_neg (Ne.symm e), R_get hj]
 ·have e : j ≠ i := by omega
  rw [if_neg e]
  show rd_T39 _ _ = rd_T39 _ _
  unfold rd_T39
  rw [Int.toNat_natCast, List.getD_eq_getElem?_getD, List.getD_eq_getElem?_getD, List.getElem?_eq_none (by simpa using hj), List.getElem?_eq_none (by omega)]
structure Grows (a b : List S39) : Prop where
 len : a.length ≤ b.length
 at_ : ∀ i : Nat, i < a.length → (R_ b i).f5 = (R_ a i).f5 ∧ (R_ b i).f6 = (R_ a i).f6 ∧ (R_ b i).f2 = (R_ a i).f2
theorem Grows.refl (a : List S39) : Grows a a := ⟨Nat.le_refl _, fun _ _ => ⟨rfl, rfl, rfl⟩⟩
theorem Grows.trans {a b c : List S39} (h : Grows a b) (k : Grows b c) : Grows a c := ⟨Nat.le_trans h.len k.len, fun i hi => by
 obtain ⟨h1, h2, h3⟩ := h.at_ i hi
 obtain ⟨k1, k2, k3⟩ := k.at_ i (Nat.lt_of_lt_of_le hi h.len)
 exact ⟨k1.trans h1, k2.trans h2, k3.trans h3⟩⟩
def AftOk (a : List S39) : Prop := ∀ i : Nat, i < a.length → ∀ k ∈ (R_ a i).f7, ∃ n : Nat, k = n ∧ n < a.length ∧ (R_ a n).f5 = (R_ a i).f5 ∧ (R_ a n).f6 = (R_ a i).f6
theorem ok_snoc {a : List S39} (h : AftOk a) (x : S39) (hx : x.f7 = []) : AftOk (a ++ [x]) ∧ Grows a (a ++ [x]) := by
 refine ⟨fun i hi k hk => ?_, by simp, fun i hi => by rw [R_left hi]; exact ⟨rfl, rfl, rfl⟩⟩
 by_cases hl : i < a.length
 ·rw [R_left hl] at hk ⊢
  obtain ⟨n, h1, h2, h3, h4⟩ := h i hl k hk
  exact ⟨n, h1, by simp; omega, by rw [R_left h2]; exact h3, by rw [R_left h2]; exact h4⟩
 ·obtain rfl : i = a.length := by simp at hi; omega
  rw [R_last, hx] at hk
  cases hk
theorem ok_add {a : List S39} (h : AftOk a) {i n : Nat} (hi : i < a.length) (hn : n < a.length) (e5 : (R_ a n).f5 = (R_ a i).f5) (e6 : (R_ a n).f6 = (R_ a i).f6) : AftOk (addAfter a (i : Int) (n : Int)) ∧ Grows a (addAfter a (i : Int) (n : Int)) := by
 have hg : Grows a (addAfter a (i : Int) (n : Int)) := by
  unfold addAfter
  rw [Int.toNat_natCast]
  refine ⟨by simp, fun j hj => ?_⟩
  rw [R_set hi]
  by_cases e : j = i
  ·subst e; rw [if_pos rfl]; exact ⟨rfl, rfl, rfl⟩
  ·rw [if_neg e]; exact ⟨rfl, rfl, rfl⟩
 have hlen : (addAfter a (i : Int) (n : Int)).length = a.length := by unfold addAfter; simp
 refine ⟨fun j hj k hk => ?_, hg⟩
 rw [hlen] at hj
 have hk2 : k ∈ (R_ a j).f7 ∨ (j = i ∧ k = n) := by
  unfold addAfter at hk
  rw [Int.toNat_natCast, R_set hi] at hk
  by_cases e : j = i
  ·subst e
   rw [if_pos rfl] at hk
   rcases List.mem_append.1 hk with hk | hk
   ·exact .inl hk
   ·exact .inr ⟨rfl, List.mem_singleton.1 hk⟩
  ·rw [if_neg e] at hk
   exact .inl hk
 obtain ⟨g1, g2, g3⟩ := hg.at_ j hj
 rcases hk2 with hk | ⟨rfl, rfl⟩
 ·obtain ⟨m, h1, h2, h3, h4⟩ := h j hj k hk
  obtain ⟨m1, m2, m3⟩ := hg.at_ m h2
  exact ⟨m, h1, by rw [hlen]; exact h2, by rw [m1, g1]; exact h3, by rw [m2, g2]; exact h4⟩
 ·obtain ⟨m1, m2, m3⟩ := hg.at_ n hn
  exact ⟨n, rfl, by rw [hlen]; exact hn, by rw [m1, g1]; exact e5, by rw [m2, g2]; exact e6⟩
def NumOk (inn alt : Int) (a : List S39) (nums : List Int) : Prop := ∀ m ∈ nums, ∃ n : Nat, m = n ∧ n < a.length ∧ (R_ a n).f5 = inn ∧ (R_ a n).f6 = alt
theorem NumOk.grows {inn alt : Int} {a b : List S39} {nums : List Int} (h : NumOk inn alt a nums) (hg : Grows a b) : NumOk inn alt b nums := fun m hm => by
 obtain ⟨n, h1, h2, h3, h4⟩ := h m hm
 obtain ⟨g1, g2, -⟩ := hg.at_ n h2
 exact ⟨n, h1, Nat.lt_of_lt_of_le h2 hg.len, g1.trans h3, g2.trans h4⟩
theorem rd_mem {l : List Int} {k : Int} (h0 : 0 ≤ k) (h1 : k < (l.length : Int)) : rd l k ∈ l := by
 obtain ⟨n, rfl⟩ := Int.eq_ofNat_of_zero_le h0
 unfold rd
 rw [Int.toNat_natCast, List.getD_eq_getElem?_getD, List.getElem?_eq_getElem (by omega)]
 exact List.getElem_mem _
theorem ok_arcs {b : List S112} {inn alt : Int} {ats : List Int} (hl : ats.length = b.length) {i : Nat} : ∀ (s : List ByteArray) (a : List S39), AftOk a → NumOk inn alt a ats → i < a.length → (R_ a i).f5 = inn → (R_ a i).f6 = alt → (∀ x ∈ s, 0 ≤ namedI b x ∧ namedI b x < (b.length : Int)) → AftOk (arcsTo b ats (i : Int) s a) ∧ Grows a (arcsTo b ats (i : Int) s a)
 | [], a, h, _, _, _, _, _ => ⟨h, Grows.refl _⟩
 | x :: s, a, h, hn, hi, e5, e6, hs => by
  obtain ⟨q1, q2⟩ := hs x (List.mem_cons_self ..)
  obtain ⟨n, n1, n2, n3, n4⟩ := hn _ (rd_mem (l := ats) q1 (by omega))
  obtain ⟨r1, r2⟩ := ok_add h hi n2 (n3.trans e5.symm) (n4.trans e6.symm)
  obtain ⟨g1, g2, -⟩ := r2.at_ i hi
  rw [arcsTo, n1]
  obtain ⟨z1, z2⟩ := ok_arcs hl s _ r1 (hn.grows r2) (Nat.lt_of_lt_of_le hi r2.len) (g1.trans e5) (g2.trans e6) (fun y hy => hs y (List.mem_cons_of_mem _ hy))
  exact ⟨z1, r2.trans z2⟩
theorem ok_pass2 {b : List S112} {inn alt : Int} {ats : List Int} (hl : ats.length = b.length) : ∀ (l : List S112) (i : Nat) (a : List S39), i + l.length = b.length → AftOk a → NumOk inn alt a ats → (∀ x ∈ l, ∀ s ∈ x.f2, 0 ≤ namedI b s ∧ namedI b s < (b.length : Int)) → AftOk (F.pass2 b ats i l a) ∧ Grows a (F.pass2 b ats i l a)
 | [], _, a, _, h, _, _ => ⟨h, Grows.refl _⟩
 | x :: l, i, a, hi, h, hn, hs => by
  simp only [List.length_cons] at hi
  obtain ⟨n, n1, n2, n3, n4⟩ := hn _ (rd_mem (l := ats) (k := (i : Int)) (by omega) (by omega))
  obtain ⟨r1, r2⟩ := ok_arcs hl (i := n) x.f2 a h hn n2 n3 n4 (hs x (List.mem_cons_self ..))
  obtain ⟨z1, z2⟩ := ok_pass2 hl l (i + 1) _ (by omega) r1 (hn.grows r2) (fun y hy => hs y (List.mem_cons_of_mem _ hy))
  rw [F.pass2, n1]
  exact ⟨z1, r2.trans z2⟩
def AltsC (l : List S110) : Prop := ∀ (inn alt : Int) (a : List S39), AftOk a → AftOk (flAlts inn alt a l) ∧ Grows a (flAlts inn alt a l)
theorem ok_node {x : S112} (hx : AltsC x.f5) (inn alt : Int) (a : List S39) (h : AftOk a) : AftOk (flNode inn alt a x) ∧ Grows a (flNode inn alt a x) ∧ a.length < (flNode inn alt a x).length ∧ (R_ (flNode inn alt a x) a.length).f5 = inn ∧ (R_ (flNode inn alt a x) a.length).f6 = alt := by
 rw [flNode_eq]
 obtain ⟨r1, r2⟩ := ok_snoc h ⟨x.f0, x.f1, x.f3, x.f4, (x.f5.length : Int), inn, alt, []⟩ rfl
 obtain ⟨z1, z2⟩ := hx (a.length : Int) 0 _ r1
 have hl := z2.len
 simp only [List.length_append, List.length_singleton] at hl
 obtain ⟨g1, g2, -⟩ := z2.at_ a.length (by simp)
 rw [R_last] at g1 g2
 exact ⟨z1, r2.trans z2, by omega, g1, g2⟩
theorem ok_nodes (inn alt : Int) : ∀ (l : List S112), (∀ x ∈ l, AltsC x.f5) → ∀ (a : List S39) (nums : List Int), AftOk a → NumOk inn alt a nums → AftOk (flNodes inn alt a nums l).1 ∧ Grows a (flNodes inn alt a nums l).1 ∧ NumOk inn alt (flNodes inn alt a nums l).1 (flNodes inn alt a nums l).2 ∧ (flNodes inn alt a nums l).2.length = nums.length + l.length
 | [], _, a, nums, h, hn => by simp only [flNodes]; exact ⟨h, Grows.refl _, hn, by simp⟩
 | x :: l, hx, a, nums, h, hn => by
  obtain ⟨r1, r2, r3, r4, r5⟩ := ok_node (hx x (List.mem_cons_self ..)) inn alt a h
  have hn2 : NumOk inn alt (flNode inn alt a x) (nums ++ [(a.length : Int)]) := fun m hm => by
   rcases List.mem_append.1 hm with hm | hm
   ·exact hn.grows r2 m hm
   ·exact ⟨a.length, List.mem_singleton.1 hm, r3, r4, r5⟩
  obtain ⟨z1, z2, z3, z4⟩ := ok_nodes inn alt l (fun y hy => hx y (List.mem_cons_of_mem _ hy)) _ _ r1 hn2
  simp only [flNodes]
  exact ⟨z1, r2.trans z2, z3, by rw [z4]; simp; omega⟩
theorem ok_body {b : S110} (hx : ∀ x ∈ b.f0, AltsC x.f5) (hs : ∀ x ∈ b.f0, ∀ s ∈ x.f2, 0 ≤ namedI b.f0 s ∧ namedI b.f0 s < (b.f0.length : Int)) (inn alt : Int) (a : List S39) (h : AftOk a) : AftOk (flBody inn alt a b) ∧ Grows a (flBody inn alt a b) := by
 rw [flBody_eq]
 obtain ⟨r1, r2, r3, r4⟩ := ok_nodes inn alt b.f0 hx a [] h (fun m hm => by cases hm)
 obtain ⟨z1, z2⟩ := ok_pass2 (b := b.f0) (by simpa using r4) b.f0 0 _ (by omega) r1 r3 hs
 exact ⟨z1, r2.trans z2⟩
theorem ok_list : ∀ (l : List S110), (∀ b ∈ l, (∀ x ∈ b.f0, AltsC x.f5) ∧ ∀ x ∈ b.f0, ∀ s ∈ x.f2, 0 ≤ namedI b.f0 s ∧ namedI b.f0 s < (b.f0.length : Int)) → AltsC l
 | [], _, inn, alt, a, h => by simp only [flAlts]; exact ⟨h, Grows.refl _⟩
 | b :: l, hb, inn, alt, a, h => by
  obtain ⟨q1, q2⟩ := hb b (List.mem_cons_self ..)
  obtain ⟨r1, r2⟩ := ok_body q1 q2 inn alt a h
  obtain ⟨z1, z2⟩ := ok_list l (fun y hy => hb y (List.mem_cons_of_mem _ hy)) inn (alt + 1) _ r1
  simp only [flAlts]
  exact ⟨z1, r2.trans z2⟩
theorem ok_alts (n : Nat) : ∀ (l : List S110) (d : Int), SizeOf.sizeOf l < n → soundB l = true → (∀ u ∈ visAlts d l, soundB u.n.f5 = true) → AltsC l := by
 induction n with
 | zero => intro l d h; omega
 | succ n ih =>
  intro l d hn hs hv
  refine ok_list l (fun b hb => ⟨fun x hx => ?_, (sound_named hs hb).2⟩)
  obtain ⟨h1, h2⟩ := vis_mem hb hx hv
  have := size_child hb hx
  exact ih x.f5 _ (by omega) h1 h2
theorem make_ok {nm : ByteArray} {l : List S110} (h : checkB nm l = true) : AftOk (makeL nm l) ∧ Grows [rootOf nm l] (makeL nm l) := by
 obtain ⟨h1, h2, -⟩ := check_small h
 refine ok_alts _ l 1 (Nat.lt_succ_self _) h1 h2 0 0 _ ?_
 intro i hi k hk
 obtain rfl : i = 0 := by simpa using hi
 cases hk
theorem right_after {p : List S39} (h : rightB p = true) : (R_ p 0).f2 = true ∧ ∀ i, i < p.length → ∀ k ∈ (R_ p i).f7, ∃ n : Nat, k = n ∧ n < p.length ∧ (R_ p n).f5 = (R_ p i).f5 ∧ (R_ p n).f6 = (R_ p i).f6 := by
 obtain ⟨h1, h2, h3, h4⟩ := right_saga h
 obtain ⟨q1, q2⟩ := make_ok h2
 have hp := (shaped_len h1).1
 have ha : ∀ i, i < p.length → (R_ p i).f2 = (R_ (makeL (nameP p) (sagaOf p)) i).f2 ∧ (R_ p i).f5 = (R_ (makeL (nameP p) (sagaOf p)) i).f5 ∧ (R_ p i).f6 = (R_ (makeL (nameP p) (sagaOf p)) i).f6 ∧ (R_ p i).f7 = (R_ (makeL (nameP p) (sagaOf p)) i).f7 := fun i hi => by
  have h5 := h4 i hi (by omega)
  rw [R_get hi, R_get (by omega)]
  unfold alikeB at h5
  simp only [Bool.and_eq_true, beq_iff_eq, decide_eq_true_eq] at h5
  exact ⟨h5.2.2.1, h5.2.2.2.2.2.1, h5.2.2.2.2.2.2.1, h5.2.2.2.2.2.2.2⟩
 refine ⟨?_, fun i hi k hk => ?_⟩
 ·rw [(ha 0 hp).1, (q2.at_ 0 (by simp)).2.2]
  rfl
 ·obtain ⟨-, a5, a6, a7⟩ := ha i hi
  rw [a7] at hk
  obtain ⟨n, n1, n2, n3, n4⟩ := q1 i (by omega) k hk
  obtain ⟨-, b5, b6, -⟩ := ha n (by omega)
  exact ⟨n, n1, by omega, by rw [b5, a5]; exact n3, by rw [b6, a6]; exact n4⟩
end Go.Proofs.YtloijngccppfgaaGreat.Pure
end

section
namespace Go.Proofs.YtloijngccppfgaaGreat.F
open Go.RowKit Go.Proofs.YtloijngccppfgaaGreatW.PrintWords Go.Proofs.YtloijngccppfgaaGreatW.PrintLast Go.Proofs.YtloijngccppfgaaGreatW.PrintMore
attribute [local go_sem] max2_int min2_int max_two min_two max_three min_three max_four min_four
set_option linter.unusedVariables false
set_option linter.unusedSimpArgs false
open Go.Proofs.YtloijngccppfgaaGreat.Pure
attribute [local go_sem] Oper.semAt_some
def keyC (k : S46) : List Value := [.int .i64 k.f0, .bool k.f1, .int .i64 k.f2]
def mayL (p : List S39) (l : List S50) : List S46 := if factsB p l then keysL p l (allB p l (madeS p l)) else []
theorem root_sub {p : List S39} {l : List S50} (h : factsB p l = true) : (rd_T39 p 0).f2 = true := (right_after (facts_made h).2.1).1
theorem keyOne_len (p : List S39) (l : List S50) (S : List Int) (i : Nat) : (keyOne p l S i).length ≤ 1 := by
 unfold keyOne
 split
 ·simp
 ·split
  ·simp
  ·split
   ·simp
   ·simp
theorem flatT_len {α : Type} (F : Nat → List α) (h : ∀ i, (F i).length ≤ 1) : ∀ (n a : Nat), ((List.range' a n).flatMap F).length ≤ n
 | 0, a => by simp
 | n + 1, a => by
  rw [List.range'_succ, List.flatMap_cons, List.length_append]
  have h1 := flatT_len F h n (a + 1)
  have h2 := h a
  omega
theorem keysL_len (p : List S39) (l : List S50) (S : List Int) : (keysL p l S).length ≤ p.length := flatT_len _ (keyOne_len p l S) _ _
theorem keys_reps (w : World) (base : Nat) (ok : Nat → Prop) : ∀ (l l' : List S46) (cs : List Value), Reps (k46.M w base ok) 3 l' cs → Reps (k46.M w base ok) 3 (l' ++ l) (cs ++ l.flatMap keyC)
 | [], l', cs, h => by simpa using h
 | x :: l, l', cs, h => by
  have h1 := keys_reps w base ok l (l' ++ [x]) (cs ++ keyC x) (h.snoc (k46_mkM w base ok x) rfl)
  rw [List.append_assoc, List.append_assoc] at h1
  exact h1
theorem keys_R {w : World} {base : Nat} {v : Value} {l : List S46} (h : w.ownsRow base 46 3 v l.length (l.flatMap keyC)) : Kd.R k46 46 w base (fun _ => True) v l :=
 Kd.R_mono (ok := fun k => some k = v.ownBlock) ⟨fun k hk => hk.symm, l.flatMap keyC, h, by have := keys_reps w base (fun k => some k = v.ownBlock ∧ some k ≠ v.ownBlock) l [] [] (Reps.none _ _); simp only [List.nil_append] at this; exact this⟩ (fun _ _ => trivial)
structure RowT (t e : TypeId) (size base n8 b1 n : Nat) (xs : List Value) (X : World) : Prop where
 row : ∃ v : Value, X.heap[n8]? = some (.cells #[v] t (0, 0)) ∧ X.ownsRow base e size v n xs ∧ v.ownBlock ≠ some b1
 d1 : b1 < X.heap.size
 lo : base ≤ n8 ∧ n8 < b1
theorem rowEx_calmE {E : Nat → Prop} {n8 B : Nat} {t : TypeId} (h : n8 < B) (he : ¬ E n8) : CalmE E (rowEx n8 t) B := fun _ _ hb _ ⟨v, h1, h2⟩ => ⟨v, (hb _ h he).symm.trans h1, h2⟩
theorem ownsRow_stayE {E : Nat → Prop} {m base n size : Nat} {e : TypeId} {v : Value} {xs : List Value} {X X' : World} (h : X.ownsRow base e size v n xs) (hs : StayE E m X X') (he : ∀ k, E k → k < base) : X'.ownsRow base e size v n xs := by
 refine ⟨h.1, ?_⟩
 rcases h.2 with h | ⟨g, cap, cur, q1, q2, q3, q4⟩
 ·exact .inl h
 ·exact .inr ⟨g, cap, cur, q1, q2, hs.cells _ _ (fun hg => by have := he _ hg; omega) rfl q3, q4⟩
section
variable {t e : TypeId} {size base n8 b1 n : Nat} {xs : List Value} {X : World}
theorem RowT.stayE {E : Nat → Prop} {m : Nat} {X' : World} (h : RowT t e size base n8 b1 n xs X) (hs : StayE E m X X') (he : ∀ k, E k → k < base) : RowT t e size base n8 b1 n xs X' := by
 obtain ⟨v, r1, r2, r3⟩ := h.row
 exact ⟨⟨v, hs.cells _ _ (fun hg => by have := he _ hg; have := h.lo.1; omega) rfl r1, ownsRow_stayE r2 hs he, r3⟩, Nat.lt_of_lt_of_le h.d1 hs.size, h.lo⟩
theorem RowT.exl (h : RowT t e size base n8 b1 n xs X) (k : Nat) (hk : rowEx n8 t X k) : k < X.heap.size := by
 obtain ⟨v, r1, r2, r3⟩ := h.row
 obtain ⟨u, u1, u2⟩ := hk
 rw [r1] at u1
 cases u1
 exact ownBlock_lt r2 u2
theorem RowT.step {tmp : Obj} {v v' : Value} {m : Nat} {ys : List Value} {w1 : World} (h : RowT t e size base n8 b1 n xs X) (hv : X.heap[n8]? = some (.cells #[v] t (0, 0))) (hte : t ≠ e)
  (hown' : w1.ownsRow base e size v' m ys) (hgrow : (X.alloc tmp).grownBy w1 v.ownBlock) (hfr : v'.ownBlock = v.ownBlock ∨ v'.ownBlock = some (X.alloc tmp).heap.size) :
  RowT t e size base n8 b1 m ys (w1.setCell ⟨n8, 0, none⟩ v') ∧ (∀ B, n8 < B → KeepX (rowEx n8 t) B X (w1.setCell ⟨n8, 0, none⟩ v')) ∧ Below base X (w1.setCell ⟨n8, 0, none⟩ v') ∧ (w1.setCell ⟨n8, 0, none⟩ v').heap[b1]? = X.heap[b1]? := by
 obtain ⟨v0, r1, r2, r3⟩ := h.row
 rw [hv] at r1
 cases r1
 have hlo := h.lo
 have hb1 := h.d1
 have hn8 : n8 < X.heap.size := (Array.getElem?_eq_some_iff.1 hv).1
 have hbs : base ≤ X.heap.size := by omega
 obtain ⟨q1, q2, q3, q4, q5⟩ := Boxed.appended (W := X) (B := n8) (n₀ := base) hv hte r2 hbs hlo.1 hown' hgrow
 have hsz : X.heap.size < (X.alloc tmp).heap.size := by simp
 have hk : ∀ k, k < X.heap.size → k ≠ n8 → v.ownBlock ≠ some k → (w1.setCell ⟨n8, 0, none⟩ v').heap[k]? = X.heap[k]? := fun k hk hn hx => by
  rw [Below.heap_setCell w1 ⟨n8, 0, none⟩ v' k hn, hgrow.block k (by omega) (fun e => hx e.symm)]
  exact ((Below.refl X.heap.size X).alloc (Nat.le_refl _) tmp).block k hk
 have hne : ∀ k, k < X.heap.size → v.ownBlock ≠ some k → v'.ownBlock ≠ some k := fun k hk hx e => by
  rcases hfr with h1 | h1
  ·exact hx (h1.symm.trans e)
  ·rw [h1] at e; cases e; omega
 have hkb := hk b1 hb1 (by omega) r3
 refine ⟨⟨⟨v', q2, q3, hne _ hb1 r3⟩, Nat.lt_of_lt_of_le hb1 q5.size, hlo⟩, fun B hB => ⟨q5.size, fun k hB2 hlt hx => ?_⟩, q5, hkb⟩
 have hxv : v.ownBlock ≠ some k := fun e => hx ⟨v, hv, e⟩
 refine ⟨hk k hlt (by omega) hxv, ?_⟩
 rintro ⟨u, u1, u2⟩
 rw [show (w1.setCell ⟨n8, 0, none⟩ v').heap[n8]? = some (.cells #[v'] t (0, 0)) from q2] at u1
 cases u1
 exact hne k hlt hxv u2
end
theorem key_cells (w : World) (k : S46) : ∀ (j : Nat) (u : Value), (keyC k)[j]? = some u → (w.alloc (.cells #[.int .i64 k.f0, .bool k.f1, .int .i64 k.f2] 46 (0, 0))).cell? ((⟨w.heap.size, 0, none⟩ : Addr).add j) = some u := by
 intro j u h
 rw [add_plain]
 match j, h with
 | 0, h => obtain rfl := Option.some.inj h; exact (blk_cell (blk_new w _) 0).trans rfl
 | 1, h => obtain rfl := Option.some.inj h; exact (blk_cell (blk_new w _) 1).trans rfl
 | 2, h => obtain rfl := Option.some.inj h; exact (blk_cell (blk_new w _) 2).trans rfl
theorem key_one (k : S46) : ∀ u ∈ keyC k, u.oneCell' = true := by
 intro u hu
 unfold keyC at hu
 rcases List.mem_cons.1 hu with rfl | hu
 ·rfl
 rcases List.mem_cons.1 hu with rfl | hu
 ·rfl
 rw [List.mem_singleton.1 hu]
 rfl
theorem TaskD.moved {w0 : World} {g : Nat} {p : List S39} {A : Option Addr} {c : Nat} {l : List S50} {Al : Option Addr} {cl : Nat} {S : List Int} {As : Option Addr} {cs gb gv b1 n : Nat} {X X' : World} (h : TaskD w0 g p A c l Al cl S As cs gb gv b1 X) (hb : Below n X X') (hn : g < n) (h1 : X'.heap[b1]? = X.heap[b1]?) : TaskD w0 g p A c l Al cl S As cs gb gv b1 X' := by
 obtain ⟨h0, h2, o, r, h3, h4⟩ := h
 exact ⟨h0, h1.trans h2, o, r, ⟨h3.st0, h3.eg, h3.b.trans (hb.mono (Nat.le_of_lt hn)), (hb.block _ hn).trans h3.blk⟩, h4⟩
theorem rowT_lower {w : World} {b b' n size : Nat} {e : TypeId} {v : Value} {xs : List Value} (h : w.ownsRow b e size v n xs) (hb : b' ≤ b) : w.ownsRow b' e size v n xs := by
 refine ⟨h.1, ?_⟩
 rcases h.2 with h | ⟨g, cap, cur, q1, q2, q3⟩
 ·exact .inl h
 ·exact .inr ⟨g, cap, cur, q1, Nat.le_trans hb q2, q3⟩
theorem TaskAt.between {w0 : World} {g : Nat} {p : List S39} {A : Option Addr} {c : Nat} {l : List S50} {Al : Option Addr} {cl : Nat} {S : List Int} {As : Option Addr} {cs gb gv : Nat} {o r o' r' : Nat → Int} {X Y : World} (h : TaskAt w0 g p A c l Al cl S As cs gb gv o r X) (k : TaskAt w0 g p A c l Al cl S As cs gb gv o' r' Y) (hs : X.heap.size ≤ Y.heap.size) : Below g X Y := ⟨k.b.os.trans h.b.os.symm, k.b.tape.trans h.b.tape.symm, k.b.output.trans h.b.output.symm, hs, fun i hi => (k.b.block i hi).trans (h.b.block i hi).symm⟩
theorem info_key : (Tryz.prog.info? 46).map (fun i => (i.zero, i.size, i.bytes)) = some (some (.agg #[.int .i64 0, .bool false, .int .i64 0]), 3, 24) := by kernel_rfl
set_option maxHeartbeats 8000000 in
set_option maxRecDepth 100000 in
theorem may_walk (A0_0 : Option Addr) (c0_0 : Nat) (l0_0 : List S39) (A1 : Option Addr) (c1 : Nat) (l1 : List S50) (w : World) (hr0_0 : Kd.C k39 w A0_0 l0_0.length l0_0) (hc0_0 : l0_0.length ≤ c0_0) (hr1 : Kd.C k50 w A1 l1.length l1) (hc1 : l1.length ≤ c1) (hok : okArgs l0_0 l1 = true) :
  Calls Tryz.prog 19 #[.agg #[.slice A0_0 l0_0.length c0_0], .slice A1 l1.length c1] w fun e w' => ∃ v0_ : Value, e = .returned v0_ ∧ w'.ownsRow w.heap.size 46 3 v0_ (mayL l0_0 l1).length ((mayL l0_0 l1).flatMap keyC) ∧ Below w.heap.size w w' := by
 have HB0 := Aside0.mk (below_alloc (Below.refl w.heap.size w) (.cells #[.slice A0_0 l0_0.length c0_0] 24 (0, 0)))
 have HG0 := Aside0.mk (blk_new w (.cells #[.slice A0_0 l0_0.length c0_0] 24 (0, 0)))
 have HS := Aside0.mk (task_seen_walk l0_0 A0_0 c0_0 l1 A1 c1 (w.alloc (.cells #[.slice A0_0 l0_0.length c0_0] 24 (0, 0))) (Kd.C_below hr0_0 HB0.out) hc0_0 (Kd.C_below hr1 HB0.out) hc1 hok)
 unfold mayL
 clear hr0_0 hc0_0 hr1 hc1 hok
 cases hv : factsB l0_0 l1 with
 | false =>
  have HV := Aside0.mk hv
  rw [hv] at HS
  clear hv
  simp only [Bool.false_eq_true, if_false]
  go_enter Tryz.func19, Tryz.ntmps19
  go_wp2_with (go_at_call 47; refine HS.out.mono ?_; rintro e w2 ⟨r, rfl, hm⟩; obtain rfl := hm.none_ HV.out; dsimp only [ptrV]; have HB2 := Aside0.mk (HB0.out.trans (hm.1.mono HB0.out.size)); clear hm)
  go_ret
  exact ⟨_, rfl, World.ownsRow_nil _ _ _ _, HB2.out⟩
 | true =>
  have HV := Aside0.mk hv
  rw [hv] at HS
  obtain ⟨hln, hsh⟩ := facts_shape hv
  have HN64 := Aside0.mk (shape_few hsh)
  have HROOT : Aside0 ((rd_T39 l0_0 0).f2 = true) := ⟨root_sub hv⟩
  obtain ⟨S, hS⟩ : ∃ S, allB l0_0 l1 (madeS l0_0 l1) = S := ⟨_, rfl⟩
  have HSS := Aside0.mk hS
  simp only [if_true]
  rw [hS]
  obtain ⟨L, hL⟩ : ∃ L, keysL l0_0 l1 S = L := ⟨_, rfl⟩
  have HLL := Aside0.mk hL
  have HLE : Aside0 (L.length ≤ 64) := ⟨by rw [← hL]; exact Nat.le_trans (keysL_len _ _ _) HN64.out.2⟩
  rw [hL]
  clear hS hv hln hsh hL
  obtain ⟨i0, hi, hz0, hz1, hz2⟩ := info_parts info_key
  refine (callsIn_wide (n := 0)).1 ?_
  refine callsIn_of_wpB Tryz.func19 rfl ?_
  simp only [Tryz.ntmps19, List.size_toArray, List.length_cons, List.length_nil, Nat.reduceAdd, Nat.reduceSub, Array.replicate_succ, Array.replicate_zero, List.push_toArray, List.append_toArray, List.nil_append, List.cons_append]
  (refine wpB_seq_k (fun K hK => ?_); gi_wp2; refine hK.out _ _ ?_; clear hK K)
  refine wpB_seq_k (fun K hK => ?_)
  gi_wp2
  refine ⟨trivial, rfl, (callsIn_wide.2 HS.out).mono ?_⟩
  rintro e w2 ⟨r, rfl, hm⟩
  obtain ⟨g, w0, As, cs, gb, gv, rfl, hg, hw⟩ := hm.some_ HV.out
  rw [HSS.out] at hw
  dsimp only [ptrV]
  have HW := Aside0.mk hw
  have HB2 := Aside0.mk (HB0.out.trans (hm.1.mono HB0.out.size))
  have HGW : Aside0 (w.heap.size ≤ g) := ⟨Nat.le_trans HB0.out.size hg⟩
  have HG2 : Aside0 (g < w2.heap.size) := ⟨lt_of_blk_ hw.blk⟩
  clear hm hw hg
  gi_wp2
  refine hK.out _ _ ?_
  clear hK K
  (refine wpB_seq_k (fun K hK => ?_); gi_wp2; refine hK.out _ _ ?_; clear hK K)
  (refine wpB_seq_k (fun K hK => ?_); gi_wp2; refine hK.out _ _ ?_; clear hK K)
  obtain ⟨W4, hW4⟩ : ∃ W, W = w2.alloc (.cells #[.slice none 0 0] 43 (0, 0)) := ⟨_, rfl⟩
  rw [← hW4]
  have HS4 : Aside0 (W4.heap.size = w2.heap.size + 1) := ⟨by rw [hW4]; simp⟩
  have HB4 : Aside0 (Below w2.heap.size w2 W4) := ⟨by rw [hW4]; exact below_alloc (Below.refl _ _) _⟩
  have HN4 : Aside0 (W4.heap[w2.heap.size]? = some (.cells #[.slice none 0 0] 43 (0, 0))) := ⟨by rw [hW4]; exact blk_new _ _⟩
  clear hW4
  refine wpB_seqB ?_
  refine wpB_seq_k (fun K hK => ?_)
  gi_wp2
  refine ⟨trivial, rfl, (keys_call g W4).mono ?_⟩
  rintro e w5 ⟨rfl, hw5⟩
  have HS5 : Aside0 (w5.heap.size = W4.heap.size + 1) := ⟨by rw [hw5]; simp⟩
  have hb5 : Below W4.heap.size W4 w5 := by rw [hw5]; exact below_alloc (Below.refl _ _) _
  have hc1 : w5.heap[W4.heap.size]? = some (.cells #[.pointer (some ⟨g, 0, none⟩)] 89 (0, 0)) := by rw [hw5]; exact blk_new W4 _
  have HD0 : Aside0 (TaskD w0 g l0_0 A0_0 c0_0 l1 A1 c1 S As cs gb gv W4.heap.size w5) := ⟨⟨by have := HG2.out; have := HS4.out; omega, hc1, _, _, (HW.out.keep HB4.out).keep hb5, ⟨fun _ => .inl rfl, fun _ _ => .inl rfl⟩⟩⟩
  have HJ0 : Aside0 (RowT 43 46 3 w2.heap.size w2.heap.size W4.heap.size 0 [] w5) :=
   ⟨⟨⟨_, blk_below HN4.out hb5, World.ownsRow_nil _ _ _ _, by simp [Value.ownBlock]⟩, by have := HS5.out; omega, by have := HS4.out; omega⟩⟩
  have HZ5 : Aside0 (w2.heap.size < w5.heap.size ∧ g < w5.heap.size ∧ W4.heap.size < w5.heap.size) := ⟨by have := HS4.out; have := HS5.out; have := HG2.out; omega⟩
  clear hw5 hb5 hc1
  gi_wp2
  refine hK.out _ _ ?_
  clear hK K
  refine wpB_block ?_
  refine wpB_rangeFuncT (gf := 74) (lb := #[.pointer (some ⟨W4.heap.size, 0, none⟩)]) rfl (enters_of Tryz.func74 (by kernel_rfl) rfl) ⟨_, Tryz.func19⟩ (keys_iter (w0 := w0) (g := g) (p := l0_0) (A := A0_0) (c := c0_0) (l := l1) (Al := A1) (cl := c1) (S := S) (As := As) (cs := cs) (gb := gb) (gv := gv) (b1 := W4.heap.size) HROOT.out) ?hsz
   (fun s X => TaskD w0 g l0_0 A0_0 c0_0 l1 A1 c1 S As cs gb gv W4.heap.size X ∧ RowT 43 46 3 w2.heap.size w2.heap.size W4.heap.size s.length (s.flatMap keyC) X ∧ w2.heap.size ≤ X.heap.size) (fun _ => False) ?h0 ?hD ?hDs ?hE (rowEx w2.heap.size 43) (rowEx_calmE HZ5.out.1 (fun e => by have e2 : w2.heap.size = g := e; have := HG2.out; omega)) (fun s X h => h.2.1.exl) ?hst ?hstr ?hround ?hdone ?hleft
  case hsz => rintro v args rfl; rfl
  case h0 => exact ⟨HD0.out, HJ0.out, by have := HZ5.out; omega⟩
  case hD => exact fun s X h => h.1
  case hDs => exact fun X X' h hs => h.stay hs (Nat.le_of_lt HZ5.out.2.1)
  case hE => exact fun k hk => by have e2 : k = g := hk; have := HZ5.out; omega
  case hst => exact fun s X X' h hs hd => ⟨hd, h.2.1.stayE hs (fun k hk => by have e2 : k = g := hk; have := HG2.out; omega), Nat.le_trans h.2.2 hs.size⟩
  case hstr => exact fun _ _ h _ => h
  case hleft => exact fun _ _ _ h _ _ => h.elim
  case hround =>
   rintro ly s u t args X hSS hl1 hl2 ⟨hD, hJ, hs2⟩ rfl
   have HDX := Aside0.mk hD
   have HJ := Aside0.mk hJ
   have HL1 := Aside0.mk hl1
   have HL2 := Aside0.mk hl2
   have HS2 := Aside0.mk hs2
   have HSL : Aside0 (s.length + 1 ≤ 64) := ⟨by have h1 := HLE.out; rw [← HLL.out, hSS] at h1; simp at h1; omega⟩
   clear hSS hl1 hl2 hJ hD hs2
   gi_wp2
   refine ⟨below_alloc (Below.refl _ _) _, ?_⟩
   intro X4 hku hbl
   have hst4 : Stay ly X X4 := (Stay.alloc (.cells #[.int .i64 u.f0, .bool u.f1, .int .i64 u.f2] 46 (0, 0)) (Nat.le_of_lt HL2.out)).trans hbl
   have hkb := hbl.cells _ _ rfl (blk_new X (.cells #[.int .i64 u.f0, .bool u.f1, .int .i64 u.f2] 46 (0, 0)))
   have HD4 := Aside0.mk (HDX.out.stay hst4 (by have := HL1.out; have := HZ5.out; omega))
   have hJ4 := HJ.out.stayE (E := OwnG g) (.of_stay hst4) (fun k hk => by have e2 : k = g := hk; have := HG2.out; omega)
   obtain ⟨v, r1, r2, -⟩ := hJ4.row
   have HJ4 := Aside0.mk hJ4
   have HR1 := Aside0.mk r1
   have HR2 := Aside0.mk r2
   have HS4 := Aside0.mk (Nat.le_trans HS2.out hst4.below.size)
   have cn : X4.cell? ⟨w2.heap.size, 0, none⟩ = some v := (blk_cell r1 0).trans rfl
   generalize X.heap.size = gk at hkb ⊢
   have k0 : X4.cell? ⟨gk, 0, none⟩ = some (.int .i64 u.f0) := (blk_cell hkb 0).trans rfl
   have k1 : X4.cell? ⟨gk, 1, none⟩ = some (.bool u.f1) := (blk_cell hkb 1).trans rfl
   have k2 : X4.cell? ⟨gk, 2, none⟩ = some (.int .i64 u.f2) := (blk_cell hkb 2).trans rfl
   clear r1 r2 hJ4 hku hbl HJ HDX hst4 hkb
   gi_wp2_with (gi_at_builtin; refine wpListIn_append_fresh _ rfl _ _ 43 rfl w2.heap.size 46 i0 _ 3 24 Tryz.underlying43 hi hz0 hz1 hz2 rfl (by decide) _ _ _ rfl (ownsRow_stay HR2.out (Stay.alloc (n := 0) _ (Nat.zero_le _))) ⟨X4.heap.size, 0, none⟩ 1 1 (keyC u) rfl rfl (key_cells X4 u) (key_one u) (by have := HSL.out; unfold maxLen; omega) (by have := HSL.out; omega) (by simp; have := HS4.out; omega) ?_; intro v' w1 hown' hgrow hfr; obtain ⟨g', cap', rfl⟩ := ownsRow_succ hown'; obtain ⟨hj, hk, hb, h1⟩ := HJ4.out.step HR1.out (by decide) hown' hgrow hfr; have HJ5 := Aside0.mk hj; have HK5 := Aside0.mk (hk w5.heap.size HZ5.out.1); have HD5 := Aside0.mk (HD4.out.moved hb HG2.out h1); have HS5 := Aside0.mk (Nat.le_trans HS4.out hb.size); have hv1 : Boxed w1 w2.heap.size 43 v := (Boxed.appended (W := X4) (B := w2.heap.size) (n₀ := w2.heap.size) HR1.out (by decide) HR2.out HS4.out (Nat.le_refl _) hown' hgrow).1; have hc1 := hv1.cell; have hf1 := hv1.frozen; clear hown' hgrow hfr hj hk hv1 hb h1)
   exact ⟨HK5.out, HD5.out, by show RowT _ _ _ _ _ _ (s ++ [u]).length ((s ++ [u]).flatMap keyC) _; rw [List.length_append, List.flatMap_append, List.flatMap_cons, List.flatMap_nil, List.append_nil]; exact HJ5.out, HS5.out⟩
  case hdone =>
   intro d Wd hd hJd hmark hxd
   obtain ⟨⟨-, -, oD, rD, htD, -⟩, hrow, hsd⟩ := hJd
   have HTD := Aside0.mk htD
   have HMK := Aside0.mk hmark
   obtain ⟨v, r1, r2, -⟩ := hrow.row
   have HR2 := Aside0.mk r2
   have cn : Wd.cell? ⟨w2.heap.size, 0, none⟩ = some v := (blk_cell r1 0).trans rfl
   have HXD := Aside0.mk hxd
   have HSD := Aside0.mk hsd
   clear hmark hxd r1 r2 htD hrow hsd
   show wpB _ _ _ _ _ _
   refine wpB_in ?_
   gi_wp2
   refine leaves_marksX (B := w5.heap.size) (rowEx_calmE (E := fun _ => False) (t := 43) HZ5.out.1 (fun h => h)).calm .returning (by simp) [d] Wd (MarksX.cons (MarksX.nil _ _) hd (by simp) HMK.out HXD.out) (fun W' hW' => ?_)
   have hR := rowT_lower (ownsRow_stay HR2.out hW') HB2.out.size
   rw [HLL.out] at hR
   exact ⟨_, results_tmp rfl _ _ _, v, rfl, hR, HB2.out.trans (((HW.out.between HTD.out HSD.out).mono HGW.out).trans (hW'.below.mono (by have := HZ5.out; have := HGW.out; omega)))⟩
def task_May.f (l0_0 : List S39) (l1 : List S50) : Option (List S46) := if okArgs l0_0 l1 then some (mayL l0_0 l1) else none
theorem task_May.calls (A0_0 : Option Addr) (c0_0 : Nat) (l0_0 : List S39) (A1 : Option Addr) (c1 : Nat) (l1 : List S50) (r : List S46) (w : World) (hr0_0 : Kd.C k39 w A0_0 l0_0.length l0_0) (hc0_0 : l0_0.length ≤ c0_0) (hr1 : Kd.C k50 w A1 l1.length l1) (hc1 : l1.length ≤ c1) (h : task_May.f l0_0 l1 = some r) :
  Calls Tryz.prog 19 #[.agg #[.slice A0_0 l0_0.length c0_0], .slice A1 l1.length c1] w fun e w' => ∃ v0_ : Value, e = .returned v0_ ∧ Kd.R k46 46 w' w.heap.size (fun _ => True) v0_ r ∧ Below w.heap.size w w' := by
 unfold task_May.f at h
 by_cases hok : okArgs l0_0 l1 = true
 ·rw [if_pos hok] at h
  obtain rfl := Option.some.inj h
  refine (may_walk A0_0 c0_0 l0_0 A1 c1 l1 w hr0_0 hc0_0 hr1 hc1 hok).mono ?_
  rintro e w' ⟨v, he, h1, h2⟩
  exact ⟨v, he, keys_R h1, h2⟩
 ·rw [if_neg hok] at h
  cases h
end Go.Proofs.YtloijngccppfgaaGreat.F
end

section
namespace Go.Proofs.YtloijngccppfgaaGreat.F
open Go.RowKit Go.Proofs.YtloijngccppfgaaGreatW.PrintWords Go.Proofs.YtloijngccppfgaaGreatW.PrintLast Go.Proofs.YtloijngccppfgaaGreatW.PrintMore
attribute [local go_sem] max2_int min2_int max_two min_two max_three min_three max_four min_four
set_option linter.unusedVariables false
set_option linter.unusedSimpArgs false
open Go.Proofs.YtloijngccppfgaaGreat.Pure
attribute [local go_sem] Oper.semAt_some
def keyEq (a b : S46) : Bool := a.f0 == b.f0 && (a.f1 == b.f1 && a.f2 == b.f2)
def isB (p : List S39) (l : List S50) (k : S46) : Bool := (mayL p l).any fun x => keyEq x k
theorem keyEq_true {a b : S46} (h : keyEq a b = true) : a = b := by
 obtain ⟨a0, a1, a2⟩ := a
 obtain ⟨b0, b1, b2⟩ := b
 unfold keyEq at h
 simp only [Bool.and_eq_true, beq_iff_eq] at h
 obtain ⟨rfl, rfl, rfl⟩ := h
 rfl
theorem results_c {P : Program} {fn : Func} {p : Tmp} {ty : TypeId} (h : fn.results = #[.cell p ty]) (tmps : Array Value) (w : World) (g : Nat) (v : Value) (hp : tmps.getD p undef = .pointer (some ⟨g, 0, none⟩)) (ha : (isAgg ty).run P w = .ok false w) (hc : w.cell? ⟨g, 0, none⟩ = some v) : (results fn tmps).run P w = .ok v w := by
 have hp' : tmps[p]?.getD undef = .pointer (some ⟨g, 0, none⟩) := by simpa using hp
 simp [results, h, hp', asAddr, loadVar, ha, go_sem, hc]
abbrev keyO (k : S46) : Obj := .cells #[.int .i64 k.f0, .bool k.f1, .int .i64 k.f2] 46 (0, 0)
set_option maxHeartbeats 8000000 in
set_option maxRecDepth 100000 in
theorem is_walk (A0_0 : Option Addr) (c0_0 : Nat) (l0_0 : List S39) (A1 : Option Addr) (c1 : Nat) (l1 : List S50) (k : S46) (w : World) (hr0_0 : Kd.C k39 w A0_0 l0_0.length l0_0) (hc0_0 : l0_0.length ≤ c0_0) (hr1 : Kd.C k50 w A1 l1.length l1) (hc1 : l1.length ≤ c1) (hok : okArgs l0_0 l1 = true) :
  Calls Tryz.prog 22 #[.agg #[.slice A0_0 l0_0.length c0_0], .slice A1 l1.length c1, .agg #[.int .i64 k.f0, .bool k.f1, .int .i64 k.f2]] w fun e w' => e = .returned (.bool (isB l0_0 l1 k)) ∧ Below w.heap.size w w' := by
 obtain ⟨W1, hW1⟩ : ∃ W, W = ((w.alloc (.cells #[.slice A0_0 l0_0.length c0_0] 24 (0, 0))).alloc (keyO k)).alloc (.cells #[.bool false] 4 (0, 0)) := ⟨_, rfl⟩
 have HB0 : Aside0 (Below w.heap.size w W1) := ⟨by rw [hW1]; exact below_alloc (below_alloc (below_alloc (Below.refl _ _) _) _) _⟩
 have HS1 : Aside0 (W1.heap.size = w.heap.size + 3) := ⟨by rw [hW1]; simp⟩
 have HG0 : Aside0 (W1.heap[w.heap.size]? = some (.cells #[.slice A0_0 l0_0.length c0_0] 24 (0, 0))) := ⟨by rw [hW1]; exact blk_alloc (blk_alloc (blk_new w _) _) _⟩
 have HK0 : Aside0 (W1.heap[w.heap.size + 1]? = some (keyO k)) := ⟨by rw [hW1]; have h := blk_alloc (blk_new (w.alloc (.cells #[.slice A0_0 l0_0.length c0_0] 24 (0, 0))) (keyO k)) (.cells #[.bool false] 4 (0, 0)); rwa [World.size_alloc] at h⟩
 have HR0 : Aside0 (W1.heap[w.heap.size + 2]? = some (.cells #[.bool false] 4 (0, 0))) := ⟨by rw [hW1]; have h := blk_new ((w.alloc (.cells #[.slice A0_0 l0_0.length c0_0] 24 (0, 0))).alloc (keyO k)) (.cells #[.bool false] 4 (0, 0)); rwa [World.size_alloc, World.size_alloc] at h⟩
 have HS := Aside0.mk (task_seen_walk l0_0 A0_0 c0_0 l1 A1 c1 W1 (Kd.C_below hr0_0 HB0.out) hc0_0 (Kd.C_below hr1 HB0.out) hc1 hok)
 unfold isB mayL
 clear hr0_0 hc0_0 hr1 hc1 hok
 have q0 : W1.cell? ⟨w.heap.size, 0, none⟩ = some (.slice A0_0 l0_0.length c0_0) := (blk_cell HG0.out 0).trans rfl
 cases hv : factsB l0_0 l1 with
 | false =>
  have HV := Aside0.mk hv
  rw [hv] at HS
  clear hv
  simp only [Bool.false_eq_true, if_false]
  go_enter Tryz.func22, Tryz.ntmps22
  go_upto_region 1 with (fail)
  rw [← hW1]
  clear hW1
  go_wp2_with (go_at_call 47; refine HS.out.mono ?_; rintro e w2 ⟨r, rfl, hm⟩; obtain rfl := hm.none_ HV.out; dsimp only [ptrV]; have HB2 := Aside0.mk (HB0.out.trans (hm.1.mono HB0.out.size)); have HR2 := Aside0.mk ((hm.1.block _ (by have := HS1.out; omega)).trans HR0.out); clear hm q0; have f2 : w2.frozen? ⟨w.heap.size + 2, 0, none⟩ = false := blk_frozen HR2.out 0; have q2 : w2.cell? ⟨w.heap.size + 2, 0, none⟩ = some (.bool false) := (blk_cell HR2.out 0).trans rfl)
  refine bodyPost_ret (results_c rfl _ _ (w.heap.size + 2) (.bool false) rfl (Tryz.isAgg4 _) ((blk_cell (blk_put HR2.out 0 (.bool false) rfl) 0).trans rfl)) rfl ?_
  exact ⟨rfl, HB2.out.trans ((Below.refl w.heap.size w2).setCell (by show w.heap.size ≤ w.heap.size + 2; omega) _)⟩
 | true =>
  have HV := Aside0.mk hv
  rw [hv] at HS
  have HROOT : Aside0 ((rd_T39 l0_0 0).f2 = true) := ⟨root_sub hv⟩
  obtain ⟨S, hS⟩ : ∃ S, allB l0_0 l1 (madeS l0_0 l1) = S := ⟨_, rfl⟩
  have HSS := Aside0.mk hS
  simp only [if_true]
  rw [hS]
  obtain ⟨L, hL⟩ : ∃ L, keysL l0_0 l1 S = L := ⟨_, rfl⟩
  have HLL := Aside0.mk hL
  rw [hL]
  obtain ⟨tR, htR⟩ : ∃ q, (L.any fun x => keyEq x k) = q := ⟨_, rfl⟩
  have HTR := Aside0.mk htR
  rw [htR]
  clear hS hv hL htR
  refine (callsIn_wide (n := 0)).1 ?_
  refine callsIn_of_wpB Tryz.func22 rfl ?_
  simp only [Tryz.ntmps22, List.size_toArray, List.length_cons, List.length_nil, Nat.reduceAdd, Nat.reduceSub, Array.replicate_succ, Array.replicate_zero, List.push_toArray, List.append_toArray, List.nil_append, List.cons_append]
  (refine wpB_seq_k (fun K hK => ?_); gi_wp2; refine hK.out _ _ ?_; clear hK K)
  rw [← hW1]
  clear hW1
  refine wpB_seq_k (fun K hK => ?_)
  gi_wp2
  refine ⟨trivial, rfl, (callsIn_wide.2 HS.out).mono ?_⟩
  rintro e w2 ⟨r, rfl, hm⟩
  obtain ⟨g, w0, As, cs, gb, gv, rfl, hg, hw⟩ := hm.some_ HV.out
  rw [HSS.out] at hw
  dsimp only [ptrV]
  have HW := Aside0.mk hw
  have HB2 := Aside0.mk (HB0.out.trans (hm.1.mono HB0.out.size))
  have HGW : Aside0 (w.heap.size + 3 ≤ g) := ⟨by have := HS1.out; omega⟩
  have HG2 : Aside0 (g < w2.heap.size) := ⟨lt_of_blk_ hw.blk⟩
  have HK2 := Aside0.mk ((hm.1.block _ (by have := HS1.out; omega)).trans HK0.out)
  have HR2 := Aside0.mk ((hm.1.block _ (by have := HS1.out; omega)).trans HR0.out)
  clear hm hw hg q0
  gi_wp2
  refine hK.out _ _ ?_
  clear hK K
  (refine wpB_seq_k (fun K hK => ?_); gi_wp2; refine hK.out _ _ ?_; clear hK K)
  refine wpB_seqB ?_
  refine wpB_seq_k (fun K hK => ?_)
  gi_wp2
  refine ⟨trivial, rfl, (keys_call g w2).mono ?_⟩
  rintro e w5 ⟨rfl, hw5⟩
  have HS5 : Aside0 (w5.heap.size = w2.heap.size + 1) := ⟨by rw [hw5]; simp⟩
  have hb5 : Below w2.heap.size w2 w5 := by rw [hw5]; exact below_alloc (Below.refl _ _) _
  have hc1 : w5.heap[w2.heap.size]? = some (.cells #[.pointer (some ⟨g, 0, none⟩)] 89 (0, 0)) := by rw [hw5]; exact blk_new w2 _
  have HD0 : Aside0 (TaskD w0 g l0_0 A0_0 c0_0 l1 A1 c1 S As cs gb gv w2.heap.size w5) := ⟨⟨HG2.out, hc1, _, _, HW.out.keep hb5, ⟨fun _ => .inl rfl, fun _ _ => .inl rfl⟩⟩⟩
  have HK5 := Aside0.mk (blk_below HK2.out hb5)
  have HR5 := Aside0.mk (blk_below HR2.out hb5)
  have HZ5 : Aside0 (w2.heap.size < w5.heap.size ∧ g < w5.heap.size ∧ w.heap.size + 3 < w5.heap.size) := ⟨by have := HS5.out; have := HG2.out; have := HGW.out; omega⟩
  clear hw5 hb5 hc1
  gi_wp2
  refine hK.out _ _ ?_
  clear hK K
  refine wpB_block ?_
  refine wpB_rangeFuncT (gf := 74) (lb := #[.pointer (some ⟨w2.heap.size, 0, none⟩)]) rfl (enters_of Tryz.func74 (by kernel_rfl) rfl) ⟨_, Tryz.func22⟩ (keys_iter (w0 := w0) (g := g) (p := l0_0) (A := A0_0) (c := c0_0) (l := l1) (Al := A1) (cl := c1) (S := S) (As := As) (cs := cs) (gb := gb) (gv := gv) (b1 := w2.heap.size) HROOT.out) ?hsz
   (fun s X => TaskD w0 g l0_0 A0_0 c0_0 l1 A1 c1 S As cs gb gv w2.heap.size X ∧ X.heap[w.heap.size + 1]? = some (keyO k) ∧ X.heap[w.heap.size + 2]? = some (.cells #[.bool false] 4 (0, 0)) ∧ (s.any fun x => keyEq x k) = false ∧ w2.heap.size ≤ X.heap.size)
   (fun X => Below w.heap.size w2 X ∧ X.heap[w.heap.size + 2]? = some (.cells #[.bool true] 4 (0, 0)) ∧ tR = true ∧ w2.heap.size ≤ X.heap.size) ?h0 ?hD ?hDs ?hE (fun _ _ => False) (fun _ _ _ _ h => h) (fun _ _ _ _ h => h.elim) ?hst ?hstr ?hround ?hdone ?hleft
  case hsz => rintro v args rfl; rfl
  case h0 => exact ⟨HD0.out, HK5.out, HR5.out, rfl, by have := HZ5.out; omega⟩
  case hD => exact fun s X h => h.1
  case hDs => exact fun X X' h hs => h.stay hs (Nat.le_of_lt HZ5.out.2.1)
  case hE => exact fun k hk => by have e2 : k = g := hk; have := HZ5.out; omega
  case hst => exact fun s X X' h hs hd => ⟨hd, hs.cells _ _ (fun hk => by have e2 : w.heap.size + 1 = g := hk; have := HGW.out; omega) rfl h.2.1, hs.cells _ _ (fun hk => by have e2 : w.heap.size + 2 = g := hk; have := HGW.out; omega) rfl h.2.2.1, h.2.2.2.1, Nat.le_trans h.2.2.2.2 hs.size⟩
  case hstr => exact fun X X' h hs => ⟨h.1.trans ⟨hs.os, hs.tape, hs.output, hs.size, fun i hi => hs.block i (by have := HZ5.out; omega) (fun hk => by have e2 : i = g := hk; have := HGW.out; omega)⟩, hs.cells _ _ (fun hk => by have e2 : w.heap.size + 2 = g := hk; have := HGW.out; omega) rfl h.2.1, h.2.2.1, Nat.le_trans h.2.2.2 hs.size⟩
  case hleft =>
   rintro d Wd hd ⟨hb, hr, ht, hs⟩ hmark hxd
   subst ht
   refine leaves_marksX (B := w5.heap.size) (Ex := fun _ _ => False) (fun _ _ _ _ h => h) .returning (by simp) [d] Wd (MarksX.cons (MarksX.nil _ _) hd (by simp) hmark (fun h => h)) (fun W' hW' => ?_)
   exact ⟨_, results_c rfl _ _ (w.heap.size + 2) (.bool true) rfl (Tryz.isAgg4 _) ((blk_cell (hW'.cells _ _ rfl hr) 0).trans rfl), rfl, HB2.out.trans (hb.trans (hW'.below.mono (by have := HZ5.out; omega)))⟩
  case hround =>
   rintro ly s u t args X hSS hl1 hl2 ⟨hD, hkk, hrr, hany, hs2⟩ rfl
   have HDX := Aside0.mk hD
   have HL1 := Aside0.mk hl1
   have HL2 := Aside0.mk hl2
   have HKX := Aside0.mk hkk
   have HRX := Aside0.mk hrr
   have HS2 := Aside0.mk hs2
   have HAN := Aside0.mk hany
   have HSL : Aside0 (keyEq u k = true → tR = true) := ⟨fun e => by rw [← HTR.out, ← HLL.out, hSS, List.any_append, List.any_cons, e]; simp⟩
   clear hSS hl1 hl2 hkk hrr hD hs2 hany
   gi_wp2
   refine ⟨below_alloc (Below.refl _ _) _, ?_⟩
   intro X4 hku hbl
   have hst4 : Stay ly X X4 := (Stay.alloc (keyO u) (Nat.le_of_lt HL2.out)).trans hbl
   have hkb := hbl.cells _ _ rfl (blk_new X (keyO u))
   have HD4 := Aside0.mk (HDX.out.stay hst4 (by have := HL1.out; have := HZ5.out; omega))
   have HK4 := Aside0.mk (hst4.cells _ _ rfl HKX.out)
   have HR4 := Aside0.mk (hst4.cells _ _ rfl HRX.out)
   have HS4 := Aside0.mk (Nat.le_trans HS2.out hst4.below.size)
   generalize X.heap.size = gk at hkb ⊢
   have k0 : X4.cell? ⟨gk, 0, none⟩ = some (.int .i64 u.f0) := (blk_cell hkb 0).trans rfl
   have k1 : X4.cell? ⟨gk, 1, none⟩ = some (.bool u.f1) := (blk_cell hkb 1).trans rfl
   have k2 : X4.cell? ⟨gk, 2, none⟩ = some (.int .i64 u.f2) := (blk_cell hkb 2).trans rfl
   have m0 : X4.cell? ⟨w.heap.size + 1, 0, none⟩ = some (.int .i64 k.f0) := (blk_cell HK4.out 0).trans rfl
   have m1 : X4.cell? ⟨w.heap.size + 1, 1, none⟩ = some (.bool k.f1) := (blk_cell HK4.out 1).trans rfl
   have m2 : X4.cell? ⟨w.heap.size + 1, 2, none⟩ = some (.int .i64 k.f2) := (blk_cell HK4.out 2).trans rfl
   have f2 : X4.frozen? ⟨w.heap.size + 2, 0, none⟩ = false := blk_frozen HR4.out 0
   have q2 : X4.cell? ⟨w.heap.size + 2, 0, none⟩ = some (.bool false) := (blk_cell HR4.out 0).trans rfl
   clear hku hbl HDX hst4 hkb HKX HRX
   cases hq : keyEq u k with
   | true =>
    have HQ := Aside0.mk (HSL.out hq)
    have e := keyEq_true hq
    subst e
    clear hq
    gi_wp2
    obtain ⟨-, -, oD, rD, htD, -⟩ := HD4.out
    exact ⟨⟨by simp [World.setCell], fun i hB hlt hx => ⟨Below.heap_setCell _ _ _ _ (by show i ≠ w.heap.size + 2; have := HZ5.out; omega), hx⟩⟩, ((HW.out.between htD HS4.out).mono (by have := HGW.out; omega)).setCell (by show w.heap.size ≤ w.heap.size + 2; omega) _, blk_put HR4.out 0 (.bool true) rfl, HQ.out, by simp [World.setCell]; exact HS4.out⟩
   | false =>
    have HQ := Aside0.mk hq
    clear hq
    gi_wp2
    all_goals first
     | exact ⟨⟨Nat.le_refl _, fun _ _ _ h => ⟨rfl, h⟩⟩, HD4.out, HK4.out, HR4.out, by rw [List.any_append, HAN.out, List.any_cons, HQ.out]; rfl, HS4.out⟩
     | (exfalso; have h := HQ.out; unfold keyEq at h; simp_all)
  case hdone =>
   rintro d Wd hd ⟨⟨-, -, oD, rD, htD, -⟩, hkk, hrr, hany, hsd⟩ hmark hxd
   have HTD := Aside0.mk htD
   have HMK := Aside0.mk hmark
   have HSD := Aside0.mk hsd
   have HRR := Aside0.mk hrr
   obtain rfl : tR = false := by rw [← HTR.out, ← HLL.out]; exact hany
   have f2 : Wd.frozen? ⟨w.heap.size + 2, 0, none⟩ = false := blk_frozen hrr 0
   have q2 : Wd.cell? ⟨w.heap.size + 2, 0, none⟩ = some (.bool false) := (blk_cell hrr 0).trans rfl
   clear hmark hxd htD hkk hrr hany hsd
   show wpB _ _ _ _ _ _
   refine wpB_in ?_
   gi_wp2
   refine leaves_marksX (B := w5.heap.size) (Ex := fun _ _ => False) (fun _ _ _ _ h => h) .returning (by simp) [d] _ (MarksX.cons (MarksX.nil _ _) hd (by simp) ((Below.heap_setCell _ _ _ _ (by show d ≠ w.heap.size + 2; have := HZ5.out; omega)).trans HMK.out) (fun h => h)) (fun W' hW' => ?_)
   exact ⟨_, results_c rfl _ _ (w.heap.size + 2) (.bool false) rfl (Tryz.isAgg4 _) ((blk_cell (hW'.cells _ _ rfl (blk_put HRR.out 0 (.bool false) rfl)) 0).trans rfl), rfl, HB2.out.trans ((((HW.out.between HTD.out HSD.out).mono (by have := HGW.out; omega)).setCell (by show w.heap.size ≤ w.heap.size + 2; omega) _).trans (hW'.below.mono (by have := HZ5.out; omega)))⟩
end Go.Proofs.YtloijngccppfgaaGreat.F
end

section
namespace Go.Proofs.YtloijngccppfgaaGreat.F
open Go.RowKit Go.Proofs.YtloijngccppfgaaGreatW.PrintWords Go.Proofs.YtloijngccppfgaaGreatW.PrintLast Go.Proofs.YtloijngccppfgaaGreatW.PrintMore
attribute [local go_sem] max2_int min2_int max_two min_two max_three min_three max_four min_four
set_option linter.unusedVariables false
set_option linter.unusedSimpArgs false
open Go.Proofs.YtloijngccppfgaaGreat.Pure
theorem one_row {X : World} {gs : Nat} (hx : X.heap[gs]? = some (.cells #[.int .i64 1] 3 (0, 0))) : Kd.C (Kd.int .i64) X (some ⟨gs, 0, none⟩) ([1] : List Int).length [1] := by
 refine ⟨rfl, by simp, fun _ => ⟨_, rfl, fun j q hj => ?_⟩⟩
 match j, hj with
 | 0, hj =>
  obtain rfl := Option.some.inj hj
  refine ⟨[.int .i64 1], rfl, rfl, fun i u hu => ?_⟩
  match i, hu with
  | 0, hu =>
   obtain rfl := Option.some.inj hu
   exact (blk_cell hx 0).trans rfl
theorem tries_walk (k : Int) (w : World) : Calls Tryz.prog 118 #[.int .i64 k] w fun e w' => e = .returned (.bool (decide (k > 3))) ∧ w' = w := by
 go_enter Tryz.func118, Tryz.ntmps118
 go_wp2
 go_ret
 exact ⟨rfl, rfl⟩
set_option maxHeartbeats 8000000 in
theorem event_key_walk (k it t : Int) (s : Value) (hs : s.oneCell' = true) (w : World) : Calls Tryz.prog 86 #[.agg #[.int .i64 k, .int .i64 it, .int .i64 t, s]] w fun e w' => e = .returned (.agg #[.int .i64 it, .bool (decide (k > 3)), .int .i64 t]) ∧ Below w.heap.size w w' := by
 go_enter Tryz.func86, Tryz.ntmps86
 go_upto_region 1 with (fail)
 refine at_letter_ (fun W => Aside0 (Below w.heap.size w W) ∧ Aside0 (W.heap[w.heap.size]? = some (.cells #[.int .i64 k, .int .i64 it, .int .i64 t, s] 145 (0, 0))) ∧ Aside0 (W.heap[w.heap.size + 1]? = some (.cells #[.int .i64 0, .bool false, .int .i64 0] 46 (0, 0)))) ⟨⟨below_alloc (below_alloc (Below.refl _ _) _) _⟩, ⟨blk_alloc (blk_new _ _) _⟩, ⟨by have h := blk_new (w.alloc (.cells #[.int .i64 k, .int .i64 it, .int .i64 t, s] 145 (0, 0))) (.cells #[.int .i64 0, .bool false, .int .i64 0] 46 (0, 0)); rwa [World.size_alloc] at h⟩⟩ (fun W ⟨HB, H1, H2⟩ => ?_)
 have HG : Aside0 (w.heap.size < w.heap.size + 1) := ⟨by omega⟩
 generalize w.heap.size + 1 = g2 at H2 HG ⊢
 obtain ⟨g1, hg1⟩ : ∃ g, w.heap.size = g := ⟨_, rfl⟩
 rw [hg1] at HB H1 HG ⊢
 have HGW := Aside0.mk hg1
 clear hg1
 have hn1 : ¬ g1 = g2 := by have := HG.out; omega
 have hn2 : ¬ g2 = g1 := by have := HG.out; omega
 have x0 : W.cell? ⟨g1, 0, none⟩ = some (.int .i64 k) := (blk_cell H1.out 0).trans rfl
 have x1 : W.cell? ⟨g1, 1, none⟩ = some (.int .i64 it) := (blk_cell H1.out 1).trans rfl
 have x2 : W.cell? ⟨g1, 2, none⟩ = some (.int .i64 t) := (blk_cell H1.out 2).trans rfl
 have y0 : W.cell? ⟨g2, 0, none⟩ = some (.int .i64 0) := (blk_cell H2.out 0).trans rfl
 have y1 : W.cell? ⟨g2, 1, none⟩ = some (.bool false) := (blk_cell H2.out 1).trans rfl
 have y2 : W.cell? ⟨g2, 2, none⟩ = some (.int .i64 0) := (blk_cell H2.out 2).trans rfl
 have f0 := blk_frozen H2.out 0
 have f1 := blk_frozen H2.out 1
 have f2 := blk_frozen H2.out 2
 go_region_held3 (fun w' => w'.cell? ⟨g1, 0, none⟩ = some (.int .i64 k) ∧ w'.cell? ⟨g1, 1, none⟩ = some (.int .i64 it) ∧ w'.cell? ⟨g1, 2, none⟩ = some (.int .i64 t)) (first | assumption | go_keep) (first | (go_at_call 118; refine (tries_walk k _).mono ?_; rintro e w3 ⟨rfl, rfl⟩))
 all_goals
  go_wp2
  refine bodyPost_ret (results_single rfl (.cell g2 46 #[.int .i64 it, .bool (decide (3 < k)), .int .i64 t] (0, 0) _ rfl (blk_drew (blk_put (blk_put (blk_put H2.out 0 _ rfl) 1 _ rfl) 2 _ rfl)) Tryz.underlying46 rfl (by kernel_rfl) .nil)) rfl ?_
  have hg : g1 ≤ g2 := Nat.le_of_lt HG.out
  exact ⟨rfl, by rw [HGW.out]; exact (((HB.out.setCell hg _).setCell hg _).setCell hg _).drew⟩
def tT0 : Array Bool := #[false, false, false, false, false, false, false, false, false, false, false, false, false, false, false]
def tT1 : Array Bool := #[true, true, false, false, false, false, false, false, false, false, false, false, false, false, false]
def tT2 : Array Bool := #[true, true, true, false, false, false, false, false, false, false, false, false, false, false, false]
def tT3 : Array Bool := #[true, true, true, true, true, true, true, true, true, true, true, true, true, true, true]
def tT4 : Array Bool := #[true, true, true, true, true, true, false, false, false, false, false, false, false, false, false]
def tT5 : Array Bool := #[true, true, true, true, true, true, true, false, false, false, false, false, false, false, false]
def tT6 : Array Bool := #[true, true, true, true, true, true, true, true, true, true, false, true, false, false, false]
def tT7 : Array Bool := #[true, true, true, true, true, true, true, true, true, true, true, true, false, false, false]
def kdOf (kind : Int) (u : Bool) : Int := if u then wrap64 (kind + 3) else kind
def turnL (p : List S39) (l : List S50) (k : S46) (kind : Int) : List S50 × Int := if factsB p l && !eventB (kdOf kind k.f1) k.f0 k.f2 [1] then ([], 14) else applyL p l (kdOf kind k.f1) k.f0 k.f2 [1]
theorem kd_tries {kind : Int} (h : kind = 1 ∨ kind = 2 ∨ kind = 3) (u : Bool) : decide (kdOf kind u > 3) = u := by
 rcases h with rfl | rfl | rfl <;> cases u <;> simp [kdOf, wrap64]
set_option maxHeartbeats 16000000 in
set_option maxRecDepth 100000 in
theorem happens_walk (p : List S39) (A0 : Option Addr) (c0 : Nat) (l : List S50) (A1 : Option Addr) (c1 : Nat) (k : S46) (kind : Int) (w : World) (hp : Kd.C k39 w A0 p.length p) (hcp : p.length ≤ c0) (hl : Kd.C k50 w A1 l.length l) (hcl : l.length ≤ c1) (hsm : smallP p = true) (hl6 : l.length ≤ 1000000) (hkind : kind = 1 ∨ kind = 2 ∨ kind = 3) :
  Calls Tryz.prog 55 #[.agg #[.slice A0 p.length c0], .slice A1 l.length c1, .agg #[.int .i64 k.f0, .bool k.f1, .int .i64 k.f2], .int .i64 kind] w fun e w' => ∃ v, e = .returned (.tuple #[v, .int .i64 (turnL p l k kind).2]) ∧ Kd.R k50 50 w' w.heap.size (fun _ => True) v (turnL p l k kind).1 ∧ Below w.heap.size w w' := by
 have HT := Aside0.mk (kd_tries hkind k.f1)
 obtain ⟨r, hr⟩ : ∃ r, turnL p l k kind = r := ⟨_, rfl⟩
 rw [hr]
 unfold turnL at hr
 obtain ⟨kd, hkd⟩ : ∃ q, kdOf kind k.f1 = q := ⟨_, rfl⟩
 rw [hkd] at HT hr
 have HKD := Aside0.mk hkd
 clear hkd hkind
 obtain ⟨k0, k1, k2⟩ := k
 dsimp only at HT HKD hr ⊢
 have HR := Aside0.mk hr
 clear hr
 go_enter Tryz.func55, Tryz.ntmps55
 go_upto_if 12 with (fail)
 go_cut [3] (fun v3 wc => v3 = .int .i64 kd ∧ Aside0 (wc = (w.alloc (.cells #[.slice A0 p.length c0] 24 (0, 0))).alloc (.cells #[.int .i64 k0, .bool k1, .int .i64 k2] 46 (0, 0))))
 case first =>
  unfold kdOf at HKD
  cases k1
  all_goals
   go_wp2
   go_meet
   case rel => exact ⟨by rw [← HKD.out]; rfl, ⟨rfl⟩⟩
 case rest =>
  obtain ⟨rfl, HWC⟩ := hcut
  have HBC : Aside0 (Below w.heap.size w wc) := ⟨by rw [HWC.out]; exact below_alloc (below_alloc (Below.refl _ _) _) _⟩
  have HPB : Aside0 (wc.heap[w.heap.size]? = some (.cells #[.slice A0 p.length c0] 24 (0, 0))) := ⟨by rw [HWC.out]; exact blk_alloc (blk_new _ _) _⟩
  have HKB : Aside0 (wc.heap[w.heap.size + 1]? = some (keyO ⟨k0, k1, k2⟩)) := ⟨by rw [HWC.out]; have h := blk_new (w.alloc (.cells #[.slice A0 p.length c0] 24 (0, 0))) (keyO ⟨k0, k1, k2⟩); rwa [World.size_alloc] at h⟩
  clear HWC
  have p0 : wc.cell? ⟨w.heap.size + 1, 0, none⟩ = some (.int .i64 k0) := (blk_cell HKB.out 0).trans rfl
  have p2 : wc.cell? ⟨w.heap.size + 1, 2, none⟩ = some (.int .i64 k2) := (blk_cell HKB.out 2).trans rfl
  go_upto_region 4 with (fail)
  refine at_letter_ (fun W => Aside0 (Below w.heap.size w W) ∧ Aside0 (W.heap[w.heap.size]? = some (.cells #[.slice A0 p.length c0] 24 (0, 0))) ∧ Aside0 (W.heap[w.heap.size + 1]? = some (keyO ⟨k0, k1, k2⟩)) ∧ Aside0 (W.heap[wc.heap.size]? = some (.cells #[.int .i64 1] 3 (0, 0))) ∧ Aside0 (W.heap[wc.heap.size + 1]? = some (.cells #[.int .i64 kd, .int .i64 k0, .int .i64 k2, .slice (some ⟨wc.heap.size, 0, none⟩) 1 1] 145 (0, 0)))) ⟨⟨HBC.out.trans ((below_alloc (below_alloc (Below.refl _ _) _) _).mono HBC.out.size)⟩, ⟨blk_alloc (blk_alloc HPB.out _) _⟩, ⟨blk_alloc (blk_alloc HKB.out _) _⟩, ⟨blk_alloc (blk_new _ _) _⟩, ⟨by have h := blk_new (wc.alloc (.cells #[.int .i64 1] 3 (0, 0))) (.cells #[.int .i64 kd, .int .i64 k0, .int .i64 k2, .slice (some ⟨wc.heap.size, 0, none⟩) 1 1] 145 (0, 0)); rwa [World.size_alloc] at h⟩⟩ (fun W ⟨HB, HP1, HK1, HS1, HE1⟩ => ?_)
  clear p0 p2 HBC HPB HKB
  generalize wc.heap.size + 1 = ge at HE1 ⊢
  generalize wc.heap.size = gs at HS1 HE1 ⊢
  generalize w.heap.size + 1 = gk at HK1 ⊢
  obtain ⟨gp, hgp⟩ : ∃ g, w.heap.size = g := ⟨_, rfl⟩
  have HGP := Aside0.mk hgp
  rw [hgp] at HP1 ⊢
  clear hgp
  have HCK := Aside0.mk (fun (W : World) (hb : Below w.heap.size w W) => fact_Check.calls _ A0 c0 p A1 c1 l _ W (Kd.C_below hp hb) hcp (Kd.C_below hl hb) hcl (fact_check_at p l hsm hl6))
  have HIN := Aside0.mk (fun (X : World) (hx : X.heap[gs]? = some (.cells #[.int .i64 1] 3 (0, 0))) => one_row hx)
  have HEC : Aside0 (∀ X : World, X.heap[gs]? = some (.cells #[.int .i64 1] 3 (0, 0)) → Calls Tryz.prog 85 #[.agg #[.int .i64 kd, .int .i64 k0, .int .i64 k2, .slice (some ⟨gs, 0, none⟩) 1 1]] X fun e w' => e = .returned (.int .i64 (if eventB kd k0 k2 [1] then 0 else 2)) ∧ Below X.heap.size X w') := ⟨fun X hx => event_check_walk kd k0 k2 (some ⟨gs, 0, none⟩) 1 [1] X (one_row hx) (by simp)⟩
  have HAP : Aside0 (∀ X : World, Below w.heap.size w X → X.heap[gs]? = some (.cells #[.int .i64 1] 3 (0, 0)) → Calls Tryz.prog 87 #[.agg #[.slice A0 p.length c0], .slice A1 l.length c1, .agg #[.int .i64 kd, .int .i64 k0, .int .i64 k2, .slice (some ⟨gs, 0, none⟩) 1 1]] X fun e w' => ∃ v, e = .returned (.tuple #[v, .int .i64 (applyL p l kd k0 k2 [1]).2]) ∧ Kd.R k50 50 w' X.heap.size (fun _ => True) v (applyL p l kd k0 k2 [1]).1 ∧ Below X.heap.size X w') := ⟨fun X hb hx => Apply_walk p A0 c0 l A1 c1 kd k0 k2 [1] (some ⟨gs, 0, none⟩) 1 X (Kd.C_below hp hb) hcp (Kd.C_below hl hb) hcl (one_row hx) (by simp) hsm hl6⟩
  clear hp hcp hl hcl hsm hl6
  obtain ⟨v, hv⟩ : ∃ v, factsB p l = v := ⟨_, rfl⟩
  rw [hv] at HR HCK
  clear hv
  cases v with
  | false =>
   have HR2 : Aside0 (applyL p l kd k0 k2 [1] = r) := ⟨HR.out⟩
   refine start_ (n := 15) (S := fun w' => w'.cell? ⟨gp, 0, none⟩ = some (.slice A0 p.length c0) ∧ w'.cell? ⟨ge, 0, none⟩ = some (.int .i64 kd) ∧ w'.cell? ⟨ge, 1, none⟩ = some (.int .i64 k0) ∧ w'.cell? ⟨ge, 2, none⟩ = some (.int .i64 k2) ∧ w'.cell? ⟨ge, 3, none⟩ = some (.slice (some ⟨gs, 0, none⟩) 1 1) ∧ w'.cell? ⟨gk, 0, none⟩ = some (.int .i64 k0) ∧ w'.cell? ⟨gk, 1, none⟩ = some (.bool k1) ∧ w'.cell? ⟨gk, 2, none⟩ = some (.int .i64 k2)) (ds := []) tT0 (by kernel_rfl) rfl rfl ⟨((blk_cell (blk_drew HP1.out) 0).trans rfl), ((blk_cell (blk_drew HE1.out) 0).trans rfl), ((blk_cell (blk_drew HE1.out) 1).trans rfl), ((blk_cell (blk_drew HE1.out) 2).trans rfl), ((blk_cell (blk_drew HE1.out) 3).trans rfl), ((blk_cell (blk_drew HK1.out) 0).trans rfl), ((blk_cell (blk_drew HK1.out) 1).trans rfl), ((blk_cell (blk_drew HK1.out) 2).trans rfl)⟩ (fun hHeld => ?_)
   refine ws_ 13 tT1 [(1, false, some 23), (0, true, some 22)] (by kernel_rfl) rfl ?_
   repeat (first | (refine ws_pure (v := ?_) (a' := ?_) rfl rfl (fun _ _ _ h => h) (Or.inl ⟨by rfl, ?_⟩) ?_ ?_; rotate_left; (focus intro w'; go_simp; with_reducible rfl); rotate_left; (focus simp only [Act.put, List.setIfInBounds_toArray, List.set_cons_zero, List.set_cons_succ, i64_w, i32_w]; rfl)) | (refine ws_take (v := ?_) (a' := ?_) rfl rfl (fun _ _ _ h => h) (Or.inl ⟨by rfl, ?_⟩) hHeld ?_ ?_; rotate_left; (focus rintro w' ⟨s0, s1, s2, s3, s4, s5, s6, s7⟩; go_simp; with_reducible rfl); rotate_left; (focus simp only [Act.put, List.setIfInBounds_toArray, List.set_cons_zero, List.set_cons_succ, i64_w, i32_w]; rfl)))
   refine ws_nil ?_
   refine one_ (i := 2) (N := some 24) tT2 rfl rfl (by kernel_rfl) (by decide) (fun K hK => ?_)
   refine goes_ Tryz.func54 (by kernel_rfl) rfl #[.agg #[.slice A0 p.length c0], .slice A1 l.length c1] (by rfl) rfl rfl (by simp only [List.map_toArray, List.map_cons, List.map_nil]; rfl) ?_
   with_reducible refine (HCK.out _ HB.out.drew).mono ?_
   rintro e w2 ⟨rfl, hb⟩
   refine ⟨_, rfl, ?_⟩
   have HB2 := Aside0.mk (HB.out.drew.trans (hb.mono HB.out.drew.size))
   have HP2 := Aside0.mk (blk_below (blk_drew HP1.out) hb)
   have HE2 := Aside0.mk (blk_below (blk_drew HE1.out) hb)
   have HK2 := Aside0.mk (blk_below (blk_drew HK1.out) hb)
   have HS2 := Aside0.mk (blk_below (blk_drew HS1.out) hb)
   clear hb
   refine hK.out _ _ ⟨((blk_cell HP2.out 0).trans rfl), ((blk_cell HE2.out 0).trans rfl), ((blk_cell HE2.out 1).trans rfl), ((blk_cell HE2.out 2).trans rfl), ((blk_cell HE2.out 3).trans rfl), ((blk_cell HK2.out 0).trans rfl), ((blk_cell HK2.out 1).trans rfl), ((blk_cell HK2.out 2).trans rfl)⟩ (fun hHeld => ?_)
   clear hK K
   refine norm_ (a' := ?_) ?_ ?_
   rotate_left
   ·show Act.put _ (some 24) _ = _
    simp only [Act.put, List.setIfInBounds_toArray, List.set_cons_zero, List.set_cons_succ, i64_w, i32_w]
    rfl
   refine ws_ 0 tT3 [(3, false, some 25), (4, false, some 26), (5, false, some 27), (6, false, some 28), (7, false, some 29), (8, false, some 30), (9, false, some 31), (10, false, some 32), (11, false, some 33), (12, false, some 34), (13, false, some 35), (14, false, some 36)] (by kernel_rfl) rfl ?_
   repeat (first | (refine ws_pure (v := ?_) (a' := ?_) rfl rfl (fun _ _ _ h => h) (Or.inl ⟨by rfl, ?_⟩) ?_ ?_; rotate_left; (focus intro w'; go_simp; with_reducible rfl); rotate_left; (focus simp only [Act.put, List.setIfInBounds_toArray, List.set_cons_zero, List.set_cons_succ, i64_w, i32_w]; rfl)) | (refine ws_pure (v := undef) (a' := ?_) rfl rfl (fun _ _ _ h => h) (Or.inr ⟨by rfl, rfl⟩) ?_ ?_; rotate_left; (focus simp only [Act.put, List.setIfInBounds_toArray, List.set_cons_zero, List.set_cons_succ, i64_w, i32_w]; rfl)))
   refine ws_nil ?_
   refine done_ (by kernel_rfl) ?_
   have x0 : w2.cell? ⟨gp, 0, none⟩ = some (.slice A0 p.length c0) := (blk_cell HP2.out 0).trans rfl
   have e0 : w2.cell? ⟨ge, 0, none⟩ = some (.int .i64 kd) := (blk_cell HE2.out 0).trans rfl
   have e1 : w2.cell? ⟨ge, 1, none⟩ = some (.int .i64 k0) := (blk_cell HE2.out 1).trans rfl
   have e2 : w2.cell? ⟨ge, 2, none⟩ = some (.int .i64 k2) := (blk_cell HE2.out 2).trans rfl
   have e3 : w2.cell? ⟨ge, 3, none⟩ = some (.slice (some ⟨gs, 0, none⟩) 1 1) := (blk_cell HE2.out 3).trans rfl
   go_wp2_with (go_at_call 87; refine (HAP.out _ HB2.out HS2.out).mono ?_; rw [HR2.out]; rintro e w8 ⟨v, rfl, hR, hb⟩; have HR8 := Aside0.mk (Kd.R_lower hR HB2.out.size); have HB8 := Aside0.mk (HB2.out.trans (hb.mono HB2.out.size)); clear hR hb)
   go_ret2
   exact ⟨v, rfl, HR8.out, HB8.out⟩
  | true =>
   obtain ⟨b, hb⟩ : ∃ b, eventB kd k0 k2 [1] = b := ⟨_, rfl⟩
   rw [hb] at HR HEC
   clear hb
   cases b with
   | false =>
    have HR2 : Aside0 (r = ([], 14)) := ⟨HR.out.symm⟩
    refine start_ (n := 15) (S := fun w' => w'.cell? ⟨gp, 0, none⟩ = some (.slice A0 p.length c0) ∧ w'.cell? ⟨ge, 0, none⟩ = some (.int .i64 kd) ∧ w'.cell? ⟨ge, 1, none⟩ = some (.int .i64 k0) ∧ w'.cell? ⟨ge, 2, none⟩ = some (.int .i64 k2) ∧ w'.cell? ⟨ge, 3, none⟩ = some (.slice (some ⟨gs, 0, none⟩) 1 1) ∧ w'.cell? ⟨gk, 0, none⟩ = some (.int .i64 k0) ∧ w'.cell? ⟨gk, 1, none⟩ = some (.bool k1) ∧ w'.cell? ⟨gk, 2, none⟩ = some (.int .i64 k2)) (ds := []) tT0 (by kernel_rfl) rfl rfl ⟨((blk_cell (blk_drew HP1.out) 0).trans rfl), ((blk_cell (blk_drew HE1.out) 0).trans rfl), ((blk_cell (blk_drew HE1.out) 1).trans rfl), ((blk_cell (blk_drew HE1.out) 2).trans rfl), ((blk_cell (blk_drew HE1.out) 3).trans rfl), ((blk_cell (blk_drew HK1.out) 0).trans rfl), ((blk_cell (blk_drew HK1.out) 1).trans rfl), ((blk_cell (blk_drew HK1.out) 2).trans rfl)⟩ (fun hHeld => ?_)
    refine ws_ 13 tT1 [(1, false, some 23), (0, true, some 22)] (by kernel_rfl) rfl ?_
    repeat (first | (refine ws_pure (v := ?_) (a' := ?_) rfl rfl (fun _ _ _ h => h) (Or.inl ⟨by rfl, ?_⟩) ?_ ?_; rotate_left; (focus intro w'; go_simp; with_reducible rfl); rotate_left; (focus simp only [Act.put, List.setIfInBounds_toArray, List.set_cons_zero, List.set_cons_succ, i64_w, i32_w]; rfl)) | (refine ws_take (v := ?_) (a' := ?_) rfl rfl (fun _ _ _ h => h) (Or.inl ⟨by rfl, ?_⟩) hHeld ?_ ?_; rotate_left; (focus rintro w' ⟨s0, s1, s2, s3, s4, s5, s6, s7⟩; go_simp; with_reducible rfl); rotate_left; (focus simp only [Act.put, List.setIfInBounds_toArray, List.set_cons_zero, List.set_cons_succ, i64_w, i32_w]; rfl)))
    refine ws_nil ?_
    refine one_ (i := 2) (N := some 24) tT2 rfl rfl (by kernel_rfl) (by decide) (fun K hK => ?_)
    refine goes_ Tryz.func54 (by kernel_rfl) rfl #[.agg #[.slice A0 p.length c0], .slice A1 l.length c1] (by rfl) rfl rfl (by simp only [List.map_toArray, List.map_cons, List.map_nil]; rfl) ?_
    with_reducible refine (HCK.out _ HB.out.drew).mono ?_
    rintro e w2 ⟨rfl, hb⟩
    refine ⟨_, rfl, ?_⟩
    have HB2 := Aside0.mk (HB.out.drew.trans (hb.mono HB.out.drew.size))
    have HP2 := Aside0.mk (blk_below (blk_drew HP1.out) hb)
    have HE2 := Aside0.mk (blk_below (blk_drew HE1.out) hb)
    have HK2 := Aside0.mk (blk_below (blk_drew HK1.out) hb)
    have HS2 := Aside0.mk (blk_below (blk_drew HS1.out) hb)
    clear hb
    refine hK.out _ _ ⟨((blk_cell HP2.out 0).trans rfl), ((blk_cell HE2.out 0).trans rfl), ((blk_cell HE2.out 1).trans rfl), ((blk_cell HE2.out 2).trans rfl), ((blk_cell HE2.out 3).trans rfl), ((blk_cell HK2.out 0).trans rfl), ((blk_cell HK2.out 1).trans rfl), ((blk_cell HK2.out 2).trans rfl)⟩ (fun hHeld => ?_)
    clear hK K
    refine norm_ (a' := ?_) ?_ ?_
    rotate_left
    ·show Act.put _ (some 24) _ = _
     simp only [Act.put, List.setIfInBounds_toArray, List.set_cons_zero, List.set_cons_succ, i64_w, i32_w]
     rfl
    refine ws_ 9 tT4 [(3, false, some 25), (4, false, some 26), (5, true, some 27)] (by kernel_rfl) rfl ?_
    repeat (first | (refine ws_pure (v := ?_) (a' := ?_) rfl rfl (fun _ _ _ h => h) (Or.inl ⟨by rfl, ?_⟩) ?_ ?_; rotate_left; (focus intro w'; go_simp; with_reducible rfl); rotate_left; (focus simp only [Act.put, List.setIfInBounds_toArray, List.set_cons_zero, List.set_cons_succ, i64_w, i32_w]; rfl)) | (refine ws_take (v := ?_) (a' := ?_) rfl rfl (fun _ _ _ h => h) (Or.inl ⟨by rfl, ?_⟩) hHeld ?_ ?_; rotate_left; (focus rintro w' ⟨s0, s1, s2, s3, s4, s5, s6, s7⟩; go_simp; with_reducible rfl); rotate_left; (focus simp only [Act.put, List.setIfInBounds_toArray, List.set_cons_zero, List.set_cons_succ, i64_w, i32_w]; rfl)))
    refine ws_nil ?_
    refine one_ (i := 6) (N := some 28) tT5 rfl rfl (by kernel_rfl) (by decide) (fun K hK => ?_)
    refine goes_ Tryz.func85 (by kernel_rfl) rfl #[.agg #[.int .i64 kd, .int .i64 k0, .int .i64 k2, .slice (some ⟨gs, 0, none⟩) 1 1]] (by rfl) rfl rfl (by simp only [List.map_toArray, List.map_cons, List.map_nil]; rfl) ?_
    with_reducible refine (HEC.out w2 HS2.out).mono ?_
    simp only [if_true, Bool.false_eq_true, if_false]
    rintro e w3 ⟨rfl, hb⟩
    refine ⟨_, rfl, ?_⟩
    have HB3 := Aside0.mk (HB2.out.trans (hb.mono HB2.out.size))
    have HP3 := Aside0.mk (blk_below HP2.out hb)
    have HE3 := Aside0.mk (blk_below HE2.out hb)
    have HK3 := Aside0.mk (blk_below HK2.out hb)
    have HS3 := Aside0.mk (blk_below HS2.out hb)
    clear hb
    refine hK.out _ _ ⟨((blk_cell HP3.out 0).trans rfl), ((blk_cell HE3.out 0).trans rfl), ((blk_cell HE3.out 1).trans rfl), ((blk_cell HE3.out 2).trans rfl), ((blk_cell HE3.out 3).trans rfl), ((blk_cell HK3.out 0).trans rfl), ((blk_cell HK3.out 1).trans rfl), ((blk_cell HK3.out 2).trans rfl)⟩ (fun hHeld => ?_)
    clear hK K
    refine norm_ (a' := ?_) ?_ ?_
    rotate_left
    ·show Act.put _ (some 28) _ = _
     simp only [Act.put, List.setIfInBounds_toArray, List.set_cons_zero, List.set_cons_succ, i64_w, i32_w]
     rfl
    refine ws_ 0 tT3 [(7, false, some 29), (8, false, some 30), (9, false, some 31), (10, false, some 32), (11, false, some 33), (12, false, some 34), (13, false, some 35), (14, false, some 36)] (by kernel_rfl) rfl ?_
    repeat (first | (refine ws_pure (v := ?_) (a' := ?_) rfl rfl (fun _ _ _ h => h) (Or.inl ⟨by rfl, ?_⟩) ?_ ?_; rotate_left; (focus intro w'; go_simp; with_reducible rfl); rotate_left; (focus simp only [Act.put, List.setIfInBounds_toArray, List.set_cons_zero, List.set_cons_succ, i64_w, i32_w]; rfl)) | (refine ws_pure (v := undef) (a' := ?_) rfl rfl (fun _ _ _ h => h) (Or.inr ⟨by rfl, rfl⟩) ?_ ?_; rotate_left; (focus simp only [Act.put, List.setIfInBounds_toArray, List.set_cons_zero, List.set_cons_succ, i64_w, i32_w]; rfl)))
    refine ws_nil ?_
    refine done_ (by kernel_rfl) ?_
    have HB6 := HB3
    go_wp2
    go_ret2
    obtain rfl := HR2.out
    exact ⟨_, rfl, Kd.R_nil _ _ _ _ _, HB6.out⟩
   | true =>
    have HR2 : Aside0 (applyL p l kd k0 k2 [1] = r) := ⟨HR.out⟩
    refine start_ (n := 15) (S := fun w' => w'.cell? ⟨gp, 0, none⟩ = some (.slice A0 p.length c0) ∧ w'.cell? ⟨ge, 0, none⟩ = some (.int .i64 kd) ∧ w'.cell? ⟨ge, 1, none⟩ = some (.int .i64 k0) ∧ w'.cell? ⟨ge, 2, none⟩ = some (.int .i64 k2) ∧ w'.cell? ⟨ge, 3, none⟩ = some (.slice (some ⟨gs, 0, none⟩) 1 1) ∧ w'.cell? ⟨gk, 0, none⟩ = some (.int .i64 k0) ∧ w'.cell? ⟨gk, 1, none⟩ = some (.bool k1) ∧ w'.cell? ⟨gk, 2, none⟩ = some (.int .i64 k2)) (ds := []) tT0 (by kernel_rfl) rfl rfl ⟨((blk_cell (blk_drew HP1.out) 0).trans rfl), ((blk_cell (blk_drew HE1.out) 0).trans rfl), ((blk_cell (blk_drew HE1.out) 1).trans rfl), ((blk_cell (blk_drew HE1.out) 2).trans rfl), ((blk_cell (blk_drew HE1.out) 3).trans rfl), ((blk_cell (blk_drew HK1.out) 0).trans rfl), ((blk_cell (blk_drew HK1.out) 1).trans rfl), ((blk_cell (blk_drew HK1.out) 2).trans rfl)⟩ (fun hHeld => ?_)
    refine ws_ 13 tT1 [(1, false, some 23), (0, true, some 22)] (by kernel_rfl) rfl ?_
    repeat (first | (refine ws_pure (v := ?_) (a' := ?_) rfl rfl (fun _ _ _ h => h) (Or.inl ⟨by rfl, ?_⟩) ?_ ?_; rotate_left; (focus intro w'; go_simp; with_reducible rfl); rotate_left; (focus simp only [Act.put, List.setIfInBounds_toArray, List.set_cons_zero, List.set_cons_succ, i64_w, i32_w]; rfl)) | (refine ws_take (v := ?_) (a' := ?_) rfl rfl (fun _ _ _ h => h) (Or.inl ⟨by rfl, ?_⟩) hHeld ?_ ?_; rotate_left; (focus rintro w' ⟨s0, s1, s2, s3, s4, s5, s6, s7⟩; go_simp; with_reducible rfl); rotate_left; (focus simp only [Act.put, List.setIfInBounds_toArray, List.set_cons_zero, List.set_cons_succ, i64_w, i32_w]; rfl)))
    refine ws_nil ?_
    refine one_ (i := 2) (N := some 24) tT2 rfl rfl (by kernel_rfl) (by decide) (fun K hK => ?_)
    refine goes_ Tryz.func54 (by kernel_rfl) rfl #[.agg #[.slice A0 p.length c0], .slice A1 l.length c1] (by rfl) rfl rfl (by simp only [List.map_toArray, List.map_cons, List.map_nil]; rfl) ?_
    with_reducible refine (HCK.out _ HB.out.drew).mono ?_
    rintro e w2 ⟨rfl, hb⟩
    refine ⟨_, rfl, ?_⟩
    have HB2 := Aside0.mk (HB.out.drew.trans (hb.mono HB.out.drew.size))
    have HP2 := Aside0.mk (blk_below (blk_drew HP1.out) hb)
    have HE2 := Aside0.mk (blk_below (blk_drew HE1.out) hb)
    have HK2 := Aside0.mk (blk_below (blk_drew HK1.out) hb)
    have HS2 := Aside0.mk (blk_below (blk_drew HS1.out) hb)
    clear hb
    refine hK.out _ _ ⟨((blk_cell HP2.out 0).trans rfl), ((blk_cell HE2.out 0).trans rfl), ((blk_cell HE2.out 1).trans rfl), ((blk_cell HE2.out 2).trans rfl), ((blk_cell HE2.out 3).trans rfl), ((blk_cell HK2.out 0).trans rfl), ((blk_cell HK2.out 1).trans rfl), ((blk_cell HK2.out 2).trans rfl)⟩ (fun hHeld => ?_)
    clear hK K
    refine norm_ (a' := ?_) ?_ ?_
    rotate_left
    ·show Act.put _ (some 24) _ = _
     simp only [Act.put, List.setIfInBounds_toArray, List.set_cons_zero, List.set_cons_succ, i64_w, i32_w]
     rfl
    refine ws_ 9 tT4 [(3, false, some 25), (4, false, some 26), (5, true, some 27)] (by kernel_rfl) rfl ?_
    repeat (first | (refine ws_pure (v := ?_) (a' := ?_) rfl rfl (fun _ _ _ h => h) (Or.inl ⟨by rfl, ?_⟩) ?_ ?_; rotate_left; (focus intro w'; go_simp; with_reducible rfl); rotate_left; (focus simp only [Act.put, List.setIfInBounds_toArray, List.set_cons_zero, List.set_cons_succ, i64_w, i32_w]; rfl)) | (refine ws_take (v := ?_) (a' := ?_) rfl rfl (fun _ _ _ h => h) (Or.inl ⟨by rfl, ?_⟩) hHeld ?_ ?_; rotate_left; (focus rintro w' ⟨s0, s1, s2, s3, s4, s5, s6, s7⟩; go_simp; with_reducible rfl); rotate_left; (focus simp only [Act.put, List.setIfInBounds_toArray, List.set_cons_zero, List.set_cons_succ, i64_w, i32_w]; rfl)))
    refine ws_nil ?_
    refine one_ (i := 6) (N := some 28) tT5 rfl rfl (by kernel_rfl) (by decide) (fun K hK => ?_)
    refine goes_ Tryz.func85 (by kernel_rfl) rfl #[.agg #[.int .i64 kd, .int .i64 k0, .int .i64 k2, .slice (some ⟨gs, 0, none⟩) 1 1]] (by rfl) rfl rfl (by simp only [List.map_toArray, List.map_cons, List.map_nil]; rfl) ?_
    with_reducible refine (HEC.out w2 HS2.out).mono ?_
    simp only [if_true, Bool.false_eq_true, if_false]
    rintro e w3 ⟨rfl, hb⟩
    refine ⟨_, rfl, ?_⟩
    have HB3 := Aside0.mk (HB2.out.trans (hb.mono HB2.out.size))
    have HP3 := Aside0.mk (blk_below HP2.out hb)
    have HE3 := Aside0.mk (blk_below HE2.out hb)
    have HK3 := Aside0.mk (blk_below HK2.out hb)
    have HS3 := Aside0.mk (blk_below HS2.out hb)
    clear hb
    refine hK.out _ _ ⟨((blk_cell HP3.out 0).trans rfl), ((blk_cell HE3.out 0).trans rfl), ((blk_cell HE3.out 1).trans rfl), ((blk_cell HE3.out 2).trans rfl), ((blk_cell HE3.out 3).trans rfl), ((blk_cell HK3.out 0).trans rfl), ((blk_cell HK3.out 1).trans rfl), ((blk_cell HK3.out 2).trans rfl)⟩ (fun hHeld => ?_)
    clear hK K
    refine norm_ (a' := ?_) ?_ ?_
    rotate_left
    ·show Act.put _ (some 28) _ = _
     simp only [Act.put, List.setIfInBounds_toArray, List.set_cons_zero, List.set_cons_succ, i64_w, i32_w]
     rfl
    refine ws_ 4 tT6 [(7, false, some 29), (8, false, some 30), (9, true, some 31), (11, true, some 33)] (by kernel_rfl) rfl ?_
    repeat (first | (refine ws_pure (v := ?_) (a' := ?_) rfl rfl (fun _ _ _ h => h) (Or.inl ⟨by rfl, ?_⟩) ?_ ?_; rotate_left; (focus intro w'; go_simp; with_reducible rfl); rotate_left; (focus simp only [Act.put, List.setIfInBounds_toArray, List.set_cons_zero, List.set_cons_succ, i64_w, i32_w]; rfl)) | (refine ws_take (v := ?_) (a' := ?_) rfl rfl (fun _ _ _ h => h) (Or.inl ⟨by rfl, ?_⟩) hHeld ?_ ?_; rotate_left; (focus rintro w' ⟨s0, s1, s2, s3, s4, s5, s6, s7⟩; go_simp; with_reducible rfl); rotate_left; (focus simp only [Act.put, List.setIfInBounds_toArray, List.set_cons_zero, List.set_cons_succ, i64_w, i32_w]; rfl)))
    refine ws_nil ?_
    refine one_ (i := 10) (N := some 32) tT7 rfl rfl (by kernel_rfl) (by decide) (fun K hK => ?_)
    refine goes_ Tryz.func86 (by kernel_rfl) rfl #[.agg #[.int .i64 kd, .int .i64 k0, .int .i64 k2, .slice (some ⟨gs, 0, none⟩) 1 1]] (by rfl) rfl rfl (by simp only [List.map_toArray, List.map_cons, List.map_nil]; rfl) ?_
    with_reducible refine (event_key_walk kd k0 k2 (.slice (some ⟨gs, 0, none⟩) 1 1) rfl w3).mono ?_
    rw [HT.out]
    rintro e w4 ⟨rfl, hb⟩
    refine ⟨_, rfl, ?_⟩
    have HB4 := Aside0.mk (HB3.out.trans (hb.mono HB3.out.size))
    have HP4 := Aside0.mk (blk_below HP3.out hb)
    have HE4 := Aside0.mk (blk_below HE3.out hb)
    have HK4 := Aside0.mk (blk_below HK3.out hb)
    have HS4 := Aside0.mk (blk_below HS3.out hb)
    clear hb
    refine hK.out _ _ ⟨((blk_cell HP4.out 0).trans rfl), ((blk_cell HE4.out 0).trans rfl), ((blk_cell HE4.out 1).trans rfl), ((blk_cell HE4.out 2).trans rfl), ((blk_cell HE4.out 3).trans rfl), ((blk_cell HK4.out 0).trans rfl), ((blk_cell HK4.out 1).trans rfl), ((blk_cell HK4.out 2).trans rfl)⟩ (fun hHeld => ?_)
    clear hK K
    refine norm_ (a' := ?_) ?_ ?_
    rotate_left
    ·show Act.put _ (some 32) _ = _
     simp only [Act.put, List.setIfInBounds_toArray, List.set_cons_zero, List.set_cons_succ, i64_w, i32_w]
     rfl
    refine ws_ 0 tT3 [(12, false, some 34), (13, false, some 35), (14, false, some 36)] (by kernel_rfl) rfl ?_
    repeat (first | (refine ws_pure (v := ?_) (a' := ?_) rfl rfl (fun _ _ _ h => h) (Or.inl ⟨by rfl, ?_⟩) ?_ ?_; rotate_left; (focus intro w'; go_simp; with_reducible rfl); rotate_left; (focus simp only [Act.put, List.setIfInBounds_toArray, List.set_cons_zero, List.set_cons_succ, i64_w, i32_w]; rfl)))
    refine ws_nil ?_
    refine done_ (by kernel_rfl) ?_
    have x0 : w4.cell? ⟨gp, 0, none⟩ = some (.slice A0 p.length c0) := (blk_cell HP4.out 0).trans rfl
    have e0 : w4.cell? ⟨ge, 0, none⟩ = some (.int .i64 kd) := (blk_cell HE4.out 0).trans rfl
    have e1 : w4.cell? ⟨ge, 1, none⟩ = some (.int .i64 k0) := (blk_cell HE4.out 1).trans rfl
    have e2 : w4.cell? ⟨ge, 2, none⟩ = some (.int .i64 k2) := (blk_cell HE4.out 2).trans rfl
    have e3 : w4.cell? ⟨ge, 3, none⟩ = some (.slice (some ⟨gs, 0, none⟩) 1 1) := (blk_cell HE4.out 3).trans rfl
    go_wp2_with (go_at_call 87; refine (HAP.out _ HB4.out HS4.out).mono ?_; rw [HR2.out]; rintro e w8 ⟨v, rfl, hR, hb⟩; have HR8 := Aside0.mk (Kd.R_lower hR HB4.out.size); have HB8 := Aside0.mk (HB4.out.trans (hb.mono HB4.out.size)); clear hR hb)
    go_ret2
    exact ⟨v, rfl, HR8.out, HB8.out⟩
def beginL (p : List S39) (l : List S50) (k : S46) : List S50 × Int := if factsB p l && !isB p l k then ([], 14) else turnL p l k 1
def endL (p : List S39) (l : List S50) (k : S46) (ok : Bool) : List S50 × Int := turnL p l k (if ok then 2 else 3)
section
variable (p : List S39) (A0 : Option Addr) (c0 : Nat) (l : List S50) (A1 : Option Addr) (c1 : Nat) (k : S46) (w : World) (hp : Kd.C k39 w A0 p.length p) (hcp : p.length ≤ c0) (hl : Kd.C k50 w A1 l.length l) (hcl : l.length ≤ c1) (hsm : smallP p = true) (hl6 : l.length ≤ 1000000)
include hp hcp hl hcl hsm hl6
theorem end_walk (ok : Bool) : Calls Tryz.prog 27 #[.agg #[.slice A0 p.length c0], .slice A1 l.length c1, .agg #[.int .i64 k.f0, .bool k.f1, .int .i64 k.f2], .bool ok] w fun e w' => ∃ v, e = .returned (.tuple #[v, .int .i64 (endL p l k ok).2]) ∧ Kd.R k50 50 w' w.heap.size (fun _ => True) v (endL p l k ok).1 ∧ Below w.heap.size w w' := by
 have HH := Aside0.mk (fun (kind : Int) (hk : kind = 1 ∨ kind = 2 ∨ kind = 3) (W : World) (hb : Below w.heap.size w W) => happens_walk p A0 c0 l A1 c1 k kind W (Kd.C_below hp hb) hcp (Kd.C_below hl hb) hcl hsm hl6 hk)
 have HB0 : Aside0 (Below w.heap.size w ((w.alloc (.cells #[.slice A0 p.length c0] 24 (0, 0))).alloc (keyO k))) := ⟨below_alloc (below_alloc (Below.refl _ _) _) _⟩
 obtain ⟨r, hr⟩ : ∃ r, endL p l k ok = r := ⟨_, rfl⟩
 rw [hr]
 unfold endL at hr
 have HR := Aside0.mk hr
 clear hp hcp hl hcl hsm hl6 hr
 obtain ⟨k0, k1, k2⟩ := k
 dsimp only at HH HR HB0 ⊢
 cases ok
 ·go_enter Tryz.func27, Tryz.ntmps27
  go_wp2_with (go_at_call 55; refine (HH.out 3 (by decide) _ HB0.out).mono ?_; rintro e w3 ⟨v, rfl, hR, hb⟩; have HR3 := Aside0.mk (Kd.R_lower hR HB0.out.size); have HB3 := Aside0.mk (HB0.out.trans (hb.mono HB0.out.size)); clear hR hb)
  go_ret2
  obtain rfl := HR.out
  exact ⟨v, rfl, HR3.out, HB3.out⟩
 ·go_enter Tryz.func27, Tryz.ntmps27
  go_wp2_with (go_at_call 55; refine (HH.out 2 (by decide) _ HB0.out).mono ?_; rintro e w3 ⟨v, rfl, hR, hb⟩; have HR3 := Aside0.mk (Kd.R_lower hR HB0.out.size); have HB3 := Aside0.mk (HB0.out.trans (hb.mono HB0.out.size)); clear hR hb)
  go_ret2
  obtain rfl := HR.out
  exact ⟨v, rfl, HR3.out, HB3.out⟩
theorem begin_walk : Calls Tryz.prog 26 #[.agg #[.slice A0 p.length c0], .slice A1 l.length c1, .agg #[.int .i64 k.f0, .bool k.f1, .int .i64 k.f2]] w fun e w' => ∃ v, e = .returned (.tuple #[v, .int .i64 (beginL p l k).2]) ∧ Kd.R k50 50 w' w.heap.size (fun _ => True) v (beginL p l k).1 ∧ Below w.heap.size w w' := by
 have HH := Aside0.mk (fun (W : World) (hb : Below w.heap.size w W) => happens_walk p A0 c0 l A1 c1 k 1 W (Kd.C_below hp hb) hcp (Kd.C_below hl hb) hcl hsm hl6 (.inl rfl))
 have HCK := Aside0.mk (fun (W : World) (hb : Below w.heap.size w W) => fact_Check.calls _ A0 c0 p A1 c1 l _ W (Kd.C_below hp hb) hcp (Kd.C_below hl hb) hcl (fact_check_at p l hsm hl6))
 have HIS := Aside0.mk (fun (W : World) (hb : Below w.heap.size w W) => is_walk A0 c0 p A1 c1 l k W (Kd.C_below hp hb) hcp (Kd.C_below hl hb) hcl (by unfold okArgs; rw [hsm, decide_eq_true hl6]; rfl))
 have HB0 : Aside0 (Below w.heap.size w ((w.alloc (.cells #[.slice A0 p.length c0] 24 (0, 0))).alloc (keyO k))) := ⟨below_alloc (below_alloc (Below.refl _ _) _) _⟩
 have HG0 : Aside0 (((w.alloc (.cells #[.slice A0 p.length c0] 24 (0, 0))).alloc (keyO k)).heap[w.heap.size]? = some (.cells #[.slice A0 p.length c0] 24 (0, 0))) := ⟨blk_alloc (blk_new _ _) _⟩
 have HK0 : Aside0 (((w.alloc (.cells #[.slice A0 p.length c0] 24 (0, 0))).alloc (keyO k)).heap[w.heap.size + 1]? = some (keyO k)) := ⟨by have h := blk_new (w.alloc (.cells #[.slice A0 p.length c0] 24 (0, 0))) (keyO k); rwa [World.size_alloc] at h⟩
 obtain ⟨r, hr⟩ : ∃ r, beginL p l k = r := ⟨_, rfl⟩
 rw [hr]
 unfold beginL at hr
 have HR := Aside0.mk hr
 clear hp hcp hl hcl hsm hl6 hr
 obtain ⟨v0, hv0⟩ : ∃ v, factsB p l = v := ⟨_, rfl⟩
 obtain ⟨b, hb⟩ : ∃ b, isB p l k = b := ⟨_, rfl⟩
 rw [hv0] at HR HCK
 rw [hb] at HR HIS
 clear hv0 hb
 obtain ⟨k0, k1, k2⟩ := k
 dsimp only at HH HR HB0 HIS HG0 HK0 ⊢
 cases v0
 ·simp only [Bool.false_and, Bool.false_eq_true, if_false] at HR HCK
  go_enter Tryz.func26, Tryz.ntmps26
  go_wp2_with (first
   | (go_at_call 54; refine (HCK.out _ HB0.out).mono ?_; rintro e w2 ⟨rfl, hb⟩; have HB2 := Aside0.mk (HB0.out.trans (hb.mono HB0.out.size)); have HG2 := Aside0.mk (blk_below HG0.out hb); have HK2 := Aside0.mk (blk_below HK0.out hb); clear hb; have x0 : w2.cell? ⟨w.heap.size, 0, none⟩ = some (.slice A0 p.length c0) := (blk_cell HG2.out 0).trans rfl; have e0 : w2.cell? ⟨w.heap.size + 1, 0, none⟩ = some (.int .i64 k0) := (blk_cell HK2.out 0).trans rfl; have e1 : w2.cell? ⟨w.heap.size + 1, 1, none⟩ = some (.bool k1) := (blk_cell HK2.out 1).trans rfl; have e2 : w2.cell? ⟨w.heap.size + 1, 2, none⟩ = some (.int .i64 k2) := (blk_cell HK2.out 2).trans rfl)
   | (go_at_call 55; refine (HH.out _ HB2.out).mono ?_; rintro e w3 ⟨v, rfl, hR, hb⟩; have HR3 := Aside0.mk (Kd.R_lower hR HB2.out.size); have HB3 := Aside0.mk (HB2.out.trans (hb.mono HB2.out.size)); clear hR hb))
  go_ret2
  obtain rfl := HR.out
  exact ⟨v, rfl, HR3.out, HB3.out⟩
 ·simp only [Bool.true_and, if_true] at HR HCK
  cases b
  ·simp only [Bool.not_false, if_true] at HR
   go_enter Tryz.func26, Tryz.ntmps26
   go_wp2_with (first
    | (go_at_call 54; refine (HCK.out _ HB0.out).mono ?_; rintro e w2 ⟨rfl, hb⟩; have HB2 := Aside0.mk (HB0.out.trans (hb.mono HB0.out.size)); have HG2 := Aside0.mk (blk_below HG0.out hb); have HK2 := Aside0.mk (blk_below HK0.out hb); clear hb; have x0 : w2.cell? ⟨w.heap.size, 0, none⟩ = some (.slice A0 p.length c0) := (blk_cell HG2.out 0).trans rfl; have e0 : w2.cell? ⟨w.heap.size + 1, 0, none⟩ = some (.int .i64 k0) := (blk_cell HK2.out 0).trans rfl; have e1 : w2.cell? ⟨w.heap.size + 1, 1, none⟩ = some (.bool k1) := (blk_cell HK2.out 1).trans rfl; have e2 : w2.cell? ⟨w.heap.size + 1, 2, none⟩ = some (.int .i64 k2) := (blk_cell HK2.out 2).trans rfl)
    | (go_at_call 22; refine (HIS.out _ HB2.out).mono ?_; rintro e w4 ⟨rfl, hb⟩; have HB4 := Aside0.mk (HB2.out.trans (hb.mono HB2.out.size)); clear hb))
   go_ret2
   obtain rfl := HR.out
   exact ⟨_, rfl, Kd.R_nil _ _ _ _ _, HB4.out⟩
  ·simp only [Bool.not_true, Bool.false_eq_true, if_false] at HR
   go_enter Tryz.func26, Tryz.ntmps26
   go_wp2_with (first
    | (go_at_call 54; refine (HCK.out _ HB0.out).mono ?_; rintro e w2 ⟨rfl, hb⟩; have HB2 := Aside0.mk (HB0.out.trans (hb.mono HB0.out.size)); have HG2 := Aside0.mk (blk_below HG0.out hb); have HK2 := Aside0.mk (blk_below HK0.out hb); clear hb; have x0 : w2.cell? ⟨w.heap.size, 0, none⟩ = some (.slice A0 p.length c0) := (blk_cell HG2.out 0).trans rfl; have e0 : w2.cell? ⟨w.heap.size + 1, 0, none⟩ = some (.int .i64 k0) := (blk_cell HK2.out 0).trans rfl; have e1 : w2.cell? ⟨w.heap.size + 1, 1, none⟩ = some (.bool k1) := (blk_cell HK2.out 1).trans rfl; have e2 : w2.cell? ⟨w.heap.size + 1, 2, none⟩ = some (.int .i64 k2) := (blk_cell HK2.out 2).trans rfl)
    | (go_at_call 22; refine (HIS.out _ HB2.out).mono ?_; rintro e w4 ⟨rfl, hb⟩; have HB4 := Aside0.mk (HB2.out.trans (hb.mono HB2.out.size)); have HG4 := Aside0.mk (blk_below HG2.out hb); have HK4 := Aside0.mk (blk_below HK2.out hb); clear hb x0 e0 e1 e2; have x0 : w4.cell? ⟨w.heap.size, 0, none⟩ = some (.slice A0 p.length c0) := (blk_cell HG4.out 0).trans rfl; have e0 : w4.cell? ⟨w.heap.size + 1, 0, none⟩ = some (.int .i64 k0) := (blk_cell HK4.out 0).trans rfl; have e1 : w4.cell? ⟨w.heap.size + 1, 1, none⟩ = some (.bool k1) := (blk_cell HK4.out 1).trans rfl; have e2 : w4.cell? ⟨w.heap.size + 1, 2, none⟩ = some (.int .i64 k2) := (blk_cell HK4.out 2).trans rfl)
    | (go_at_call 55; refine (HH.out _ HB4.out).mono ?_; rintro e w5 ⟨v, rfl, hR, hb⟩; have HR5 := Aside0.mk (Kd.R_lower hR HB4.out.size); have HB5 := Aside0.mk (HB4.out.trans (hb.mono HB4.out.size)); clear hR hb))
   go_ret2
   obtain rfl := HR.out
   exact ⟨v, rfl, HR5.out, HB5.out⟩
end
end Go.Proofs.YtloijngccppfgaaGreat.F
end

section
namespace Go.Proofs.YtloijngccppfgaaGreat.F
open Go.RowKit Go.Proofs.YtloijngccppfgaaGreatW.PrintWords Go.Proofs.YtloijngccppfgaaGreatW.PrintLast Go.Proofs.YtloijngccppfgaaGreatW.PrintMore
attribute [local go_sem] max2_int min2_int max_two min_two max_three min_three max_four min_four
set_option linter.unusedVariables false
set_option linter.unusedSimpArgs false
open Go.Proofs.YtloijngccppfgaaGreat.Pure
def bodyR : S110 := ⟨[⟨⟨#[97]⟩, ⟨#[120]⟩, [], false, false, []⟩, ⟨⟨#[98]⟩, ⟨#[121]⟩, [⟨#[97]⟩], false, false, []⟩]⟩
def planR : List S39 := makeL ⟨#[116]⟩ [bodyR]
def noneR : List S50 := [⟨0, 0, 0, false⟩, ⟨0, 0, 0, false⟩, ⟨0, 0, 0, false⟩]
def begunR : List S50 := (beginL planR noneR ⟨1, false, 0⟩).1
def doneR : List S50 := (endL planR begunR ⟨1, false, 0⟩ true).1
def fellR : List S50 := [⟨0, 0, 0, false⟩, ⟨2, 0, 0, false⟩, ⟨3, 0, 0, false⟩]
def slipR : List S50 := [⟨0, 0, 0, false⟩, ⟨2, 1, 1, false⟩, ⟨3, 0, 0, false⟩]
def keysQ : List S46 → List S46 → Bool
 | [], [] => true
 | a :: l, b :: m => keyEq a b && keysQ l m
 | _, _ => false
theorem keysQ_eq : ∀ (l m : List S46), keysQ l m = true → l = m
 | [], [], _ => rfl
 | a :: l, b :: m, h => by
  unfold keysQ at h
  rw [Bool.and_eq_true] at h
  rw [keyEq_true h.1, keysQ_eq l m h.2]
theorem evR_ : checkB ⟨#[116]⟩ [bodyR] = true ∧ smallP planR = true ∧ planR.length = 3 ∧ keysQ (mayL planR noneR) [⟨1, false, 0⟩] = true ∧ (beginL planR noneR ⟨1, false, 0⟩).2 = 0 ∧ begunR.length = 3 ∧ (mayL planR begunR).length = 0 ∧ (endL planR begunR ⟨1, false, 0⟩ true).2 = 0 ∧ doneR.length = 3 ∧ keysQ (mayL planR doneR) [⟨2, false, 0⟩] = true ∧ isB planR fellR ⟨1, true, 0⟩ = true ∧ isB planR slipR ⟨1, true, 1⟩ = true ∧ isB planR fellR ⟨1, false, 0⟩ = false := by decide +kernel
theorem C_cells {α : Type} {d : Kd α} {w : World} {g e : Nat} {cs : List Value} (hg : w.heap[g]? = some (.cells cs.toArray e (0, 0))) (xs : List α) (hl : xs.length ≤ 9223372036854775807) (h : ∀ (j : Nat) p, xs[j]? = some p → ∃ c : List Value, c.length = d.sz ∧ d.K w p c ∧ ∀ (i : Nat) u, c[i]? = some u → cs[j * d.sz + i]? = some u) : Kd.C d w (some ⟨g, 0, none⟩) xs.length xs := by
 refine ⟨rfl, hl, fun _ => ⟨_, rfl, fun j p hj => ?_⟩⟩
 obtain ⟨c, h1, h2, h3⟩ := h j p hj
 refine ⟨c, h1, h2, fun i u hu => ?_⟩
 rw [add_plain]
 refine (blk_cell hg _).trans ?_
 rw [List.getElem?_toArray]
 exact h3 i u hu
abbrev strsR : Obj := .cells #[.string ⟨#[97]⟩] 9 (0, 0)
abbrev nodesR (gs : Nat) : Obj := .cells #[.string ⟨#[97]⟩, .string ⟨#[120]⟩, .slice none 0 0, .bool false, .bool false, .slice none 0 0, .string ⟨#[98]⟩, .string ⟨#[121]⟩, .slice (some ⟨gs, 0, none⟩) 1 1, .bool false, .bool false, .slice none 0 0] 112 (0, 0)
theorem body_C {w : World} {gs gn gb : Nat} (h1 : w.heap[gs]? = some strsR) (h2 : w.heap[gn]? = some (nodesR gs)) (h3 : w.heap[gb]? = some (.cells #[.slice (some ⟨gn, 0, none⟩) 2 2] 110 (0, 0))) : Kd.C k110 w (some ⟨gb, 0, none⟩) [bodyR].length [bodyR] := by
 refine C_cells (cs := [.slice (some ⟨gn, 0, none⟩) 2 2]) h3 _ (by simp) (fun j p hj => ?_)
 match j, hj with
 | 0, hj =>
  obtain rfl := Option.some.inj hj
  refine ⟨[.slice (some ⟨gn, 0, none⟩) 2 2], rfl, k110_mk w bodyR (A0 := some ⟨gn, 0, none⟩) (c0 := 2) (by decide) ?_, fun i u hu => by simpa using hu⟩
  refine C_cells (cs := [.string ⟨#[97]⟩, .string ⟨#[120]⟩, .slice none 0 0, .bool false, .bool false, .slice none 0 0, .string ⟨#[98]⟩, .string ⟨#[121]⟩, .slice (some ⟨gs, 0, none⟩) 1 1, .bool false, .bool false, .slice none 0 0]) h2 _ (by decide) (fun j p hj => ?_)
  match j, hj with
  | 0, hj =>
   obtain rfl := Option.some.inj hj
   refine ⟨_, ?_, k112_mk w _ (A2 := none) (c2 := 0) (by decide) (Kd.C_nil _ _) (A5 := none) (c5 := 0) (by decide) (Kd.C_nil _ _), fun i u hu => ?_⟩
   ·rfl
   ·match i, hu with
    | 0, hu => exact hu
    | 1, hu => exact hu
    | 2, hu => exact hu
    | 3, hu => exact hu
    | 4, hu => exact hu
    | 5, hu => exact hu
  | 1, hj =>
   obtain rfl := Option.some.inj hj
   refine ⟨_, ?_, k112_mk w _ (A2 := some ⟨gs, 0, none⟩) (c2 := 1) (by decide) (C_cells (cs := [.string ⟨#[97]⟩]) h1 _ (by decide) (fun j p hj => ?_)) (A5 := none) (c5 := 0) (by decide) (Kd.C_nil _ _), fun i u hu => ?_⟩
   ·rfl
   ·match j, hj with
    | 0, hj =>
     obtain rfl := Option.some.inj hj
     exact ⟨[.string ⟨#[97]⟩], rfl, rfl, fun i u hu => by simpa using hu⟩
   ·match i, hu with
    | 0, hu => exact hu
    | 1, hu => exact hu
    | 2, hu => exact hu
    | 3, hu => exact hu
    | 4, hu => exact hu
    | 5, hu => exact hu
set_option maxHeartbeats 8000000 in
theorem row_walk (w : World) : Calls Tryz.prog 44 #[] w fun e w' => ∃ A c, e = .returned (.agg #[.slice A planR.length c]) ∧ planR.length ≤ c ∧ Kd.C k39 w' A planR.length planR ∧ Below w.heap.size w w' := by
 go_enter Tryz.func44, Tryz.ntmps44
 go_upto_region 2 with (fail)
 refine at_letter_ (fun W => Aside0 (Below w.heap.size w W) ∧ Aside0 (W.heap[w.heap.size]? = some (.cells #[.slice none 0 0] 24 (0, 0))) ∧ Aside0 (W.heap[w.heap.size + 1]? = some strsR) ∧ Aside0 (W.heap[w.heap.size + 1 + 1]? = some (nodesR (w.heap.size + 1))) ∧ Aside0 (W.heap[w.heap.size + 1 + 1 + 1]? = some (.cells #[.slice (some ⟨w.heap.size + 1 + 1, 0, none⟩) 2 2] 110 (0, 0)))) ?hS (fun W ⟨HB, HR, H1, H2, H3⟩ => ?_)
 case hS =>
  refine ⟨⟨below_alloc (below_alloc (below_alloc (below_alloc (Below.refl _ _) _) _) _) _⟩, ⟨blk_alloc (blk_alloc (blk_alloc (blk_new _ _) _) _) _⟩, ⟨?_⟩, ⟨?_⟩, ⟨?_⟩⟩
  ·have h := blk_new (w.alloc (.cells #[.slice none 0 0] 24 (0, 0))) strsR
   rw [World.size_alloc] at h
   exact blk_alloc (blk_alloc h _) _
  ·have h := blk_new ((w.alloc (.cells #[.slice none 0 0] 24 (0, 0))).alloc strsR) (nodesR (w.heap.size + 1))
   rw [World.size_alloc, World.size_alloc] at h
   exact blk_alloc h _
  ·have h := blk_new (((w.alloc (.cells #[.slice none 0 0] 24 (0, 0))).alloc strsR).alloc (nodesR (w.heap.size + 1))) (.cells #[.slice (some ⟨w.heap.size + 1 + 1, 0, none⟩) 2 2] 110 (0, 0))
   rw [World.size_alloc, World.size_alloc, World.size_alloc] at h
   exact h
 generalize w.heap.size + 1 + 1 + 1 = g1 at H3 ⊢
 generalize w.heap.size + 1 + 1 = gn at H2 H3 ⊢
 generalize w.heap.size + 1 = gs at H1 H2 ⊢
 obtain ⟨g0, hg0⟩ : ∃ g, w.heap.size = g := ⟨_, rfl⟩
 have HG0 := Aside0.mk hg0
 rw [hg0] at HR ⊢
 clear hg0
 have x1 : W.cell? ⟨g1, 0, none⟩ = some (.slice (some ⟨gn, 0, none⟩) 2 2) := (blk_cell H3.out 0).trans rfl
 have HB2 := Aside0.mk (HB.out.trans ((below_alloc (Below.refl W.heap.size W) (.cells #[.slice (some ⟨gn, 0, none⟩) 2 2] 110 (0, 0))).mono HB.out.size))
 have HM := Aside0.mk (make_walk ⟨#[116]⟩ (some ⟨W.heap.size, 0, none⟩) 1 [bodyR] (W.alloc (.cells #[.slice (some ⟨gn, 0, none⟩) 2 2] 110 (0, 0))) (body_C (blk_alloc H1.out _) (blk_alloc H2.out _) (blk_new _ _)) (by simp))
 have HR2 := Aside0.mk (blk_alloc HR.out (.cells #[.slice (some ⟨gn, 0, none⟩) 2 2] 110 (0, 0)))
 go_upto_region 3 with (go_at_call 23; refine HM.out.mono ?_; rintro e w3 ⟨hb, he⟩; rw [if_pos evR_.1] at he; obtain ⟨v, rfl, hS⟩ := he; obtain ⟨A3, c3, rfl, hc3, hC3⟩ := Kd.S_reads hS; have HS3 := Aside0.mk hS; have HL3 := Aside0.mk hc3; have HB3 := Aside0.mk (HB2.out.trans (hb.mono HB2.out.size)); have HR3 := Aside0.mk (blk_below HR2.out hb); clear hb hS hC3 hc3)
 have HR4 := Aside0.mk (blk_alloc HR3.out (.cells #[.slice A3 (makeL ⟨#[116]⟩ [bodyR]).length c3] 24 (0, 0)))
 have f0 := blk_frozen HR4.out 0
 have y0 : (w3.alloc (.cells #[.slice A3 (makeL ⟨#[116]⟩ [bodyR]).length c3] 24 (0, 0))).cell? ⟨g0, 0, none⟩ = some (.slice none 0 0) := (blk_cell HR4.out 0).trans rfl
 have n0 : g0 < w3.heap.size := lt_of_blk_ HR3.out
 have n1 : ¬ g0 = w3.heap.size := by omega
 go_wp2
 refine bodyPost_ret (results_single rfl (.cell g0 24 #[.slice A3 (makeL ⟨#[116]⟩ [bodyR]).length c3] (0, 0) _ rfl (blk_alloc (blk_put HR3.out 0 _ rfl) _) Tryz.underlying24 rfl (by kernel_rfl) .nil)) rfl ?_
 have hgw : g0 < W.heap.size := lt_of_blk_ HR.out
 have hS := Kd.S_alloc (Kd.S_far (p := ⟨g0, 0, none⟩) (Kd.S_bound HS3.out) (fun k hk e => by have h1 := hk.2.1; rw [World.size_alloc] at h1; have e2 : k = g0 := e; omega) (.slice A3 (makeL ⟨#[116]⟩ [bodyR]).length c3)) (.cells #[.slice A3 (makeL ⟨#[116]⟩ [bodyR]).length c3] 24 (0, 0))
 exact ⟨A3, c3, rfl, HL3.out, (Kd.S_reads' hS).2.2, below_alloc (HB3.out.setCell (show w.heap.size ≤ g0 from Nat.le_of_eq HG0.out) _) _⟩
set_option maxHeartbeats 8000000 in
theorem same_keys_walk (A0 : Option Addr) (c0 : Nat) (A1 : Option Addr) (c1 : Nat) (l : List S46) (w : World) (h0 : Kd.C k46 w A0 l.length l) (h1 : Kd.C k46 w A1 l.length l) : Calls Tryz.prog 45 #[.slice A0 l.length c0, .slice A1 l.length c1] w fun e w' => e = .returned (.bool true) ∧ Below w.heap.size w w' := by
 have H0 := Aside0.mk h0
 have H1 := Aside0.mk h1
 have HM := Aside0.mk (Kd.C_max h0)
 clear h0 h1
 go_enter Tryz.func45, Tryz.ntmps45
 go_wp2
 go_loopg [5] l.length (fun kq v5 w' => ∃ i : Nat, i + kq = l.length ∧ v5 = .int .i64 i ∧ Aside0 (Below w.heap.size w w'))
 case atStart => exact ⟨0, by omega, rfl, ⟨Below.refl _ _⟩⟩
 case round =>
  obtain ⟨i, hi, rfl, HB⟩ := hrel
  cases gk with
  | zero =>
   obtain rfl : i = l.length := by omega
   go_wp2
   go_ret
   exact ⟨rfl, HB.out⟩
  | succ d =>
   have hlt : (i : Int) < (l.length : Int) := by omega
   have h0i : (0 : Int) ≤ i := by omega
   obtain ⟨a0, e0, x0, x1, x2⟩ := at_T46 (Kd.C_below H0.out HB.out) (i : Int) h0i hlt
   obtain ⟨a1, e1, y0, y1, y2⟩ := at_T46 (Kd.C_below H1.out HB.out) (i : Int) h0i hlt
   obtain rfl := e0
   obtain rfl := e1
   rw [Int.toNat_natCast] at x0 x1 x2 y0 y1 y2
   generalize rd_T46 l (i : Int) = u at x0 x1 x2 y0 y1 y2
   obtain ⟨u0, u1, u2⟩ := u
   dsimp only at x0 x1 x2 y0 y1 y2
   have hwi : wrap64 ((i : Int) + 1) = ((i + 1 : Nat) : Int) := by have := HM.out; unfold wrap64; omega
   have HWI := Aside0.mk hi
   clear hi
   go_upto_region 6 with (fail)
   go_region
   go_wp2
   go_roundg d
   case measure => omega
   case rel => exact ⟨i + 1, by have := HWI.out; omega, by go_num, ⟨HB.out.drew⟩⟩
theorem index_key_nil (A : Option Addr) (c : Nat) (k : S46) (w : World) : Calls Tryz.prog 100 #[.slice A 0 c, .agg #[.int .i64 k.f0, .bool k.f1, .int .i64 k.f2]] w fun e w' => e = .returned (.int .i64 (-1)) ∧ Below w.heap.size w w' := by
 have HB0 := Aside0.mk (below_alloc (Below.refl w.heap.size w) (keyO k))
 go_enter Tryz.func100, Tryz.ntmps100
 go_wp2
 go_loopg [8] 0 (fun kq v8 w' => v8 = .int .i64 0 ∧ Aside0 (Below w.heap.size w w'))
 case atStart => exact ⟨rfl, HB0⟩
 case round =>
  obtain ⟨rfl, HB⟩ := hrel
  go_wp2
  go_ret
  exact ⟨rfl, HB.out⟩
theorem contains_key_nil (A : Option Addr) (c : Nat) (k : S46) (w : World) : Calls Tryz.prog 73 #[.slice A 0 c, .agg #[.int .i64 k.f0, .bool k.f1, .int .i64 k.f2]] w fun e w' => e = .returned (.bool false) ∧ Below w.heap.size w w' := by
 have HB0 := Aside0.mk (below_alloc (Below.refl w.heap.size w) (keyO k))
 go_enter Tryz.func73, Tryz.ntmps73
 go_wp2_with (go_at_call 100; refine (index_key_nil A c k _).mono ?_; rintro e w2 ⟨rfl, hb⟩; have HB2 := Aside0.mk (HB0.out.trans (hb.mono HB0.out.size)); clear hb)
 go_ret
 exact ⟨rfl, HB2.out⟩
theorem next_lit (A : Option Addr) (c : Nat) (k : S46) (gb : Nat) (w : World) (hg : w.heap[gb]? = some (.cells #[.slice A 0 c] 43 (0, 0))) : Calls Tryz.prog 72 (#[.agg #[.int .i64 k.f0, .bool k.f1, .int .i64 k.f2]] ++ #[.pointer (some ⟨gb, 0, none⟩)]) w fun e w' => e = .returned (.bool false) ∧ Below w.heap.size w w' := by
 have HB0 := Aside0.mk (below_alloc (Below.refl w.heap.size w) (keyO k))
 have x0 : (w.alloc (keyO k)).cell? ⟨gb, 0, none⟩ = some (.slice A 0 c) := (blk_cell (blk_alloc hg _) 0).trans rfl
 show Calls Tryz.prog 72 #[.agg #[.int .i64 k.f0, .bool k.f1, .int .i64 k.f2], .pointer (some ⟨gb, 0, none⟩)] w _
 go_enter Tryz.func72, Tryz.ntmps72
 go_wp2_with (go_at_call 73; refine (contains_key_nil A c k _).mono ?_; rintro e w2 ⟨rfl, hb⟩; have HB2 := Aside0.mk (HB0.out.trans (hb.mono HB0.out.size)); clear hb)
 go_ret
 exact ⟨rfl, HB2.out⟩
set_option maxHeartbeats 4000000 in
theorem index_func_key (gf : Nat) (lb : Array Value) (eg : ∀ args w, (callFunc gf args).run Tryz.prog w = .ok (.enter gf args) w) (A0 : Option Addr) (c0 : Nat) (l0 : List S46) (w : World) (hr : Kd.C k46 w A0 l0.length l0)
  (hp : ∀ (k : S46) (W : World), Below w.heap.size w W → Calls Tryz.prog gf (#[.agg #[.int .i64 k.f0, .bool k.f1, .int .i64 k.f2]] ++ lb) W fun e W' => e = .returned (.bool false) ∧ Below W.heap.size W W') :
  Calls Tryz.prog 99 #[.slice A0 l0.length c0, .func (.func gf) #[] lb] w fun e w' => e = .returned (.int .i64 (-1)) ∧ Below w.heap.size w w' := by
 have HR := Aside0.mk hr
 have HM := Aside0.mk (Kd.C_max hr)
 have HP := Aside0.mk hp
 clear hr hp
 go_enter Tryz.func99, Tryz.ntmps99
 go_wp2
 go_loopg [5, 8] l0.length (fun kq v5 v8 w' => ∃ i : Nat, i + kq = l0.length ∧ v8 = .int .i64 i ∧ Aside0 (Below w.heap.size w w'))
 case atStart => exact ⟨0, by omega, rfl, ⟨Below.refl _ _⟩⟩
 case round =>
  obtain ⟨i, hi, rfl, HB⟩ := hrel
  cases gk with
  | zero =>
   obtain rfl : i = l0.length := by omega
   clear eg
   go_wp2
   go_ret
   exact ⟨rfl, HB.out⟩
  | succ d =>
   have hlt : (i : Int) < (l0.length : Int) := by omega
   have h0i : (0 : Int) ≤ i := by omega
   obtain ⟨a0, e0, x0, x1, x2⟩ := at_T46 (Kd.C_below HR.out HB.out) (i : Int) h0i hlt
   obtain rfl := e0
   rw [Int.toNat_natCast] at x0 x1 x2
   have HC := Aside0.mk (HP.out (rd_T46 l0 (i : Int)) wr HB.out)
   generalize rd_T46 l0 (i : Int) = u at x0 x1 x2 HC
   obtain ⟨u0, u1, u2⟩ := u
   dsimp only at x0 x1 x2 HC
   have HWI := Aside0.mk hi
   have hm := HM.out
   clear hi
   go_wp2_with (go_at_fn gf; refine HC.out.mono ?_; rintro e w2 ⟨rfl, hB2⟩; have HB2 := Aside0.mk (HB.out.trans (hB2.mono HB.out.size)); clear hB2)
   go_roundg d
   case measure => omega
   case rel => exact ⟨i + 1, by have := HWI.out; omega, by go_num, HB2⟩
theorem delete_key (gf : Nat) (lb : Array Value) (eg : ∀ args w, (callFunc gf args).run Tryz.prog w = .ok (.enter gf args) w) (A0 : Option Addr) (c0 : Nat) (l0 : List S46) (w : World) (hr : Kd.C k46 w A0 l0.length l0)
  (hp : ∀ (k : S46) (W : World), Below w.heap.size w W → Calls Tryz.prog gf (#[.agg #[.int .i64 k.f0, .bool k.f1, .int .i64 k.f2]] ++ lb) W fun e W' => e = .returned (.bool false) ∧ Below W.heap.size W W') :
  Calls Tryz.prog 71 #[.slice A0 l0.length c0, .func (.func gf) #[] lb] w fun e w' => e = .returned (.slice A0 l0.length c0) ∧ Below w.heap.size w w' := by
 have HC := Aside0.mk (index_func_key gf lb eg A0 c0 l0 w hr hp)
 clear hr hp eg
 go_enter Tryz.func71, Tryz.ntmps71
 go_wp2_with (go_at_call 99; refine HC.out.mono ?_; rintro e w2 ⟨rfl, hb⟩; have HB := Aside0.mk hb; clear hb)
 go_ret
 exact ⟨rfl, HB.out⟩
set_option maxHeartbeats 8000000 in
theorem task_next_walk (p : List S39) (A0 : Option Addr) (c0 : Nat) (l : List S50) (A1 : Option Addr) (c1 : Nat) (m : List S50) (A2 : Option Addr) (c2 : Nat) (w : World) (hp : Kd.C k39 w A0 p.length p) (hcp : p.length ≤ c0) (hl : Kd.C k50 w A1 l.length l) (hcl : l.length ≤ c1) (hm : Kd.C k50 w A2 m.length m) (hcm : m.length ≤ c2) (ho1 : okArgs p l = true) (ho2 : okArgs p m = true) (hn : (mayL p l).length = 0) :
  Calls Tryz.prog 46 #[.agg #[.slice A0 p.length c0], .slice A1 l.length c1, .slice A2 m.length c2] w fun e w' => ∃ A c, e = .returned (.slice A (mayL p m).length c) ∧ (mayL p m).length ≤ c ∧ Kd.C k46 w' A (mayL p m).length (mayL p m) ∧ Below w.heap.size w w' := by
 have hmf : ∀ (fn : Fn) (first cap : Array Value) (w : World), (Instr.makeFunc fn first cap).run Tryz.prog w = .ok (.func fn first cap) w := fun _ _ _ _ => rfl
 have HE := Aside0.mk (enters_of Tryz.func72 (P := Tryz.prog) (f := 72) (by kernel_rfl) rfl)
 have HB0 := Aside0.mk (below_alloc (Below.refl w.heap.size w) (.cells #[.slice A0 p.length c0] 24 (0, 0)))
 have HG0 := Aside0.mk (blk_new w (.cells #[.slice A0 p.length c0] 24 (0, 0)))
 have HM1 := Aside0.mk (fun (W : World) (hb : Below w.heap.size w W) => task_May.calls A0 c0 p A1 c1 l (mayL p l) W (Kd.C_below hp hb) hcp (Kd.C_below hl hb) hcl (by unfold task_May.f; rw [if_pos ho1]))
 have HM2 := Aside0.mk (fun (W : World) (hb : Below w.heap.size w W) => task_May.calls A0 c0 p A2 c2 m (mayL p m) W (Kd.C_below hp hb) hcp (Kd.C_below hm hb) hcm (by unfold task_May.f; rw [if_pos ho2]))
 have HN := Aside0.mk hn
 clear hp hcp hl hcl hm hcm ho1 ho2 hn
 go_enter Tryz.func46, Tryz.ntmps46
 go_upto_region 2 with (go_at_call 19; refine (HM1.out _ HB0.out).mono ?_; rintro e w2 ⟨v, rfl, hR, hb⟩; obtain ⟨A3, c3, rfl⟩ := Kd.R_slice hR; rw [HN.out]; have HB2 := Aside0.mk (HB0.out.trans (hb.mono HB0.out.size)); have HG2 := Aside0.mk (blk_below HG0.out hb); clear hb hR)
 refine at_letter_ (fun W => Aside0 (Below w.heap.size w W) ∧ Aside0 (W.heap[w.heap.size]? = some (.cells #[.slice A0 p.length c0] 24 (0, 0))) ∧ Aside0 (W.heap[w2.heap.size]? = some (.cells #[.slice A3 0 c3] 43 (0, 0)))) ⟨⟨below_alloc HB2.out _⟩, ⟨blk_alloc HG2.out _⟩, ⟨blk_new _ _⟩⟩ (fun W ⟨HB3, HG3, HH3⟩ => ?_)
 generalize w2.heap.size = gb at HH3 ⊢
 have x0 : W.cell? ⟨w.heap.size, 0, none⟩ = some (.slice A0 p.length c0) := (blk_cell HG3.out 0).trans rfl
 go_wp2_with (first
  | (go_at_call 19; refine (HM2.out _ HB3.out).mono ?_; rintro e w4 ⟨v, rfl, hR, hb⟩; obtain ⟨A4, c4, rfl⟩ := Kd.R_slice hR; have HR4 := Aside0.mk (Kd.R_reads' hR); have HB4 := Aside0.mk (HB3.out.trans (hb.mono HB3.out.size)); have HH4 := Aside0.mk (blk_below HH3.out hb); clear hb hR)
  | (go_at_call 71; refine (delete_key 72 #[.pointer (some ⟨gb, 0, none⟩)] HE.out A4 c4 (mayL p m) w4 HR4.out.2.2 (fun k W hW => next_lit A3 c3 k gb W (blk_below HH4.out hW))).mono ?_; rintro e w5 ⟨rfl, hb⟩; have HB5 := Aside0.mk (HB4.out.trans (hb.mono HB4.out.size)); have HC5 := Aside0.mk (Kd.C_below HR4.out.2.2 hb); clear hb))
 go_ret
 exact ⟨A4, c4, rfl, HR4.out.2.1, HC5.out, HB5.out⟩
theorem info_fact15 : (Tryz.prog.info? 50).map (fun i => (i.zero, i.size, i.bytes)) = some (some (.agg #[.int .i64 0, .int .i64 0, .int .i64 0, .bool false]), 4, 32) := by kernel_rfl
abbrev zerosR : Obj := .cells #[.int .i64 0, .int .i64 0, .int .i64 0, .bool false, .int .i64 0, .int .i64 0, .int .i64 0, .bool false, .int .i64 0, .int .i64 0, .int .i64 0, .bool false] 50 (0, 0)
theorem make_three (w : World) : (Instr.makeSlice 25 (.int .i64 3) (.int .i64 3)).run Tryz.prog w = .ok (.slice (some ⟨w.heap.size, 0, none⟩) 3 3) (w.alloc zerosR) := by
 obtain ⟨i0, hi, hz0, hz1, hz2⟩ := info_parts info_fact15
 have h := run_makeSlice (P := Tryz.prog) (w := w) 25 50 i0 _ Tryz.underlying25 hi hz0 .i64 .i64 3 3 (by decide) (by decide) (by rw [hz1]; decide) (by rw [hz2]; decide) (by decide)
 rw [hz1, show madeCells (Value.agg #[.int .i64 0, .int .i64 0, .int .i64 0, .bool false]).cells (Int.toNat 3 * 4) = #[.int .i64 0, .int .i64 0, .int .i64 0, .bool false, .int .i64 0, .int .i64 0, .int .i64 0, .bool false, .int .i64 0, .int .i64 0, .int .i64 0, .bool false] from by kernel_rfl] at h
 exact h
def fC (f : S50) : List Value := [.int .i64 f.f0, .int .i64 f.f1, .int .i64 f.f2, .bool f.f3]
theorem three_C {w : World} {g : Nat} (a b c : S50) (h : w.heap[g]? = some (.cells #[.int .i64 a.f0, .int .i64 a.f1, .int .i64 a.f2, .bool a.f3, .int .i64 b.f0, .int .i64 b.f1, .int .i64 b.f2, .bool b.f3, .int .i64 c.f0, .int .i64 c.f1, .int .i64 c.f2, .bool c.f3] 50 (0, 0))) : Kd.C k50 w (some ⟨g, 0, none⟩) [a, b, c].length [a, b, c] := by
 refine C_cells (cs := fC a ++ fC b ++ fC c) h _ (by simp) (fun j p hj => ?_)
 match j, hj with
 | 0, hj =>
  obtain rfl := Option.some.inj hj
  exact ⟨fC a, rfl, k50_mk w a, fun i u hu => match i, hu with | 0, hu => hu | 1, hu => hu | 2, hu => hu | 3, hu => hu⟩
 | 1, hj =>
  obtain rfl := Option.some.inj hj
  exact ⟨fC b, rfl, k50_mk w b, fun i u hu => match i, hu with | 0, hu => hu | 1, hu => hu | 2, hu => hu | 3, hu => hu⟩
 | 2, hj =>
  obtain rfl := Option.some.inj hj
  exact ⟨fC c, rfl, k50_mk w c, fun i u hu => match i, hu with | 0, hu => hu | 1, hu => hu | 2, hu => hu | 3, hu => hu⟩
theorem key_C {w : World} {g : Nat} (k : S46) (h : w.heap[g]? = some (keyO k)) : Kd.C k46 w (some ⟨g, 0, none⟩) [k].length [k] := by
 refine C_cells (cs := keyC k) h _ (by simp) (fun j p hj => ?_)
 match j, hj with
 | 0, hj =>
  obtain rfl := Option.some.inj hj
  exact ⟨keyC k, rfl, k46_mk w k, fun i u hu => match i, hu with | 0, hu => hu | 1, hu => hu | 2, hu => hu⟩
def FactsP (m : List S50) (n : Nat) (err : Int) (w : World) (e : Ending) (w' : World) : Prop := ∃ A c, e = .returned (.tuple #[.slice A n c, .int .i64 err]) ∧ n ≤ c ∧ Kd.C k50 w' A n m ∧ Below w.heap.size w w'
def KeysP (m : List S46) (n : Nat) (w : World) (e : Ending) (w' : World) : Prop := ∃ A c, e = .returned (.slice A n c) ∧ n ≤ c ∧ Kd.C k46 w' A n m ∧ Below w.heap.size w w'
section
variable {p : List S39} {A0 : Option Addr} {c0 : Nat} {l : List S50} {A1 : Option Addr} {c1 np nl : Nat} {w : World} (hp : Kd.C k39 w A0 np p) (hnp : p.length = np) (hcp : np ≤ c0) (hl : Kd.C k50 w A1 nl l) (hnl : l.length = nl) (hcl : nl ≤ c1) (hsm : smallP p = true) (hl6 : nl ≤ 1000000)
include hp hnp hcp hl hnl hcl hsm hl6
theorem begin_at (k : S46) {m : List S50} {n : Nat} {err : Int} (hm : beginL p l k = (m, err)) (hn : m.length = n) : Calls Tryz.prog 26 #[.agg #[.slice A0 np c0], .slice A1 nl c1, .agg #[.int .i64 k.f0, .bool k.f1, .int .i64 k.f2]] w (FactsP m n err w) := by
 subst hnp hnl hn
 refine (begin_walk p A0 c0 l A1 c1 k w hp hcp hl hcl hsm hl6).mono ?_
 rw [hm]
 rintro e w' ⟨v, rfl, hR, hb⟩
 obtain ⟨A, c, rfl, h1, h2⟩ := Kd.R_reads hR
 exact ⟨A, c, rfl, h1, h2, hb⟩
theorem end_at (k : S46) (ok : Bool) {m : List S50} {n : Nat} {err : Int} (hm : endL p l k ok = (m, err)) (hn : m.length = n) : Calls Tryz.prog 27 #[.agg #[.slice A0 np c0], .slice A1 nl c1, .agg #[.int .i64 k.f0, .bool k.f1, .int .i64 k.f2], .bool ok] w (FactsP m n err w) := by
 subst hnp hnl hn
 refine (end_walk p A0 c0 l A1 c1 k w hp hcp hl hcl hsm hl6 ok).mono ?_
 rw [hm]
 rintro e w' ⟨v, rfl, hR, hb⟩
 obtain ⟨A, c, rfl, h1, h2⟩ := Kd.R_reads hR
 exact ⟨A, c, rfl, h1, h2, hb⟩
theorem may_at {m : List S46} {n : Nat} (hm : mayL p l = m) (hn : m.length = n) : Calls Tryz.prog 19 #[.agg #[.slice A0 np c0], .slice A1 nl c1] w (KeysP m n w) := by
 subst hnp hnl hn hm
 refine (task_May.calls A0 c0 p A1 c1 l _ w hp hcp hl hcl (by unfold task_May.f; rw [if_pos (by unfold okArgs; rw [hsm, decide_eq_true hl6]; rfl)])).mono ?_
 rintro e w' ⟨v, rfl, hR, hb⟩
 obtain ⟨A, c, rfl, h1, h2⟩ := Kd.R_reads hR
 exact ⟨A, c, rfl, h1, h2, hb⟩
theorem is_at (k : S46) {b : Bool} (hb : isB p l k = b) : Calls Tryz.prog 22 #[.agg #[.slice A0 np c0], .slice A1 nl c1, .agg #[.int .i64 k.f0, .bool k.f1, .int .i64 k.f2]] w fun e w' => e = .returned (.bool b) ∧ Below w.heap.size w w' := by
 subst hnp hnl hb
 exact is_walk A0 c0 p A1 c1 l k w hp hcp hl hcl (by unfold okArgs; rw [hsm, decide_eq_true hl6]; rfl)
theorem next_at {m : List S50} {A2 : Option Addr} {c2 nm : Nat} (hm : Kd.C k50 w A2 nm m) (hnm : m.length = nm) (hcm : nm ≤ c2) (hm6 : nm ≤ 1000000) (h0 : (mayL p l).length = 0) {q : List S46} {n : Nat} (hq : mayL p m = q) (hn : q.length = n) : Calls Tryz.prog 46 #[.agg #[.slice A0 np c0], .slice A1 nl c1, .slice A2 nm c2] w (KeysP q n w) := by
 subst hnp hnl hnm hn hq
 refine (task_next_walk p A0 c0 l A1 c1 m A2 c2 w hp hcp hl hcl hm hcm (by unfold okArgs; rw [hsm, decide_eq_true hl6]; rfl) (by unfold okArgs; rw [hsm, decide_eq_true hm6]; rfl) h0).mono ?_
 rintro e w' ⟨A, c, rfl, h1, h2, hb⟩
 exact ⟨A, c, rfl, h1, h2, hb⟩
end
theorem same_at {A0 A1 : Option Addr} {c0 c1 n : Nat} {l : List S46} {w : World} (h0 : Kd.C k46 w A0 n l) (h1 : Kd.C k46 w A1 n l) (hn : l.length = n) : Calls Tryz.prog 45 #[.slice A0 n c0, .slice A1 n c1] w fun e w' => e = .returned (.bool true) ∧ Below w.heap.size w w' := by
 subst hn
 exact same_keys_walk A0 c0 A1 c1 l w h0 h1
def argosylaw15_lives.f : Option Bool := some true
set_option maxHeartbeats 16000000 in
set_option maxRecDepth 100000 in
theorem argosylaw15_lives.calls (r : Bool) (w : World) (h : argosylaw15_lives.f = some r) : Calls Tryz.prog 18 #[] w fun e w' => e = .returned (.bool r) ∧ Below w.heap.size w w' := by
 obtain rfl := Option.some.inj h
 clear h
 have HE := Aside0.mk evR_
 have hms := make_three
 obtain ⟨np, hnp⟩ : ∃ n, planR.length = n := ⟨_, rfl⟩
 have HNP := Aside0.mk hnp
 have HRW := Aside0.mk row_walk
 rw [hnp] at HRW
 clear hnp
 go_enter Tryz.func18, Tryz.ntmps18
 go_upto_region 3 with (go_at_call 44; refine (HRW.out _).mono ?_; rintro e w2 ⟨A, c, rfl, hc, hC, hb⟩; have HB2 := Aside0.mk hb; have HC2 := Aside0.mk hC; have HL2 := Aside0.mk hc; clear hb hC hc)
 refine at_letter_ (fun W => Aside0 (Below w.heap.size w W) ∧ Aside0 (W.heap[w2.heap.size]? = some (.cells #[.slice A np c] 24 (0, 0))) ∧ Aside0 (Kd.C k39 W A np planR) ∧ Aside0 (W.heap[w2.heap.size + 1]? = some zerosR)) ⟨⟨below_alloc (below_alloc HB2.out _) _⟩, ⟨blk_alloc (blk_new _ _) _⟩, ⟨Kd.C_alloc (Kd.C_alloc HC2.out _) _⟩, ⟨by have h := blk_new (w2.alloc (.cells #[.slice A np c] 24 (0, 0))) zerosR; rwa [World.size_alloc] at h⟩⟩ (fun W ⟨HB, HP, HC, HZ⟩ => ?_)
 generalize w2.heap.size + 1 = gz at HZ ⊢
 generalize w2.heap.size = gp at HP ⊢
 clear HB2 HC2
 have HN : Aside0 (Kd.C k50 W (some ⟨gz, 0, none⟩) 3 noneR) := ⟨three_C ⟨0, 0, 0, false⟩ ⟨0, 0, 0, false⟩ ⟨0, 0, 0, false⟩ HZ.out⟩
 have x0 : W.cell? ⟨gp, 0, none⟩ = some (.slice A np c) := (blk_cell HP.out 0).trans rfl
 go_upto_region 4 with (go_at_call 26; refine (begin_at HC.out HNP.out HL2.out HN.out rfl (by decide) HE.out.2.1 (by decide) ⟨1, false, 0⟩ (m := begunR) (n := 3) (err := 0) (Prod.ext rfl HE.out.2.2.2.2.1) HE.out.2.2.2.2.2.1).mono ?_; rintro e w3 ⟨A3, c3, rfl, h1, h2, hb⟩; have HL3 := Aside0.mk h1; have HC3 := Aside0.mk h2; have HB3 := Aside0.mk hb; have HP3 := Aside0.mk (blk_below HP.out hb); clear h1 h2 hb x0; have x3 : w3.cell? ⟨gp, 0, none⟩ = some (.slice A np c) := (blk_cell HP3.out 0).trans rfl)
 go_upto_region 5 with (go_at_call 27; refine (end_at (Kd.C_below HC.out HB3.out) HNP.out HL2.out HC3.out HE.out.2.2.2.2.2.1 HL3.out HE.out.2.1 (by decide) ⟨1, false, 0⟩ true (m := doneR) (n := 3) (err := 0) (Prod.ext rfl HE.out.2.2.2.2.2.2.2.1) HE.out.2.2.2.2.2.2.2.2.1).mono ?_; rintro e w4 ⟨A4, c4, rfl, h1, h2, hb⟩; have HL4 := Aside0.mk h1; have HC4 := Aside0.mk h2; have HB4 := Aside0.mk (HB3.out.trans (hb.mono HB3.out.size)); have HC34 := Aside0.mk (Kd.C_below HC3.out hb); clear h1 h2 hb x3)
 go_upto_region 7 with (fail)
 refine at_letter_ (fun X => Aside0 (Below W.heap.size W X) ∧ Aside0 (Kd.C k50 X A3 3 begunR) ∧ Aside0 (Kd.C k50 X A4 3 doneR) ∧ Aside0 (Kd.C k50 X (some ⟨w4.heap.size, 0, none⟩) 3 fellR) ∧ Aside0 (Kd.C k50 X (some ⟨w4.heap.size + 1, 0, none⟩) 3 slipR)) ⟨⟨below_alloc (below_alloc HB4.out _) _⟩, ⟨Kd.C_alloc (Kd.C_alloc HC34.out _) _⟩, ⟨Kd.C_alloc (Kd.C_alloc HC4.out _) _⟩, ⟨Kd.C_alloc (three_C ⟨0, 0, 0, false⟩ ⟨2, 0, 0, false⟩ ⟨3, 0, 0, false⟩ (blk_new _ _)) _⟩, ⟨three_C ⟨0, 0, 0, false⟩ ⟨2, 1, 1, false⟩ ⟨3, 0, 0, false⟩ (by have h := blk_new (w4.alloc (.cells #[.int .i64 0, .int .i64 0, .int .i64 0, .bool false, .int .i64 2, .int .i64 0, .int .i64 0, .bool false, .int .i64 3, .int .i64 0, .int .i64 0, .bool false] 50 (0, 0))) (.cells #[.int .i64 0, .int .i64 0, .int .i64 0, .bool false, .int .i64 2, .int .i64 1, .int .i64 1, .bool false, .int .i64 3, .int .i64 0, .int .i64 0, .bool false] 50 (0, 0)); rwa [World.size_alloc] at h)⟩⟩ (fun W5 ⟨HB5, HG5, HD5, HF5, HS5⟩ => ?_)
 generalize w4.heap.size + 1 = gs at HS5 ⊢
 generalize w4.heap.size = gf at HF5 ⊢
 have HC5 := Aside0.mk (Kd.C_below HC.out HB5.out)
 have HN5 := Aside0.mk (Kd.C_below HN.out HB5.out)
 have HP5 := Aside0.mk (blk_below HP.out HB5.out)
 have x5 : W5.cell? ⟨gp, 0, none⟩ = some (.slice A np c) := (blk_cell HP5.out 0).trans rfl
 clear HB4 HC34 HC4 HC3 HB3 HP3 HC HN HZ HP
 go_wp2_with (first
  | (go_at_call_of 19 (Value.slice (some ⟨gz, 0, none⟩) 3 3); refine (may_at HC5.out HNP.out HL2.out HN5.out rfl (by decide) HE.out.2.1 (by decide) (m := [⟨1, false, 0⟩]) (n := 1) (keysQ_eq _ _ HE.out.2.2.2.1) rfl).mono ?_; rintro e w6 ⟨A6, c6, rfl, h1, h2, hb⟩; have HC6 := Aside0.mk h2; have HB6 := Aside0.mk hb; clear h1 h2 hb x5)
  | (go_at_call_of 45 (Value.slice A6 1 c6); refine (same_at (Kd.C_alloc HC6.out _) (key_C ⟨1, false, 0⟩ (blk_new _ _)) rfl).mono ?_; rintro e w7 ⟨rfl, hb⟩; have HB7 := Aside0.mk ((below_alloc HB6.out _).trans (hb.mono (below_alloc HB6.out _).size)); clear hb; have x7 : w7.cell? ⟨gp, 0, none⟩ = some (.slice A np c) := (blk_cell (blk_below HP5.out HB7.out) 0).trans rfl)
  | (go_at_call_of 19 (Value.slice A3 3 c3); refine (may_at (Kd.C_below HC5.out HB7.out) HNP.out HL2.out (Kd.C_below HG5.out HB7.out) HE.out.2.2.2.2.2.1 HL3.out HE.out.2.1 (by decide) (m := mayL planR begunR) (n := 0) rfl HE.out.2.2.2.2.2.2.1).mono ?_; rintro e w8 ⟨A8, c8, rfl, h1, h2, hb⟩; have HB8 := Aside0.mk (HB7.out.trans (hb.mono HB7.out.size)); clear h1 h2 hb x7; have x8 : w8.cell? ⟨gp, 0, none⟩ = some (.slice A np c) := (blk_cell (blk_below HP5.out HB8.out) 0).trans rfl)
  | (go_at_call_of 46 (Value.slice A3 3 c3); refine (next_at (Kd.C_below HC5.out HB8.out) HNP.out HL2.out (Kd.C_below HG5.out HB8.out) HE.out.2.2.2.2.2.1 HL3.out HE.out.2.1 (by decide) (Kd.C_below HD5.out HB8.out) HE.out.2.2.2.2.2.2.2.2.1 HL4.out (by decide) HE.out.2.2.2.2.2.2.1 (q := [⟨2, false, 0⟩]) (n := 1) (keysQ_eq _ _ HE.out.2.2.2.2.2.2.2.2.2.1) rfl).mono ?_; rintro e w9 ⟨A9, c9, rfl, h1, h2, hb⟩; have HC9 := Aside0.mk h2; have HB9 := Aside0.mk (HB8.out.trans (hb.mono HB8.out.size)); clear h1 h2 hb x8)
  | (go_at_call_of 45 (Value.slice A9 1 c9); refine (same_at (Kd.C_alloc HC9.out _) (key_C ⟨2, false, 0⟩ (blk_new _ _)) rfl).mono ?_; rintro e w10 ⟨rfl, hb⟩; have HB10 := Aside0.mk ((below_alloc HB9.out _).trans (hb.mono (below_alloc HB9.out _).size)); clear hb; have x10 : w10.cell? ⟨gp, 0, none⟩ = some (.slice A np c) := (blk_cell (blk_below HP5.out HB10.out) 0).trans rfl)
  | (go_at_call_of 22 (Value.agg #[Value.int .i64 1, Value.bool true, Value.int .i64 0]); refine (is_at (Kd.C_below HC5.out HB10.out) HNP.out HL2.out (Kd.C_below HF5.out HB10.out) rfl (by decide) HE.out.2.1 (by decide) ⟨1, true, 0⟩ HE.out.2.2.2.2.2.2.2.2.2.2.1).mono ?_; rintro e w11 ⟨rfl, hb⟩; have HB11 := Aside0.mk (HB10.out.trans (hb.mono HB10.out.size)); clear hb x10; have x11 : w11.cell? ⟨gp, 0, none⟩ = some (.slice A np c) := (blk_cell (blk_below HP5.out HB11.out) 0).trans rfl)
  | (go_at_call_of 22 (Value.agg #[Value.int .i64 1, Value.bool true, Value.int .i64 1]); refine (is_at (Kd.C_below HC5.out HB11.out) HNP.out HL2.out (Kd.C_below HS5.out HB11.out) rfl (by decide) HE.out.2.1 (by decide) ⟨1, true, 1⟩ HE.out.2.2.2.2.2.2.2.2.2.2.2.1).mono ?_; rintro e w12 ⟨rfl, hb⟩; have HB12 := Aside0.mk (HB11.out.trans (hb.mono HB11.out.size)); clear hb x11; have x12 : w12.cell? ⟨gp, 0, none⟩ = some (.slice A np c) := (blk_cell (blk_below HP5.out HB12.out) 0).trans rfl)
  | (go_at_call_of 22 (Value.agg #[Value.int .i64 1, Value.bool false, Value.int .i64 0]); refine (is_at (Kd.C_below HC5.out HB12.out) HNP.out HL2.out (Kd.C_below HF5.out HB12.out) rfl (by decide) HE.out.2.1 (by decide) ⟨1, false, 0⟩ HE.out.2.2.2.2.2.2.2.2.2.2.2.2).mono ?_; rintro e w13 ⟨rfl, hb⟩; have HB13 := Aside0.mk (HB12.out.trans (hb.mono HB12.out.size)); clear hb x12))
 go_ret
 exact ⟨rfl, HB.out.trans ((HB5.out.trans (HB13.out.mono HB5.out.size)).mono HB.out.size)⟩
end Go.Proofs.YtloijngccppfgaaGreat.F
end

section
namespace Go.Proofs.YtloijngccppfgaaGreat.F
open Go.RowKit Go.Proofs.YtloijngccppfgaaGreatW.PrintWords Go.Proofs.YtloijngccppfgaaGreatW.PrintLast Go.Proofs.YtloijngccppfgaaGreatW.PrintMore
attribute [local go_sem] max2_int min2_int max_two min_two max_three min_three max_four min_four
set_option linter.unusedVariables false
set_option linter.unusedSimpArgs false
open Go.Proofs.YtloijngccppfgaaGreat.Pure
theorem plan_seen_walk (p : List S39) (A : Option Addr) (c : Nat) (w : World) (hp : Kd.C k39 w A p.length p) (hc : p.length ≤ c) (hsm : smallP p = true) :
  Calls Tryz.prog 39 #[.agg #[.slice A p.length c]] w fun e w' => ∃ r, e = .returned (ptrO r) ∧ ViewP p A c w r w' := by
 have HB0 := Aside0.mk (below_alloc (Below.refl w.heap.size w) (.cells #[.slice A p.length c] 24 (0, 0)))
 have HS := Aside0.mk (plan_see_walk p A c (w.alloc (.cells #[.slice A p.length c] 24 (0, 0))) (Kd.C_below hp HB0.out) hc hsm)
 clear hp hc hsm
 go_enter Tryz.func39, Tryz.ntmps39
 go_wp2_with (go_at_call 60; refine HS.out.mono ?_; rintro e w2 ⟨r, rfl, hv⟩; have HV := Aside0.mk hv; clear hv)
 all_goals
  go_ret
  refine ⟨r, rfl, HB0.out.trans (HV.out.1.mono HB0.out.size), ?_⟩
  have h := HV.out.2
  cases r with
  | none => exact h
  | some g => exact ⟨h.1, h.2.1, Nat.le_trans HB0.out.size h.2.2⟩
end Go.Proofs.YtloijngccppfgaaGreat.F
end

section
namespace Go.Proofs.YtloijngccppfgaaGreat.Pure
set_option linter.unusedVariables false
open Go.RowKit Go.Proofs.YtloijngccppfgaaGreat.F Go.Proofs.YtloijngccppfgaaGreatW.PrintWords Go.Proofs.YtloijngccppfgaaGreatW.PrintLast
section
variable {p : List S39} {l : List S50} {S : List Int}
theorem keyOne_mem {i : Nat} {v : S46} (h : v ∈ keyOne p l S i) : v.f0 = i ∧ (R_ p i).f2 = false ∧ ((v.f1 = false ∧ v.f2 = 0 ∧ (rd_T50 l (i : Int)).f0 = 0 ∧ reachB p l S i = true) ∨ (v.f1 = true ∧ v.f2 = (rd_T50 l (i : Int)).f2 ∧ undoT p l (i : Int) = true)) := by
 unfold keyOne at h
 cases hs : (rd_T39 p (i : Int)).f2
 ·rw [hs, if_neg (by simp)] at h
  cases hr : ((rd_T50 l (i : Int)).f0 == 0 && reachB p l S i)
  ·rw [hr, if_neg (by simp)] at h
   cases hu : undoT p l (i : Int)
   ·rw [hu, if_neg (by simp)] at h
    cases h
   ·rw [hu, if_pos rfl] at h
    rw [List.mem_singleton.1 h]
    exact ⟨rfl, rfl, .inr ⟨rfl, rfl, rfl⟩⟩
  ·rw [hr, if_pos rfl] at h
   rw [Bool.and_eq_true, beq_iff_eq] at hr
   rw [List.mem_singleton.1 h]
   exact ⟨rfl, rfl, .inl ⟨rfl, rfl, hr.1, hr.2⟩⟩
 ·rw [hs, if_pos rfl] at h
  cases h
theorem keysL_mem {v : S46} (h : v ∈ keysL p l S) : ∃ i : Nat, i < p.length ∧ v ∈ keyOne p l S i := by
 unfold keysL at h
 obtain ⟨i, h1, h2⟩ := List.mem_flatMap.1 h
 have := List.mem_range'_1.1 h1
 exact ⟨i, by omega, h2⟩
structure OrderAt (p : List S39) (l : List S50) (S : List Int) (k : S46) (n : Nat) : Prop where
 at_ : k.f0 = n
 pos : 1 ≤ n
 lt : n < p.length
 sub : (R_ p n).f2 = false
 over : k.f1 = true → ∀ y ∈ overL p (n : Int), cleanB p (madeS p l) y = true
 after : k.f1 = false → ∀ q ∈ (R_ p n).f7, ∃ m : Nat, q = m ∧ 1 ≤ m ∧ m < p.length ∧ (rd S (m : Int) = 2 ∨ (rd S (m : Int) = 3 ∧ (R_ p m).f2 = true ∧ (R_ p m).f3 = false)) ∧ ∀ v ∈ keysL p l S, v.f0 = m → v.f1 = false
theorem order_at (hf : factsB p l = true) {k : S46} (hk : k ∈ keysL p l S) : ∃ n : Nat, OrderAt p l S k n := by
 obtain ⟨M, hr, hln, hn, h64⟩ := facts_made hf
 obtain ⟨hroot, haft⟩ := right_after hr
 have hsh := (facts_shape hf).2
 have hu := shape_up hsh
 obtain ⟨n, hlt, hm⟩ := keysL_mem hk
 obtain ⟨h1, h2, h3⟩ := keyOne_mem hm
 have hpos : 1 ≤ n := by
  by_cases hz : n = 0
  ·subst hz; rw [hroot] at h2; cases h2
  ·omega
 refine ⟨n, h1, hpos, hlt, h2, fun hk1 y hy => ?_, fun hk1 q hq => ?_⟩
 ·rcases h3 with ⟨h4, -⟩ | ⟨-, -, h5⟩
  ·rw [hk1] at h4; cases h4
  ·unfold undoT at h5
   simp only [Bool.and_eq_true] at h5
   have h6 := h5.2.1
   unfold F.freeT at h6
   have h7 : (overL p (n : Int)).any (soilT p l) = false := by simpa using h6
   have h8 := List.any_eq_false.1 h7 y hy
   unfold soilT at h8
   simpa using h8
 ·rcases h3 with ⟨-, -, -, h5⟩ | ⟨h4, -⟩
  ·rw [reachB_eq hu n hpos hlt] at h5
   simp only [Bool.and_eq_true] at h5
   obtain ⟨-, -, h6, h7⟩ := h5
   obtain ⟨m, hm1, hm2, hm3, hm4⟩ := haft n hlt q hq
   have hst := (itemB_alts (shaped_at hsh hlt)).2.2 q (by rw [← rd_at hlt]; exact hq)
   have h8 : ((rd_T39 p (n : Int)).f7.any (lateB p S)) = false := by simpa using h7
   have h9 := List.any_eq_false.1 h8 q hq
   unfold lateB passedB at h9
   rw [hm1] at h9
   refine ⟨m, hm1, by omega, hm2, ?_, fun v hv hv0 => ?_⟩
   ·cases hs : (rd_T39 p (m : Int)).f2
    ·rw [hs] at h9
     exact .inl (by simpa using h9)
    ·rw [hs] at h9
     have h10 : rd S (m : Int) = 2 ∨ (rd S (m : Int) = 3 ∧ (rd_T39 p (m : Int)).f3 = false) := by
      by_cases h2 : rd S (m : Int) = 2
      ·exact .inl h2
      ·have h9 : ¬rd S (m : Int) = 2 → rd S (m : Int) = 3 ∧ (rd_T39 p (m : Int)).f3 = false := by simpa using h9
       exact .inr (h9 h2)
     rcases h10 with h10 | h10
     ·exact .inl h10
     ·exact .inr ⟨h10.1, rfl, h10.2⟩
   ·obtain ⟨i, hi, hvi⟩ := keysL_mem hv
    obtain ⟨g1, g2, g3⟩ := keyOne_mem hvi
    obtain rfl : i = m := by rw [g1] at hv0; omega
    rcases g3 with ⟨g4, -⟩ | ⟨-, -, g5⟩
    ·exact g4
    ·exfalso
     unfold undoT at g5
     simp only [Bool.and_eq_true] at g5
     have g6 := g5.1.2.2.2
     have e5 : (rd_T39 p (i : Int)).f5 = (rd_T39 p (n : Int)).f5 := hm3
     have e6 : (rd_T39 p (i : Int)).f6 = (rd_T39 p (n : Int)).f6 := hm4
     rw [e5, e6] at g6
     rw [g6] at h6
     cases h6
  ·rw [hk1] at h4; cases h4
end
end Go.Proofs.YtloijngccppfgaaGreat.Pure
end
