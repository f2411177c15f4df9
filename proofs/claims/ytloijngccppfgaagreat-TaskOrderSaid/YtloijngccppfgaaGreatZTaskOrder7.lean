-- Texts of this seat's, joined.
import Derived.Test.YtloijngccppfgaaGreatZTaskOrder1
import Derived.Test.YtloijngccppfgaaGreatZTaskOrder6
import Derived.Test.YtloijngccppfgaaGreatZTaskOrder5
import Derived.BigRegion
import Derived.Deep.RegionHeld2
import Derived.Deep.RegionWith
import Derived.WalkSmall
import Derived.Deep.DeepCutAuto
import Derived.Deep.CutRange
import Derived.Test.YtloijngccppfgaaGreatProg
import Derived.Below
import Derived.Deep.Draws
import Derived.Deep.AppendLies
import Derived.Maps.AppendAt
import Derived.OwnWalk
import Derived.Laws.BytesArg
import Derived.Laws.MakeOwn
import Derived.Laws.OwnMore
import Derived.Deep.OwnRows
import Derived.Tactics
import Derived.Lib.ConvBytes
import Derived.Laws.Slices
import Derived.WalkKit
import Derived.KernelRfl
import Derived.RowKit3
import Derived.Deep.LoopGhost
import Derived.Deep.QuietTactic
import Derived.BigQuiet
import Derived.WideLaws
import Derived.Deep.CutBlock
import Derived.Deep.RegionHeld3
import Derived.Laws.Rows
import Derived.Lib.AppendStr
import Derived.ArgAppend
import Derived.Laws.IdiomCopy
import Derived.OrdersHeld
import Derived.Laws.BitsLemmas
import Derived.RowKit
import Derived.Laws.StructEq
import Derived.Deep.Slices
section
namespace Go.Proofs.YtloijngccppfgaaGreat.F
open Go.RowKit Go.Proofs.YtloijngccppfgaaGreatW.PrintWords Go.Proofs.YtloijngccppfgaaGreatW.PrintLast Go.Proofs.YtloijngccppfgaaGreatW.PrintMore
attribute [local go_sem] max2_int min2_int max_two min_two max_three min_three max_four min_four
set_option linter.unusedVariables false
set_option linter.unusedSimpArgs false
open Go.Proofs.YtloijngccppfgaaGreat.Pure
theorem plan_over_walk (p : List S39) (A : Option Addr) (c : Nat) (w : World) (i : Nat) (hi : i < p.length) (hp : Kd.C k39 w A p.length p) (hc : p.length ≤ c) (hsm : smallP p = true) (hr : rightB p = true) : Calls Tryz.prog 20 #[.agg #[.slice A p.length c], .int .i64 i] w fun e w' => ∃ v, e = .returned v ∧ Kd.R (Kd.int .i64) 3 w' w.heap.size (fun _ => True) v (overL p i) ∧ Below w.heap.size w w' := by
 have HB0 := Aside0.mk (below_alloc (Below.refl w.heap.size w) (.cells #[.slice A p.length c] 24 (0, 0)))
 have HS := Aside0.mk (plan_seen_walk p A c (w.alloc (.cells #[.slice A p.length c] 24 (0, 0))) (Kd.C_below hp HB0.out) hc hsm)
 have HV := Aside0.mk hr
 have HI := Aside0.mk hi
 have HSH : Aside0 (shapedB p = true) := ⟨by unfold rightB at hr; rw [Bool.and_eq_true] at hr; exact hr.1⟩
 clear hp hc hsm hr hi
 go_enter Tryz.func20, Tryz.ntmps20
 go_wp2_with (first
  | (go_at_call 39; refine HS.out.mono ?_; rintro e w2 ⟨r, rfl, hv⟩; obtain ⟨g, rfl, hvw⟩ : ∃ g, r = some g ∧ ViewAt w2 g p A c := (by cases r with | none => (have := hv.2; rw [HV.out] at this; cases this) | some g => exact ⟨g, rfl, hv.2.2.1⟩); have HB2 := Aside0.mk (HB0.out.trans (hv.1.mono HB0.out.size)); have HVW := Aside0.mk hvw; clear hv hvw)
  | (go_at_call 49; refine (over_walk_ HVW.out HSH.out i HI.out).mono ?_; rintro e w3 ⟨v3, rfl, hR, hb⟩; have HR3 := Aside0.mk (Kd.R_lower hR HB2.out.size); have HB3 := Aside0.mk (HB2.out.trans (hb.mono HB2.out.size)); clear hR hb))
 go_ret
 exact ⟨v3, rfl, HR3.out, HB3.out⟩
def itemS (x : S39) : Bool := decide ((x.f0.size : Int) ≤ 200) && (decide ((x.f1.size : Int) ≤ 200) && decide (x.f7.length ≤ 100))
def sm15 (p : List S39) : Bool := (p.take 70).all itemS && decide (p.length ≤ 70)
theorem sm15_small {p : List S39} (h : sm15 p = true) : smallP p = true ∧ p.length ≤ 70 := by
 unfold sm15 at h
 rw [Bool.and_eq_true] at h
 have h70 := of_decide_eq_true h.2
 refine ⟨?_, h70⟩
 have h1 := h.1
 rw [List.take_of_length_le h70] at h1
 unfold smallP
 rw [List.all_eq_true] at h1 ⊢
 intro x hx
 have := h1 x hx
 unfold itemS at this
 simp only [Bool.and_eq_true, decide_eq_true_eq] at this ⊢
 omega
theorem sm15_step {p : List S39} {i : Nat} (h1 : i < p.length) (h2 : i < 70) : ((p.take 70).drop i).all itemS = (itemS (rd_T39 p (i : Int)) && ((p.take 70).drop (i + 1)).all itemS) := by
 have hl : i < (p.take 70).length := by rw [List.length_take]; omega
 rw [List.drop_eq_getElem_cons hl, List.all_cons, rd_item h1, List.getElem_take]
set_option maxHeartbeats 8000000 in
theorem small15_walk (p : List S39) (A : Option Addr) (c : Nat) (w : World) (hp : Kd.C k39 w A p.length p) : Calls Tryz.prog 17 #[.agg #[.slice A p.length c]] w fun e w' => e = .returned (.bool (sm15 p)) ∧ Below w.heap.size w w' := by
 have HP := Aside0.mk hp
 have HM := Aside0.mk (Kd.C_max hp)
 clear hp
 have HB0 := Aside0.mk (below_alloc (Below.refl w.heap.size w) (.cells #[.slice A p.length c] 24 (0, 0)))
 have HG0 := Aside0.mk (blk_new w (.cells #[.slice A p.length c] 24 (0, 0)))
 go_enter Tryz.func17, Tryz.ntmps17
 go_wp2
 go_loopg [3] (70 : Nat) (fun kq v3 w' => ∃ i : Nat, i + kq = 70 ∧ v3 = .int .i64 i ∧ i ≤ p.length ∧ Aside0 (((p.take 70).drop i).all itemS = (p.take 70).all itemS) ∧ Aside0 (Below w.heap.size w w') ∧ Aside0 (w'.heap[w.heap.size]? = some (.cells #[.slice A p.length c] 24 (0, 0))))
 case atStart => exact ⟨0, by omega, rfl, by omega, ⟨by rw [List.drop_zero]⟩, HB0, HG0⟩
 case round =>
  obtain ⟨i, hi, rfl, hip, HI, HB, HG⟩ := hrel
  have hm := HM.out
  have x0 : wr.cell? ⟨w.heap.size, 0, none⟩ = some (.slice A p.length c) := (blk_cell HG.out 0).trans rfl
  by_cases hlt : i < p.length
  ·cases gk with
   | zero =>
    obtain rfl : i = 70 := by omega
    have hl : (((70 : Nat) : Int)) < (p.length : Int) := by omega
    have hle : decide ((p.length : Int) ≤ 70) = false := decide_eq_false (by omega)
    have HE : Aside0 (sm15 p = false) := ⟨by unfold sm15; rw [decide_eq_false (by omega), Bool.and_false]⟩
    go_wp2
    go_ret
    rw [HE.out]
    exact ⟨by simp [hle], HB.out⟩
   | succ d =>
    have h70 : i < 70 := by omega
    have hl0 : (0 : Int) ≤ i := by omega
    have hl1 : (i : Int) < (p.length : Int) := by omega
    have hl2 : (i : Int) < 70 := by omega
    obtain ⟨ai, A9, c9, e1, q0, q1, q2, q3, q4, q5, q6, q7, -, -⟩ := at_T39 (Kd.C_below HP.out HB.out) (i : Int) hl0 hl1
    obtain rfl := e1
    rw [Int.toNat_natCast] at q0 q1 q2 q3 q4 q5 q6 q7
    have HST := Aside0.mk (sm15_step hlt h70)
    have HSM : Aside0 (itemS (rd_T39 p (i : Int)) = false → sm15 p = false) := ⟨fun h => by unfold sm15; rw [← HI.out, HST.out, h, Bool.false_and, Bool.false_and]⟩
    have HI2 := Aside0.mk hi
    have HLT := Aside0.mk hlt
    generalize rd_T39 p (i : Int) = x at q0 q1 q2 q3 q4 q5 q6 q7 HST HSM
    obtain ⟨f0, f1, f2, f3, f4, f5, f6, f7⟩ := x
    dsimp only at q0 q1 q2 q3 q4 q5 q6 q7 HST HSM
    have hmx : wrap64 ((i : Int) + 1) = ((i + 1 : Nat) : Int) := by unfold wrap64; omega
    clear hi hlt h70
    by_cases h1 : (f0.size : Int) > 200
    ·have HE : Aside0 (sm15 p = false) := ⟨HSM.out (by unfold itemS; dsimp only; rw [decide_eq_false (by omega : ¬ (f0.size : Int) ≤ 200)]; rfl)⟩
     go_wp2
     go_ret
     rw [HE.out]
     exact ⟨rfl, below_alloc HB.out _⟩
    ·by_cases h2 : (f1.size : Int) > 200
     ·have HE : Aside0 (sm15 p = false) := ⟨HSM.out (by unfold itemS; dsimp only; rw [decide_eq_false (by omega : ¬ (f1.size : Int) ≤ 200)]; simp)⟩
      go_wp2
      go_ret
      rw [HE.out]
      exact ⟨rfl, below_alloc HB.out _⟩
     ·by_cases h3 : (f7.length : Int) > 100
      ·have HE : Aside0 (sm15 p = false) := ⟨HSM.out (by unfold itemS; dsimp only; rw [decide_eq_false (by omega : ¬ f7.length ≤ 100)]; simp)⟩
       go_wp2
       go_ret
       rw [HE.out]
       exact ⟨rfl, below_alloc HB.out _⟩
      ·have HE : Aside0 (itemS ⟨f0, f1, f2, f3, f4, f5, f6, f7⟩ = true) := ⟨by unfold itemS; dsimp only; rw [decide_eq_true (by omega : (f0.size : Int) ≤ 200), decide_eq_true (by omega : (f1.size : Int) ≤ 200), decide_eq_true (by omega : f7.length ≤ 100)]; rfl⟩
       go_wp2
       go_roundg d
       case measure => omega
       case rel => exact ⟨i + 1, by have := HI2.out; omega, by go_num, by have := HLT.out; omega, ⟨by rw [← HI.out, HST.out, HE.out, Bool.true_and]⟩, ⟨below_alloc HB.out _⟩, ⟨blk_alloc HG.out _⟩⟩
  ·obtain rfl : i = p.length := by omega
   have hl : ¬ (p.length : Int) < (p.length : Int) := by omega
   have HE : Aside0 (sm15 p = decide ((p.length : Int) ≤ 70)) := ⟨by
    unfold sm15
    rw [← HI.out, List.drop_eq_nil_of_le (by rw [List.length_take]; omega)]
    show (true && _) = _
    rw [Bool.true_and]
    exact decide_eq_decide.2 (by omega)⟩
   clear hi hlt hip
   cases hd : decide ((p.length : Int) ≤ 70)
   all_goals
    have HD := Aside0.mk hd
    go_wp2
    go_ret
    rw [HE.out, HD.out]
    exact ⟨rfl, HB.out⟩
theorem cell_drew_ {W : World} {a : Addr} {v : Value} (h : W.cell? a = some v) : W.drew.cell? a = some v := h
theorem is_no {p : List S39} {l : List S50} (hF : factsB p l = true) {m : Int} (h : ∀ v ∈ keysL p l (allB p l (madeS p l)), v.f0 = m → v.f1 = false) (x : Int) : isB p l ⟨m, true, x⟩ = false := by
 unfold isB mayL
 rw [if_pos hF]
 refine List.any_eq_false.2 (fun v hv he => ?_)
 have := keyEq_true he
 subst this
 have h2 := h _ hv rfl
 cases h2
def argosylaw15_TaskOrder.f (k : Nat) (l0_0 : List S39) (l1 : List S50) : Option Bool := some true
set_option maxHeartbeats 16000000 in
set_option maxRecDepth 100000 in
theorem argosylaw15_TaskOrder.calls (k : Nat) (A0_0 : Option Addr) (c0_0 : Nat) (l0_0 : List S39) (A1 : Option Addr) (c1 : Nat) (l1 : List S50) (r : Bool) (w : World) (hr0_0 : Kd.C k39 w A0_0 l0_0.length l0_0) (hc0_0 : l0_0.length ≤ c0_0) (hr1 : Kd.C k50 w A1 l1.length l1) (hc1 : l1.length ≤ c1) (h : argosylaw15_TaskOrder.f k l0_0 l1 = some r) :
  Calls Tryz.prog 5 #[.agg #[.slice A0_0 l0_0.length c0_0], .slice A1 l1.length c1] w fun e w' => e = .returned (.bool r) ∧ Below w.heap.size w w' := by
 obtain rfl := Option.some.inj h
 have HB0 := Aside0.mk (below_alloc (Below.refl w.heap.size w) (.cells #[.slice A0_0 l0_0.length c0_0] 24 (0, 0)))
 have HG0 := Aside0.mk (blk_new w (.cells #[.slice A0_0 l0_0.length c0_0] 24 (0, 0)))
 have HP := Aside0.mk hr0_0
 have HF := Aside0.mk hr1
 have HM1 := Aside0.mk (Kd.C_max hr1)
 have HSM := Aside0.mk (fun (W : World) (hb : Below w.heap.size w W) => small15_walk l0_0 A0_0 c0_0 W (Kd.C_below hr0_0 hb))
 have HLV := Aside0.mk (fun (W : World) => argosylaw15_lives.calls true W rfl)
 clear h
 obtain ⟨b, hb⟩ : ∃ b, sm15 l0_0 = b := ⟨_, rfl⟩
 rw [hb] at HSM
 cases b with
 | false =>
  clear hr0_0 hc0_0 hr1 hc1 hb HP HF
  go_enter Tryz.func5, Tryz.ntmps5
  go_wp2_with (first
   | (go_at_call 17; refine (HSM.out _ HB0.out).mono ?_; rintro e w2 ⟨rfl, hb⟩; have HB2 := Aside0.mk (HB0.out.trans (hb.mono HB0.out.size)); clear hb)
   | (go_at_call 18; refine (HLV.out _).mono ?_; rintro e w3 ⟨rfl, hb⟩; have HB3 := Aside0.mk (HB2.out.trans (hb.mono HB2.out.size)); clear hb))
  go_ret
  exact ⟨rfl, HB3.out⟩
 | true =>
  obtain ⟨hsm, h70⟩ := sm15_small hb
  clear hb
  by_cases hl : (l1.length : Int) > 100
  ·clear hr0_0 hc0_0 hr1 hc1 HP HF hsm h70
   go_enter Tryz.func5, Tryz.ntmps5
   go_wp2_with (first
    | (go_at_call 17; refine (HSM.out _ HB0.out).mono ?_; rintro e w2 ⟨rfl, hb⟩; have HB2 := Aside0.mk (HB0.out.trans (hb.mono HB0.out.size)); clear hb)
    | (go_at_call 18; refine (HLV.out _).mono ?_; rintro e w3 ⟨rfl, hb⟩; have HB3 := Aside0.mk (HB2.out.trans (hb.mono HB2.out.size)); clear hb))
   go_ret
   exact ⟨rfl, HB3.out⟩
  ·have hl2 : l1.length ≤ 100 := by omega
   have hok := small_ok hsm hl2
   have HMY := Aside0.mk (fun (W : World) (hb : Below w.heap.size w W) => task_May.calls A0_0 c0_0 l0_0 A1 c1 l1 (mayL l0_0 l1) W (Kd.C_below hr0_0 hb) hc0_0 (Kd.C_below hr1 hb) hc1 (by unfold task_May.f; rw [if_pos hok]))
   cases hF : factsB l0_0 l1 with
   | false =>
    have HALL := Aside0.mk (fun (W : World) (hb : Below w.heap.size w W) => state_All.calls A0_0 c0_0 l0_0 A1 c1 l1 _ _ W (Kd.C_below hr0_0 hb) hc0_0 (Kd.C_below hr1 hb) hc1 (all_no hsm hl2 hF))
    have HM0 : Aside0 (mayL l0_0 l1 = []) := ⟨by unfold mayL; rw [hF, if_neg (by simp)]⟩
    rw [HM0.out] at HMY
    clear hr0_0 hc0_0 hr1 hc1 HP HF hsm h70 hF hl2 hok
    go_enter Tryz.func5, Tryz.ntmps5
    go_wp2_with (first
     | (go_at_call 17; refine (HSM.out _ HB0.out).mono ?_; rintro e w2 ⟨rfl, hb⟩; have HB2 := Aside0.mk (HB0.out.trans (hb.mono HB0.out.size)); have HG2 := Aside0.mk (blk_below HG0.out hb); clear hb; have x2 : w2.cell? ⟨w.heap.size, 0, none⟩ = some (.slice A0_0 l0_0.length c0_0) := (blk_cell HG2.out 0).trans rfl)
     | (go_at_call 19; refine (HMY.out _ HB2.out).mono ?_; rintro e w3 ⟨v3, rfl, hR, hb⟩; have HB3 := Aside0.mk (HB2.out.trans (hb.mono HB2.out.size)); have HG3 := Aside0.mk (blk_below HG2.out hb); obtain ⟨A3, c3, rfl⟩ := Kd.R_slice hR; clear hb hR; have x3 : w3.cell? ⟨w.heap.size, 0, none⟩ = some (.slice A0_0 l0_0.length c0_0) := (blk_cell HG3.out 0).trans rfl)
     | (go_at_call 12; refine (HALL.out _ HB3.out).mono ?_; rintro e w4 ⟨v4, rfl, hR, hb⟩; have HB4 := Aside0.mk (HB3.out.trans (hb.mono HB3.out.size)); obtain ⟨A4, c4, rfl⟩ := Kd.R_slice hR; clear hb hR)
     | (go_at_call 18; refine (HLV.out _).mono ?_; rintro e w5 ⟨rfl, hb⟩; have HB5 := Aside0.mk (HB4.out.trans (hb.mono HB4.out.size)); clear hb))
    go_ret
    exact ⟨rfl, HB5.out⟩
   | true =>
    obtain ⟨M, hr, hln, hn, h64⟩ := facts_made hF
    have HALL := Aside0.mk (fun (W : World) (hb : Below w.heap.size w W) => state_All.calls A0_0 c0_0 l0_0 A1 c1 l1 _ _ W (Kd.C_below hr0_0 hb) hc0_0 (Kd.C_below hr1 hb) hc1 (all_yes hsm hl2 hF))
    have HOV := Aside0.mk (fun (n : Nat) (hn : n < l0_0.length) (W : World) (hb : Below w.heap.size w W) => plan_over_walk l0_0 A0_0 c0_0 W n hn (Kd.C_below hr0_0 hb) hc0_0 hsm hr)
    have HCL := Aside0.mk (fun (y : Int) (W : World) (hb : Below w.heap.size w W) => state_Clean.calls A0_0 c0_0 l0_0 A1 c1 l1 y (cleanB l0_0 (madeS l0_0 l1) y) W (Kd.C_below hr0_0 hb) hc0_0 (Kd.C_below hr1 hb) hc1 (by unfold state_Clean.f; rw [if_pos hok, if_pos hF]))
    have HIS : Aside0 (∀ (m : Nat) (t : Int), (∀ v ∈ keysL l0_0 l1 (allB l0_0 l1 (madeS l0_0 l1)), v.f0 = m → v.f1 = false) → ∀ W : World, Below w.heap.size w W → Calls Tryz.prog 22 #[.agg #[.slice A0_0 l0_0.length c0_0], .slice A1 l1.length c1, .agg #[.int .i64 m, .bool true, .int .i64 t]] W fun e w' => e = .returned (.bool false) ∧ Below W.heap.size W w') := ⟨fun m t h W hb => by
     have h2 := is_walk A0_0 c0_0 l0_0 A1 c1 l1 ⟨m, true, t⟩ W (Kd.C_below hr0_0 hb) hc0_0 (Kd.C_below hr1 hb) hc1 hok
     rw [is_no hF h t] at h2
     exact h2⟩
    have HOR : Aside0 (∀ k ∈ mayL l0_0 l1, ∃ n, OrderAt l0_0 l1 (allB l0_0 l1 (madeS l0_0 l1)) k n) := ⟨fun k hk => order_at hF (by unfold mayL at hk; rwa [if_pos hF] at hk)⟩
    have HLN := Aside0.mk (allB_len l0_0 l1 (madeS l0_0 l1))
    have HFL := Aside0.mk hln
    have H64 := Aside0.mk h64
    generalize mayL l0_0 l1 = x at HMY HOR
    generalize allB l0_0 l1 (madeS l0_0 l1) = S at HALL HOR HLN HIS
    clear hr0_0 hc0_0 hr1 hc1 hsm h70 hF hl2 hok hr hln hn h64
    go_enter Tryz.func5, Tryz.ntmps5
    go_wp2_with (first
     | (go_at_call 17; refine (HSM.out _ HB0.out).mono ?_; rintro e w2 ⟨rfl, hb⟩; have HB2 := Aside0.mk (HB0.out.trans (hb.mono HB0.out.size)); have HG2 := Aside0.mk (blk_below HG0.out hb); clear hb; have x2 : w2.cell? ⟨w.heap.size, 0, none⟩ = some (.slice A0_0 l0_0.length c0_0) := (blk_cell HG2.out 0).trans rfl)
     | (go_at_call 19; refine (HMY.out _ HB2.out).mono ?_; rintro e w3 ⟨v3, rfl, hR, hb⟩; have HB3 := Aside0.mk (HB2.out.trans (hb.mono HB2.out.size)); have HG3 := Aside0.mk (blk_below HG2.out hb); obtain ⟨A3, c3, rfl⟩ := Kd.R_slice hR; have HX3 := Aside0.mk (Kd.R_reads' hR).2.2; clear hb hR; have x3 : w3.cell? ⟨w.heap.size, 0, none⟩ = some (.slice A0_0 l0_0.length c0_0) := (blk_cell HG3.out 0).trans rfl)
     | (go_at_call 12; refine (HALL.out _ HB3.out).mono ?_; rintro e w4 ⟨v4, rfl, hR, hb⟩; have HB4 := Aside0.mk (HB3.out.trans (hb.mono HB3.out.size)); have HG4 := Aside0.mk (blk_below HG3.out hb); obtain ⟨A4, c4, rfl⟩ := Kd.R_slice hR; have HX4 := Aside0.mk (Kd.C_below HX3.out hb); have HS4 := Aside0.mk (Kd.R_reads' hR).2.2; rw [HLN.out]; clear hb hR x2 x3))
    have HMX := Aside0.mk (Kd.C_max HX4.out)
    go_loopg [8] x.length (fun kq v8 w' => ∃ i : Nat, i + kq = x.length ∧ v8 = .int .i64 i ∧ Aside0 (Below w4.heap.size w4 w'))
    case atStart => exact ⟨0, by omega, rfl, ⟨Below.refl _ _⟩⟩
    case round =>
     obtain ⟨i, hi, rfl, HB⟩ := hrel
     have HBw := Aside0.mk (HB4.out.trans (HB.out.mono HB4.out.size))
     cases gk with
     | zero =>
      obtain rfl : i = x.length := by omega
      go_wp2_with (go_at_call 18; refine (HLV.out _).mono ?_; rintro e w5 ⟨rfl, hb⟩; have HB5 := Aside0.mk (HBw.out.trans (hb.mono HBw.out.size)); clear hb)
      go_ret
      exact ⟨rfl, HB5.out⟩
     | succ d =>
      have hlt : i < x.length := by omega
      obtain ⟨n, ho⟩ := HOR.out x[i] (List.getElem_mem hlt)
      have hrd : rd_T46 x (i : Int) = x[i] := by unfold rd_T46; rw [Int.toNat_natCast, List.getD_eq_getElem?_getD, List.getElem?_eq_getElem hlt]; rfl
      rw [← hrd] at ho
      have hii : (i : Int) < (x.length : Int) := by omega
      have hi0 : (0 : Int) ≤ i := by omega
      obtain ⟨ak, ek, k0, k1, k2⟩ := at_T46 (Kd.C_below HX4.out HB.out) (i : Int) hi0 hii
      obtain rfl := ek
      rw [Int.toNat_natCast] at k0 k1 k2
      generalize rd_T46 x (i : Int) = u at ho k0 k1 k2
      obtain ⟨u0, u1, u2⟩ := u
      have h1 := ho.pos
      have h2 := ho.lt
      have h3 := ho.sub
      obtain rfl : u0 = n := ho.at_
      have HO := Aside0.mk ho
      dsimp only at k0 k1 k2
      have hn1 : ¬ (n : Int) < 1 := by omega
      have hn2 : ¬ (n : Int) ≥ (l0_0.length : Int) := by omega
      have hn3 : (n : Int) < (l0_0.length : Int) := by omega
      have hn0 : (0 : Int) ≤ n := by omega
      have HNL := Aside0.mk h2
      have HI2 := Aside0.mk hi
      have HSB := Aside0.mk h3
      have hmx : wrap64 ((i : Int) + 1) = ((i + 1 : Nat) : Int) := by have := HMX.out; unfold wrap64; omega
      have HWI := Aside0.mk hmx
      clear ho h1 h2 h3 hrd hlt hi hmx
      go_upto_region 11 with (fail)
      refine at_letter_ (fun X => Aside0 (Below w4.heap.size w4 X) ∧ Aside0 (X.heap[w.heap.size]? = some (.cells #[.slice A0_0 l0_0.length c0_0] 24 (0, 0))) ∧ Aside0 (X.heap[wr.heap.size]? = some (keyO ⟨n, u1, u2⟩))) ⟨⟨below_alloc HB.out _⟩, ⟨blk_alloc (blk_below HG4.out HB.out) _⟩, ⟨blk_new _ _⟩⟩ (fun X ⟨HBX, HGX, HKX⟩ => ?_)
      clear k0 k1 k2
      have HKL : Aside0 (w4.heap.size ≤ wr.heap.size) := ⟨HB.out.size⟩
      generalize wr.heap.size = gq at HKX HKL ⊢
      have HBv := Aside0.mk (HB4.out.trans (HBX.out.mono HB4.out.size))
      have x0 : X.cell? ⟨w.heap.size, 0, none⟩ = some (.slice A0_0 l0_0.length c0_0) := (blk_cell HGX.out 0).trans rfl
      have y0 : X.cell? ⟨gq, 0, none⟩ = some (.int .i64 n) := (blk_cell HKX.out 0).trans rfl
      have y1 : X.cell? ⟨gq, 1, none⟩ = some (.bool u1) := (blk_cell HKX.out 1).trans rfl
      obtain ⟨ai, A9, c9, e1, q0, q1, q2, q3, q4, q5, q6, q7, hc9, hC9⟩ := at_T39 (Kd.C_below HP.out HBv.out) (n : Int) hn0 hn3
      obtain rfl := e1
      rw [Int.toNat_natCast] at q2 q7
      have HC9 := Aside0.mk hC9
      have q2' : X.cell? ⟨(ai.add (n * 8)).block, (ai.add (n * 8)).off + 2, none⟩ = some (.bool false) := q2.trans (by rw [show (rd_T39 l0_0 (n : Int)).f2 = false from HSB.out])
      clear q0 q1 q2 q3 q4 q5 q6 hC9 hc9
      cases u1 with
      | true =>
       clear q7
       have HCN := Aside0.mk (HO.out.over rfl)
       go_wp2_with (go_at_call 20; refine (HOV.out n HNL.out _ HBv.out).mono ?_; rintro e w6 ⟨v6, rfl, hR, hb⟩; have HB6 := Aside0.mk (HBX.out.trans (hb.mono HBX.out.size)); have HG6 := Aside0.mk (blk_below HGX.out hb); obtain ⟨A6, c6, rfl⟩ := Kd.R_slice hR; have HY6 := Aside0.mk (Kd.R_reads' hR).2.2; clear hb hR x0 y0 y1 q2')
       generalize overL l0_0 (n : Int) = y at HCN HY6 ⊢
       have HYM := Aside0.mk (Kd.C_max HY6.out)
       go_loopg [11] y.length (fun kq v11 w' => ∃ j : Nat, j + kq = y.length ∧ v11 = .int .i64 j ∧ Aside0 (Below w6.heap.size w6 w'))
       case atStart => exact ⟨0, by omega, rfl, ⟨Below.refl _ _⟩⟩
       case round =>
        obtain ⟨j, hj, rfl, HBJ⟩ := hrel
        have HBq := Aside0.mk (HB6.out.trans (HBJ.out.mono HB6.out.size))
        have HBs := Aside0.mk (HB4.out.trans (HBq.out.mono HB4.out.size))
        cases gk with
        | zero =>
         obtain rfl : j = y.length := by omega
         go_wp2
         go_roundg d
         case measure => omega
         case rel => exact ⟨i + 1, by have := HI2.out; omega, by rw [HWI.out], HBq⟩
        | succ e =>
         have hjl : j < y.length := by omega
         have hji : (j : Int) < (y.length : Int) := by omega
         have hj0 : (0 : Int) ≤ j := by omega
         obtain ⟨ay, ey, z0⟩ := Kd.at_int (Kd.C_below HY6.out HBJ.out) (j : Int) hj0 hji
         have hry : rd y (j : Int) = y[j] := by unfold rd; rw [Int.toNat_natCast, List.getD_eq_getElem?_getD, List.getElem?_eq_getElem hjl]; rfl
         rw [hry, Int.toNat_natCast] at z0
         obtain rfl := ey
         have HCC := Aside0.mk (HCL.out y[j] wr.drew (below_drewN HBs.out 1))
         rw [HCN.out y[j] (List.getElem_mem hjl)] at HCC
         generalize y[j] = t at z0 HCC
         have x0 : wr.cell? ⟨w.heap.size, 0, none⟩ = some (.slice (some ai) l0_0.length c0_0) := (blk_cell (blk_below HG6.out HBJ.out) 0).trans rfl
         have hmj : wrap64 ((j : Int) + 1) = ((j + 1 : Nat) : Int) := by have := HYM.out; unfold wrap64; omega
         have HJ2 := Aside0.mk hj
         clear hry hjl hj
         go_upto_region 18 with (fail)
         go_region_with (go_at_call 21; refine HCC.out.mono ?_; rintro e w8 ⟨rfl, hb⟩; have HB8 := Aside0.mk ((below_drewN HBJ.out 1).trans (hb.mono (below_drewN HBJ.out 1).size)); clear hb)
         all_goals
          go_wp2
          go_roundg e
          case measure => omega
          case rel => exact ⟨j + 1, by have := HJ2.out; omega, by go_num, HB8⟩
      | false =>
       have HAF := Aside0.mk (HO.out.after rfl)
       go_upto_region 21 with (fail)
       generalize hal : (rd_T39 l0_0 (n : Int)).f7 = y at HC9 q7 ⊢
       have HAF2 : Aside0 (∀ q ∈ y, ∃ m : Nat, q = m ∧ 1 ≤ m ∧ m < l0_0.length ∧ (rd S (m : Int) = 2 ∨ (rd S (m : Int) = 3 ∧ (R_ l0_0 m).f2 = true ∧ (R_ l0_0 m).f3 = false)) ∧ ∀ v ∈ keysL l0_0 l1 S, v.f0 = m → v.f1 = false) := ⟨by rw [← hal]; exact HAF.out⟩
       clear HAF hal x0 y0 y1 q2' q7
       have HYM := Aside0.mk (Kd.C_max HC9.out)
       go_wp2
       go_loopg [13] y.length (fun kq v13 w' => ∃ j : Nat, j + kq = y.length ∧ v13 = .int .i64 j ∧ Aside0 (Below X.heap.size X w'))
       case atStart => exact ⟨0, by omega, rfl, ⟨Below.refl _ _⟩⟩
       case round =>
        obtain ⟨j, hj, rfl, HBJ⟩ := hrel
        have HBq := Aside0.mk (HBX.out.trans (HBJ.out.mono HBX.out.size))
        have HBs := Aside0.mk (HB4.out.trans (HBq.out.mono HB4.out.size))
        cases gk with
        | zero =>
         obtain rfl : j = y.length := by omega
         go_wp2
         go_roundg d
         case measure => omega
         case rel => exact ⟨i + 1, by have := HI2.out; omega, by rw [HWI.out], HBq⟩
        | succ e =>
         have hjl : j < y.length := by omega
         have hji : (j : Int) < (y.length : Int) := by omega
         have hj0 : (0 : Int) ≤ j := by omega
         obtain ⟨ay, ey, z0⟩ := Kd.at_int (Kd.C_below HC9.out HBJ.out) (j : Int) hj0 hji
         have hry : rd y (j : Int) = y[j] := by unfold rd; rw [Int.toNat_natCast, List.getD_eq_getElem?_getD, List.getElem?_eq_getElem hjl]; rfl
         obtain ⟨m, hm, hm1, hm2, hst, hno⟩ := HAF2.out y[j] (List.getElem_mem hjl)
         rw [hry, hm, Int.toNat_natCast] at z0
         obtain rfl := ey
         have hm3 : ¬ (m : Int) < 1 := by omega
         have hm4 : ¬ (m : Int) ≥ (l0_0.length : Int) := by omega
         have hm5 : (m : Int) < (l0_0.length : Int) := by omega
         have hm0 : (0 : Int) ≤ m := by omega
         have hmj : wrap64 ((j : Int) + 1) = ((j + 1 : Nat) : Int) := by have := HYM.out; unfold wrap64; omega
         have HMJ := Aside0.mk hmj
         have HJ2 := Aside0.mk hj
         have HST := Aside0.mk hst
         have HNO := Aside0.mk hno
         have hmf : (m : Int) < (l1.length : Int) := by have := HFL.out; omega
         obtain ⟨af, ef, g0, g1, g2, g3⟩ := at_T50 (Kd.C_below HF.out HBs.out) (m : Int) hm0 hmf
         obtain rfl := ef
         obtain ⟨as_, es, s0⟩ := Kd.at_int (Kd.C_below HS4.out HBq.out) (m : Int) hm0 (by rw [HLN.out]; exact hm5)
         obtain rfl := es
         obtain ⟨aj, A5, c5, e5, q0, q1, q2, q3, q4, q5, q6, q7, -, -⟩ := at_T39 (Kd.C_below HP.out HBs.out) (m : Int) hm0 hm5
         obtain rfl := Option.some.inj e5
         rw [Int.toNat_natCast] at g2 s0 q0 q1 q2 q3 q4 q5 q6 q7
         have x0 : wr.cell? ⟨w.heap.size, 0, none⟩ = some (.slice (some ai) l0_0.length c0_0) := (blk_cell (blk_below HGX.out HBJ.out) 0).trans rfl
         obtain ⟨t2, ht2⟩ : ∃ t, (rd_T50 l1 (m : Int)).f2 = t := ⟨_, rfl⟩
         obtain ⟨sm, hsm⟩ : ∃ t, rd S (m : Int) = t := ⟨_, rfl⟩
         rw [ht2] at g2
         rw [hsm] at s0 HST
         clear ht2 hsm g0 g1 g3 hry hm hm1 hm2 hst hno hjl hj hmj
         have HST3 : Aside0 (sm = 2 ∨ (sm = 3 ∧ (rd_T39 l0_0 (m : Int)).f2 = true ∧ (rd_T39 l0_0 (m : Int)).f3 = false)) := HST
         clear HST
         generalize rd_T39 l0_0 (m : Int) = u at q0 q1 q2 q3 q4 q5 q6 q7 HST3
         obtain ⟨f0, f1, f2, f3, f4, f5, f6, f7⟩ := u
         dsimp only at q0 q1 q2 q3 q4 q5 q6 q7 HST3
         go_upto_region 26 with (fail)
         go_region_held3 (fun w' => w'.cell? ⟨w.heap.size, 0, none⟩ = some (.slice (some ai) l0_0.length c0_0) ∧ w'.cell? (ay.add j) = some (.int .i64 m) ∧ w'.cell? (ai.add (m * 8)) = some (.string f0) ∧ w'.cell? ⟨(ai.add (m * 8)).block, (ai.add (m * 8)).off + 1, none⟩ = some (.string f1) ∧ w'.cell? ⟨(ai.add (m * 8)).block, (ai.add (m * 8)).off + 2, none⟩ = some (.bool f2) ∧ w'.cell? ⟨(ai.add (m * 8)).block, (ai.add (m * 8)).off + 3, none⟩ = some (.bool f3) ∧ w'.cell? ⟨(ai.add (m * 8)).block, (ai.add (m * 8)).off + 4, none⟩ = some (.int .i64 f4) ∧ w'.cell? ⟨(ai.add (m * 8)).block, (ai.add (m * 8)).off + 5, none⟩ = some (.int .i64 f5) ∧ w'.cell? ⟨(ai.add (m * 8)).block, (ai.add (m * 8)).off + 6, none⟩ = some (.int .i64 f6) ∧ w'.cell? ⟨(ai.add (m * 8)).block, (ai.add (m * 8)).off + 7, none⟩ = some (.slice A5 f7.length c5)) (first | assumption | exact ⟨x0, z0, q0, q1, q2, q3, q4, q5, q6, q7⟩ | go_keep) (fail)
         go_upto_region 27 with (fail)
         refine at_letter_ (fun Y => Aside0 (Below wr.heap.size wr Y) ∧ Aside0 (Y.heap[wr.heap.size]? = some (.cells #[.string f0, .string f1, .bool f2, .bool f3, .int .i64 f4, .int .i64 f5, .int .i64 f6, .slice A5 f7.length c5] 39 (0, 0)))) ⟨⟨(below_alloc (Below.refl _ _) _).drew⟩, ⟨blk_drew (blk_new _ _)⟩⟩ (fun Y ⟨HBY, HIY⟩ => ?_)
         have X0 := Aside0.mk (cell_drew_ (cell_bel HBY.out x0))
         have Z0 := Aside0.mk (cell_drew_ (cell_bel HBY.out z0))
         have S0 := Aside0.mk (cell_drew_ (cell_bel HBY.out s0))
         have G2 := Aside0.mk (cell_drew_ (cell_bel HBY.out g2))
         have I2 : Aside0 (Y.drew.cell? ⟨wr.heap.size, 2, none⟩ = some (.bool f2)) := ⟨(blk_cell (blk_drew HIY.out) 2).trans rfl⟩
         have I3 : Aside0 (Y.drew.cell? ⟨wr.heap.size, 3, none⟩ = some (.bool f3)) := ⟨(blk_cell (blk_drew HIY.out) 3).trans rfl⟩
         have HBZ := Aside0.mk (HBs.out.trans (HBY.out.mono HBs.out.size))
         have HBYJ := Aside0.mk (HBJ.out.trans (HBY.out.mono HBJ.out.size))
         clear x0 z0 s0 g2 q0 q1 q2 q3 q4 q5 q6 q7
         rcases HST3.out with hA | ⟨hA, hB, hC⟩
         ·subst hA
          refine start_ (n := 45) (S := fun w' => w'.cell? ⟨w.heap.size, 0, none⟩ = some (.slice (some ai) l0_0.length c0_0) ∧ w'.cell? (ay.add j) = some (.int .i64 m) ∧ w'.cell? (as_.add m) = some (.int .i64 2) ∧ w'.cell? ⟨(af.add (m * 4)).block, (af.add (m * 4)).off + 2, none⟩ = some (.int .i64 t2)) (ds := []) #[false, false, false, false, false, false, false, false, false, false, false, false, false, false, false, false, false, false, false, false, false, false, false, false, false, false, false, false, false, false, false, false, false, false, false, false, false, false, false, false, false, false, false, false, false] (by kernel_rfl) rfl rfl ⟨X0.out, Z0.out, S0.out, G2.out⟩ (fun hHeld => ?_)
          refine ws_ 2 #[true, true, true, true, true, true, true, true, true, true, true, true, true, true, true, true, true, true, true, true, true, true, true, true, true, true, true, true, true, true, true, true, true, true, true, true, true, true, true, true, true, true, true, false, false] [(0, false, some 125), (1, false, some 126), (2, false, some 127), (3, false, some 128), (4, true, some 129), (5, false, some 130), (6, true, some 131), (7, false, some 132), (8, false, some 133), (9, false, some 134), (10, false, some 135), (11, false, some 136), (12, false, some 137), (13, false, some 138), (14, false, some 139), (15, false, some 140), (16, false, some 141), (17, false, some 142), (18, false, some 143), (19, false, some 144), (20, false, some 145), (21, false, some 146), (22, false, some 147), (23, false, some 148), (24, false, some 149), (25, false, some 150), (26, false, some 151), (27, false, some 152), (29, false, some 154), (30, false, some 155), (31, false, some 156), (32, false, some 157), (34, false, some 159), (35, false, some 160), (36, false, some 161), (37, false, some 162), (28, true, some 153), (33, true, some 158), (38, true, some 163), (39, false, some 164), (40, false, some 165), (41, true, some 166), (42, false, some 167)] (by kernel_rfl) rfl ?_
          repeat (first | (refine ws_pure (v := ?_) (a' := ?_) rfl rfl (fun _ _ _ h => h) (Or.inl ⟨by rfl, ?_⟩) ?_ ?_; rotate_left; (focus intro w'; go_simp; with_reducible rfl); rotate_left; (focus simp only [Act.put, List.setIfInBounds_toArray, List.set_cons_zero, List.set_cons_succ, i64_w, i32_w]; rfl)) | (refine ws_take (v := ?_) (a' := ?_) rfl rfl (fun _ _ _ h => h) (Or.inl ⟨by rfl, ?_⟩) hHeld ?_ ?_; rotate_left; (focus rintro w' ⟨s0, s1, s2, s3⟩; go_simp; with_reducible rfl); rotate_left; (focus simp only [Act.put, List.setIfInBounds_toArray, List.set_cons_zero, List.set_cons_succ, i64_w, i32_w]; rfl)) | (refine ws_pure (v := undef) (a' := ?_) rfl rfl (fun _ _ _ h => h) (Or.inr ⟨by rfl, rfl⟩) ?_ ?_; rotate_left; (focus simp only [Act.put, List.setIfInBounds_toArray, List.set_cons_zero, List.set_cons_succ, i64_w, i32_w]; rfl)))
          refine ws_nil ?_
          refine one_ (i := 43) (N := some 168) #[true, true, true, true, true, true, true, true, true, true, true, true, true, true, true, true, true, true, true, true, true, true, true, true, true, true, true, true, true, true, true, true, true, true, true, true, true, true, true, true, true, true, true, true, false] rfl rfl (by kernel_rfl) (by decide) (fun K hK => ?_)
          refine goes_ Tryz.func22 (by kernel_rfl) rfl #[.agg #[.slice (some ai) l0_0.length c0_0], .slice (some af) l1.length c1, .agg #[.int .i64 m, .bool true, .int .i64 t2]] (by rfl) rfl rfl (by simp only [List.map_toArray, List.map_cons, List.map_nil]; rfl) ?_
          with_reducible refine (HIS.out m t2 HNO.out _ HBZ.out.drew).mono ?_
          rintro e w9 ⟨rfl, hb⟩
          refine ⟨_, rfl, ?_⟩
          have HB9 := Aside0.mk (HBYJ.out.drew.trans (hb.mono HBYJ.out.drew.size))
          have HBK := Aside0.mk hb
          clear hb
          refine hK.out _ _ ⟨(cell_bel HBK.out X0.out), (cell_bel HBK.out Z0.out), (cell_bel HBK.out S0.out), (cell_bel HBK.out G2.out)⟩ (fun hHeld => ?_)
          clear hK K
          refine norm_ (a' := ?_) ?_ ?_
          rotate_left
          ·show Act.put _ (some 168) _ = _
           simp only [Act.put, List.setIfInBounds_toArray, List.set_cons_zero, List.set_cons_succ, i64_w, i32_w]
           rfl
          refine pure_ (i := 44) (N := some 169) (v := ?_) (a' := ?_) #[true, true, true, true, true, true, true, true, true, true, true, true, true, true, true, true, true, true, true, true, true, true, true, true, true, true, true, true, true, true, true, true, true, true, true, true, true, true, true, true, true, true, true, true, true] rfl rfl (by kernel_rfl) (fun _ _ _ h => h) (Or.inl ⟨by rfl, ?_⟩) ?_ ?_
          rotate_left
          ·intro w'
           go_simp
           with_reducible rfl
          rotate_left
          ·simp only [Act.put, List.setIfInBounds_toArray, List.set_cons_zero, List.set_cons_succ, i64_w, i32_w]
           rfl
          refine done_ (by kernel_rfl) ?_
          go_wp2
          go_roundg e
          case measure => omega
          case rel => exact ⟨j + 1, by have := HJ2.out; omega, by rw [HMJ.out], HB9⟩
         ·subst hA hB hC
          refine start_ (n := 45) (S := fun w' => w'.cell? ⟨w.heap.size, 0, none⟩ = some (.slice (some ai) l0_0.length c0_0) ∧ w'.cell? (ay.add j) = some (.int .i64 m) ∧ w'.cell? (as_.add m) = some (.int .i64 3) ∧ w'.cell? ⟨(af.add (m * 4)).block, (af.add (m * 4)).off + 2, none⟩ = some (.int .i64 t2) ∧ w'.cell? ⟨wr.heap.size, 2, none⟩ = some (.bool true) ∧ w'.cell? ⟨wr.heap.size, 3, none⟩ = some (.bool false)) (ds := []) #[false, false, false, false, false, false, false, false, false, false, false, false, false, false, false, false, false, false, false, false, false, false, false, false, false, false, false, false, false, false, false, false, false, false, false, false, false, false, false, false, false, false, false, false, false] (by kernel_rfl) rfl rfl ⟨X0.out, Z0.out, S0.out, G2.out, I2.out, I3.out⟩ (fun hHeld => ?_)
          refine ws_ 2 #[true, true, true, true, true, true, true, true, true, true, true, true, true, true, true, true, true, true, true, true, true, true, true, true, true, true, true, true, true, true, true, true, true, true, true, true, true, true, true, true, true, true, true, false, false] [(0, false, some 125), (1, false, some 126), (2, false, some 127), (3, false, some 128), (4, true, some 129), (5, false, some 130), (6, true, some 131), (7, false, some 132), (8, false, some 133), (9, false, some 134), (10, false, some 135), (11, false, some 136), (12, false, some 137), (13, true, some 138), (14, false, some 139), (15, true, some 140), (16, false, some 141), (17, false, some 142), (18, false, some 143), (19, true, some 144), (20, false, some 145), (21, false, some 146), (22, false, some 147), (23, false, some 148), (24, true, some 149), (25, false, some 150), (26, false, some 151), (27, false, some 152), (29, false, some 154), (30, false, some 155), (31, false, some 156), (32, false, some 157), (34, false, some 159), (35, false, some 160), (36, false, some 161), (37, false, some 162), (28, true, some 153), (33, true, some 158), (38, true, some 163), (39, false, some 164), (40, false, some 165), (41, true, some 166), (42, false, some 167)] (by kernel_rfl) rfl ?_
          repeat (first | (refine ws_pure (v := ?_) (a' := ?_) rfl rfl (fun _ _ _ h => h) (Or.inl ⟨by rfl, ?_⟩) ?_ ?_; rotate_left; (focus intro w'; go_simp; with_reducible rfl); rotate_left; (focus simp only [Act.put, List.setIfInBounds_toArray, List.set_cons_zero, List.set_cons_succ, i64_w, i32_w]; rfl)) | (refine ws_take (v := ?_) (a' := ?_) rfl rfl (fun _ _ _ h => h) (Or.inl ⟨by rfl, ?_⟩) hHeld ?_ ?_; rotate_left; (focus rintro w' ⟨s0, s1, s2, s3, s4, s5⟩; go_simp; with_reducible rfl); rotate_left; (focus simp only [Act.put, List.setIfInBounds_toArray, List.set_cons_zero, List.set_cons_succ, i64_w, i32_w]; rfl)))
          refine ws_nil ?_
          refine one_ (i := 43) (N := some 168) #[true, true, true, true, true, true, true, true, true, true, true, true, true, true, true, true, true, true, true, true, true, true, true, true, true, true, true, true, true, true, true, true, true, true, true, true, true, true, true, true, true, true, true, true, false] rfl rfl (by kernel_rfl) (by decide) (fun K hK => ?_)
          refine goes_ Tryz.func22 (by kernel_rfl) rfl #[.agg #[.slice (some ai) l0_0.length c0_0], .slice (some af) l1.length c1, .agg #[.int .i64 m, .bool true, .int .i64 t2]] (by rfl) rfl rfl (by simp only [List.map_toArray, List.map_cons, List.map_nil]; rfl) ?_
          with_reducible refine (HIS.out m t2 HNO.out _ HBZ.out.drew).mono ?_
          rintro e w9 ⟨rfl, hb⟩
          refine ⟨_, rfl, ?_⟩
          have HB9 := Aside0.mk (HBYJ.out.drew.trans (hb.mono HBYJ.out.drew.size))
          have HBK := Aside0.mk hb
          clear hb
          refine hK.out _ _ ⟨(cell_bel HBK.out X0.out), (cell_bel HBK.out Z0.out), (cell_bel HBK.out S0.out), (cell_bel HBK.out G2.out), (cell_bel HBK.out I2.out), (cell_bel HBK.out I3.out)⟩ (fun hHeld => ?_)
          clear hK K
          refine norm_ (a' := ?_) ?_ ?_
          rotate_left
          ·show Act.put _ (some 168) _ = _
           simp only [Act.put, List.setIfInBounds_toArray, List.set_cons_zero, List.set_cons_succ, i64_w, i32_w]
           rfl
          refine pure_ (i := 44) (N := some 169) (v := ?_) (a' := ?_) #[true, true, true, true, true, true, true, true, true, true, true, true, true, true, true, true, true, true, true, true, true, true, true, true, true, true, true, true, true, true, true, true, true, true, true, true, true, true, true, true, true, true, true, true, true] rfl rfl (by kernel_rfl) (fun _ _ _ h => h) (Or.inl ⟨by rfl, ?_⟩) ?_ ?_
          rotate_left
          ·intro w'
           go_simp
           with_reducible rfl
          rotate_left
          ·simp only [Act.put, List.setIfInBounds_toArray, List.set_cons_zero, List.set_cons_succ, i64_w, i32_w]
           rfl
          refine done_ (by kernel_rfl) ?_
          go_wp2
          go_roundg e
          case measure => omega
          case rel => exact ⟨j + 1, by have := HJ2.out; omega, by rw [HMJ.out], HB9⟩
end Go.Proofs.YtloijngccppfgaaGreat.F
end

section
namespace Go.Proofs.YtloijngccppfgaaGreat.F
open Go.RowKit Go.Proofs.YtloijngccppfgaaGreatW.PrintWords Go.Proofs.YtloijngccppfgaaGreatW.PrintLast Go.Proofs.YtloijngccppfgaaGreatW.PrintMore
open Go.RowKit Go.Deep
section
variable {α β : Type}
structure Opens (P : Program) (t : TypeId) (d : Kd α) (V : α → Prop) : Prop where
 out : ∀ {H : Type} (enc : TypeId × Value → H) (w : World) (base : Nat) (spare : Nat → Bool) (held : Bool) (fuel : Nat) (cs : List Value) (r : DataW H × List MemPlace),
  DataW.trod enc P w base spare held fuel t cs = some r → ∃ x, d.K w x cs ∧ V x
theorem opens_int {P : Program} {t : TypeId} {k : IntKind} (ht : P.underlying t = some (.int k)) : Opens P t (Kd.int k) (fun n => (Lit.int k n).wf = true) := by
 constructor
 intro H enc w base spare held fuel cs r h
 obtain ⟨x, rfl, _, hw⟩ := DataW.trod_int ht h
 exact ⟨x, rfl, hw⟩
theorem opens_bool {P : Program} {t : TypeId} (ht : P.underlying t = some .bool) : Opens P t Kd.bool (fun _ => True) := by
 constructor
 intro H enc w base spare held fuel cs r h
 obtain ⟨x, rfl, _⟩ := DataW.trod_bool ht h
 exact ⟨x, rfl, trivial⟩
theorem opens_string {P : Program} {t : TypeId} (ht : P.underlying t = some .string) : Opens P t Kd.string (fun s => s.size ≤ maxLen) := by
 constructor
 intro H enc w base spare held fuel cs r h
 obtain ⟨x, rfl, _, hm⟩ := DataW.trod_string ht h
 exact ⟨x, rfl, hm⟩
theorem opens_iso {P : Program} {t : TypeId} {d : Kd α} {V : α → Prop} (f : β → α) (g : α → β) (hg : ∀ y, f (g y) = y) (h : Opens P t d V) : Opens P t (Kd.iso d f) (fun x => V (f x)) := by
 constructor
 intro H enc w base spare held fuel cs r hr
 obtain ⟨x, hk, hv⟩ := h.out enc w base spare held fuel cs r hr
 exact ⟨g x, by show d.K w (f (g x)) cs; rw [hg]; exact hk, by show V (f (g x)); rw [hg]; exact hv⟩
theorem add_add_ (a : Addr) (i j : Nat) : (a.add i).add j = a.add (i + j) := by
 unfold Addr.add
 by_cases hi : i = 0 <;> by_cases hj : j = 0 <;> simp [hi, hj, Nat.add_assoc]
theorem opens_slice {P : Program} {t e : TypeId} {d : Kd α} {V : α → Prop} (z : α) (ht : P.underlying t = some (.slice e)) (hc : P.cellsOf e = d.sz) (h : Opens P e d V) :
  Opens P t (Kd.slice e d) (fun xs => xs.length ≤ maxLen ∧ ∀ x ∈ xs, V x) := by
 constructor
 intro H enc w base spare held fuel cs r hr
 haveI : Inhabited α := ⟨z⟩
 rcases open_slice ht hr with ⟨rfl, _⟩ | ⟨a, len, cap, m, n, D, Pl, rfl, hb, hl, hm, hmm, _, hx⟩
 ·exact ⟨[], ⟨none, 0, rfl, Nat.le_refl _, Kd.C_nil d w⟩, Nat.zero_le _, fun x hx => by cases hx⟩
 ·have hlm : len ≤ m := by rw [hmm]; split <;> omega
  obtain ⟨f, hf⟩ := choose_lt (n := len) (p := fun i x => ∃ c, c.length = d.sz ∧ d.K w x c ∧ V x ∧ ∀ j u, c[j]? = some u → w.cell? (a.add (i * d.sz + j)) = some u) (fun i hi => by
   obtain ⟨cs', h1, h2⟩ := hx i (by omega)
   obtain ⟨x, hk, hv⟩ := h.out enc w base spare held n cs' _ h2
   obtain ⟨_, hl', hcell⟩ := World.cells?_some h1
   rw [hc] at hl' hcell
   refine ⟨x, cs', hl', hk, hv, fun j u hu => ?_⟩
   have hj : j < d.sz := by
    rcases Nat.lt_or_ge j d.sz with hj | hj
    ·exact hj
    ·rw [List.getElem?_eq_none (by omega)] at hu; cases hu
   have := hcell j hj
   rw [add_add_] at this
   rw [this, hu])
  have hlen : ((List.range len).map f).length = len := by simp
  refine ⟨(List.range len).map f, ⟨some a, cap, by rw [hlen], by rw [hlen]; exact hl, ?_⟩, by rw [hlen]; omega, ?_⟩
  ·rw [hlen]
   refine ⟨hlen, ?_, fun _ => ⟨a, rfl, fun j p hp => ?_⟩⟩
   ·unfold maxLen at hm; omega
   ·have hj : j < len := by
     have := (List.getElem?_eq_some_iff.1 hp).1
     rwa [hlen] at this
    have hpe : f j = p := by
     rw [List.getElem?_map, List.getElem?_range hj] at hp
     exact Option.some.inj hp
    obtain ⟨c, h1, h2, _, h4⟩ := hf j hj
    rw [hpe] at h2
    exact ⟨c, h1, h2, h4⟩
  ·intro x hx
   obtain ⟨j, hj, rfl⟩ := List.mem_map.1 hx
   obtain ⟨c, _, _, h3, _⟩ := hf j (List.mem_range.1 hj)
   exact h3
structure OpensF (P : Program) (fs : List Field) (off : Nat) (d : Kd α) (V : α → Prop) : Prop where
 out : ∀ {H : Type} (enc : TypeId × Value → H) (w : World) (base : Nat) (spare : Nat → Bool) (held : Bool) (fuel : Nat) (cs : List Value),
  cs.length = off + d.sz → (∀ f ∈ fs, ∃ r, DataW.trod enc P w base spare held fuel f.type ((cs.drop f.offset).take (P.cellsOf f.type)) = some r) → ∃ x, d.K w x (cs.drop off) ∧ V x
theorem opensF_one {P : Program} {f : Field} {off : Nat} {d : Kd α} {V : α → Prop} (ho : f.offset = off) (hc : P.cellsOf f.type = d.sz) (h : Opens P f.type d V) : OpensF P [f] off d V := by
 constructor
 intro H enc w base spare held fuel cs hl hr
 obtain ⟨r, hr⟩ := hr f (List.mem_singleton.2 rfl)
 rw [ho, hc, List.take_of_length_le (by rw [List.length_drop]; omega)] at hr
 exact h.out enc w base spare held fuel _ r hr
theorem opensF_cons {P : Program} {f : Field} {fs : List Field} {off : Nat} {d : Kd α} {d' : Kd β} {V : α → Prop} {V' : β → Prop} (ho : f.offset = off) (hc : P.cellsOf f.type = d.sz) (h : Opens P f.type d V) (h' : OpensF P fs (off + d.sz) d' V') :
  OpensF P (f :: fs) off (Kd.pair d d') (fun x => V x.1 ∧ V' x.2) := by
 constructor
 intro H enc w base spare held fuel cs hl hr
 have hl' : cs.length = off + (d.sz + d'.sz) := hl
 obtain ⟨r, hr1⟩ := hr f (List.mem_cons_self ..)
 rw [ho, hc] at hr1
 obtain ⟨x, hk, hv⟩ := h.out enc w base spare held fuel _ r hr1
 obtain ⟨y, hk', hv'⟩ := h'.out enc w base spare held fuel cs (by omega) (fun g hg => hr g (List.mem_cons_of_mem _ hg))
 refine ⟨(x, y), ⟨(cs.drop off).take d.sz, cs.drop (off + d.sz), ?_, hk, hk'⟩, hv, hv'⟩
 rw [← List.drop_drop, List.take_append_drop]
theorem opens_struct {P : Program} {t : TypeId} {fs : Array Field} {d : Kd α} {V : α → Prop} (ht : P.underlying t = some (.struct fs)) (hc : P.cellsOf t = d.sz) (h : OpensF P fs.toList 0 d V) : Opens P t d V := by
 constructor
 intro H enc w base spare held fuel cs r hr
 obtain ⟨xs, n, _, _, hl, hxl, hx⟩ := DataW.trod_struct ht hr
 obtain ⟨x, hk, hv⟩ := h.out enc w base spare held n cs (by omega) (fun f hf => by
  obtain ⟨i, hi, rfl⟩ := List.mem_iff_getElem.1 hf
  have hi' : i < fs.size := by simpa using hi
  have := hx i fs[i] (by simp [hi'])
  rw [List.getElem?_eq_getElem (by omega)] at this
  exact ⟨_, by simpa using this⟩)
 rw [List.drop_zero] at hk
 exact ⟨x, hk, hv⟩
end
end Go.Proofs.YtloijngccppfgaaGreat.F
end
