-- Texts of this seat's, joined.
import Derived.Test.YtloijngccppfgaaGreatZWhyTree1
import Derived.Test.YtloijngccppfgaaGreatZWhyTree5
import Derived.Test.YtloijngccppfgaaGreatZWhyTree6
section
namespace Go.Proofs.YtloijngccppfgaaGreat.F
open Go.RowKit Go.Proofs.YtloijngccppfgaaGreatW.PrintWords Go.Proofs.YtloijngccppfgaaGreatW.PrintLast Go.Proofs.YtloijngccppfgaaGreatW.PrintMore
attribute [local go_sem] max2_int min2_int max_two min_two max_three min_three max_four min_four
set_option linter.unusedVariables false
set_option linter.unusedSimpArgs false
theorem c0' {p : Prop} (h : p := by repeat (first | (with_reducible first | exact HB.out | apply below_alloc | apply pw_below_drewN | apply below_drew1) | exact HB.out)) : p := h
theorem c1' {p : Prop} (h : p := by (with_reducible repeat (first | apply Kd.R_alloc | apply Kd.R_drewN | apply Kd.R_drew)); exact HO146.out) : p := h
theorem c2' {p : Prop} (h : p := by first | (simp only [putAll, Act.put, List.setIfInBounds_toArray, List.set_cons_zero, List.set_cons_succ]; done) | (simp only [putAll, Act.put, List.setIfInBounds_toArray, List.set_cons_zero, List.set_cons_succ]; rfl)) : p := h
theorem c3' {p : Prop} (h : p := by (with_reducible repeat (first | apply Kd.R_alloc | apply Kd.R_drewN | apply Kd.R_drew)); exact HO160.out) : p := h
theorem c4' {p : Prop} (h : p := by (with_reducible repeat (first | apply Kd.R_alloc | apply Kd.R_drewN | apply Kd.R_drew)); exact HO157.out) : p := h
theorem c5' {p : Prop} (h : p := by (with_reducible repeat (first | apply Kd.N_alloc | apply Kd.N_drewN | apply Kd.N_drew)); exact HO149.out) : p := h
theorem c6' {p : Prop} (h : p := by (with_reducible repeat (first | apply Kd.N_alloc | apply Kd.N_drewN | apply Kd.N_drew)); exact HO154.out) : p := h
theorem c7' {p : Prop} (h : p := by (try simp only [List.map_toArray, List.map_cons, List.map_nil]); first | done | rfl | (simp only [List.length_drop, List.length_take]; rfl)) : p := h
theorem c8' {p : Prop} (h : p := by (with_reducible repeat (first | apply Kd.R_alloc | apply Kd.R_drewN | apply Kd.R_drew)); exact HO170.out) : p := h
theorem c9' {p : Prop} (h : p := by (with_reducible repeat (first | apply Kd.R_alloc | apply Kd.R_drewN | apply Kd.R_drew)); exact HO167.out) : p := h
theorem c10' {p : Prop} (h : p := by (with_reducible repeat (first | apply Kd.N_alloc | apply Kd.N_drewN | apply Kd.N_drew)); exact HO164.out) : p := h
theorem c11' {p : Prop} (h : p := by (with_reducible repeat (first | apply Kd.N_alloc | apply Kd.N_drewN | apply Kd.N_drew)); exact HO174.out) : p := h
theorem c12' {p : Prop} (h : p := by kernel_rfl) : p := h
theorem c13' {p : Prop} (h : p := by (with_reducible repeat (first | apply Kd.R_alloc | apply Kd.R_drewN | apply Kd.R_drew)); exact HO181.out) : p := h
theorem c14' {p : Prop} (h : p := by (with_reducible repeat (first | apply Kd.N_alloc | apply Kd.N_drewN | apply Kd.N_drew)); exact HO178.out) : p := h
theorem c15' {p : Prop} (h : p := by (with_reducible repeat (first | apply Kd.N_alloc | apply Kd.N_drewN | apply Kd.N_drew)); exact Kd.N_mono HO174.out (fun _ hk => ⟨hk.1.1, ⟨hk.1.2.1, ⟨hk.1.2.2.1, ⟨hk.1.2.2.2.1, ⟨hk.1.2.2.2.2.1, ⟨hk.1.2.2.2.2.2.1, ⟨hk.1.2.2.2.2.2.2.1, ⟨hk.1.2.2.2.2.2.2.2, hk.2⟩⟩⟩⟩⟩⟩⟩⟩)) : p := h
theorem c16' {p : Prop} (h : p := by (with_reducible repeat (first | apply Kd.N_alloc | apply Kd.N_drewN | apply Kd.N_drew)); exact Kd.N_mono HO164.out (fun _ hk => ⟨hk.1.1, ⟨hk.1.2.1, ⟨hk.1.2.2.1, ⟨hk.1.2.2.2.1, ⟨hk.1.2.2.2.2.1, ⟨hk.1.2.2.2.2.2.1, ⟨hk.1.2.2.2.2.2.2.1, ⟨hk.1.2.2.2.2.2.2.2, hk.2⟩⟩⟩⟩⟩⟩⟩⟩)) : p := h
theorem c17' {p : Prop} (h : p := by (with_reducible repeat (first | apply Kd.N_alloc | apply Kd.N_drewN | apply Kd.N_drew)); exact Kd.N_mono HO154.out (fun _ hk => ⟨hk.1.1, ⟨hk.1.2.1, ⟨hk.1.2.2.1, ⟨hk.1.2.2.2.1, ⟨hk.1.2.2.2.2.1, ⟨hk.1.2.2.2.2.2.1, ⟨hk.1.2.2.2.2.2.2.1, ⟨hk.1.2.2.2.2.2.2.2, hk.2⟩⟩⟩⟩⟩⟩⟩⟩)) : p := h
theorem c18' {p : Prop} (h : p := by (with_reducible repeat (first | apply Kd.N_alloc | apply Kd.N_drewN | apply Kd.N_drew)); exact Kd.N_mono HO149.out (fun _ hk => ⟨hk.1.1, ⟨hk.1.2.1, ⟨hk.1.2.2.1, ⟨hk.1.2.2.2.1, ⟨hk.1.2.2.2.2.1, ⟨hk.1.2.2.2.2.2.1, ⟨hk.1.2.2.2.2.2.2.1, ⟨hk.1.2.2.2.2.2.2.2, hk.2⟩⟩⟩⟩⟩⟩⟩⟩)) : p := h
theorem c19' {p : Prop} (h : p := by (with_reducible repeat (first | apply Kd.N_alloc | apply Kd.N_drewN | apply Kd.N_drew)); exact Kd.N_mono HO164.out (fun _ hk => ⟨hk.1.1, ⟨hk.1.2.1, ⟨hk.1.2.2.1, ⟨hk.1.2.2.2.1, ⟨hk.1.2.2.2.2, hk.2⟩⟩⟩⟩⟩)) : p := h
theorem c20' {p : Prop} (h : p := by (with_reducible repeat (first | apply Kd.N_alloc | apply Kd.N_drewN | apply Kd.N_drew)); exact Kd.N_mono HO154.out (fun _ hk => ⟨hk.1.1, ⟨hk.1.2.1, ⟨hk.1.2.2.1, ⟨hk.1.2.2.2.1, ⟨hk.1.2.2.2.2, hk.2⟩⟩⟩⟩⟩)) : p := h
theorem c21' {p : Prop} (h : p := by (with_reducible repeat (first | apply Kd.N_alloc | apply Kd.N_drewN | apply Kd.N_drew)); exact Kd.N_mono HO149.out (fun _ hk => ⟨hk.1.1, ⟨hk.1.2.1, ⟨hk.1.2.2.1, ⟨hk.1.2.2.2.1, ⟨hk.1.2.2.2.2, hk.2⟩⟩⟩⟩⟩)) : p := h
theorem c22' {p : Prop} (h : p := by (with_reducible repeat (first | apply Kd.N_alloc | apply Kd.N_drewN | apply Kd.N_drew)); exact Kd.N_mono HO154.out (fun _ hk => ⟨hk.1.1, ⟨hk.1.2.1, ⟨hk.1.2.2.1, ⟨hk.1.2.2.2, hk.2⟩⟩⟩⟩)) : p := h
theorem c23' {p : Prop} (h : p := by (with_reducible repeat (first | apply Kd.N_alloc | apply Kd.N_drewN | apply Kd.N_drew)); exact Kd.N_mono HO149.out (fun _ hk => ⟨hk.1.1, ⟨hk.1.2.1, ⟨hk.1.2.2.1, ⟨hk.1.2.2.2, hk.2⟩⟩⟩⟩)) : p := h
theorem c24' {p : Prop} (h : p := by decide) : p := h
theorem c25' {p : Prop} (h : p := by (with_reducible repeat (first | apply Kd.N_alloc | apply Kd.N_drewN | apply Kd.N_drew)); exact Kd.N_mono HO154.out (fun _ hk => ⟨hk.1.1, ⟨hk.1.2, hk.2⟩⟩)) : p := h
theorem c26' {p : Prop} (h : p := by (with_reducible repeat (first | apply Kd.N_alloc | apply Kd.N_drewN | apply Kd.N_drew)); exact Kd.N_mono HO149.out (fun _ hk => ⟨hk.1.1, ⟨hk.1.2, hk.2⟩⟩)) : p := h
theorem c27' {p : Prop} (h : p := by (with_reducible repeat (first | apply Kd.R_alloc | apply Kd.R_drewN | apply Kd.R_drew)); exact Kd.R_mono HO170.out (fun _ hk => ⟨hk.1.2, hk.2⟩)) : p := h
theorem c28' {p : Prop} (h : p := by (with_reducible repeat (first | apply Kd.R_alloc | apply Kd.R_drewN | apply Kd.R_drew)); exact Kd.R_mono HO181.out (fun _ hk => hk.2)) : p := h
theorem c29' {p : Prop} (h : p := by (with_reducible repeat (first | apply Kd.R_alloc | apply Kd.R_drewN | apply Kd.R_drew)); exact Kd.R_mono HO160.out (fun _ hk => hk.2)) : p := h
theorem c30' {p : Prop} (h : p := by (with_reducible repeat (first | apply Kd.R_alloc | apply Kd.R_drewN | apply Kd.R_drew)); exact Kd.R_mono HO157.out (fun _ hk => hk.2)) : p := h
theorem c31' {p : Prop} (h : p := by (with_reducible repeat (first | apply Kd.R_alloc | apply Kd.R_drewN | apply Kd.R_drew)); exact Kd.R_mono HO146.out (fun _ hk => hk.2)) : p := h
def argosylaw32_lives.f (k : Nat)  : Option (Bool) := (some (([(⟨0, 0, 0, false⟩ : S50), (⟨3, 0, 0, false⟩ : S50), (⟨0, 0, 0, false⟩ : S50), (⟨3, 0, 0, false⟩ : S50)] : List (S50)) : List (S50))).bind fun y144 => ((argosylaw32_both.f).bind fun t147 => ((why_Text.f t147 y144).bind fun bt150 => ((argosylaw32_both.f).bind fun t152 => ((why_Of.f t152 y144 0).bind fun t155 => ((argosyref01_Same.f k t155 (([1, 2, 3] : List Int))).bind fun t161 => (if t161 = true then ((argosylaw32_both.f).bind fun t162 => ((why_Steps.f t162 y144 0).bind fun t165 => ((argosyref01_Same.f k t165 (([1, 3] : List Int))).bind fun t171 => (if t171 = true then ((argosylaw32_both.f).bind fun t172 => ((why_Blame.f t172 y144 3).bind fun t175 => (if t175 = 3 then ((argosylaw32_both.f).bind fun t176 => (if 4 ≤ 8796093022208 then ((why_Blame.f t176 (List.replicate 4 z50) 3).bind fun t182 => (if t182 = (-1) then (if bt150.1.toList = ([97, 10, 115, 10, 32, 32, 98, 10] : List UInt8) then (some (bt150.2 == 0)) else (some false)) else (some false))) else (none))) else (some false)))) else (some false))))) else (some false)))))))
theorem argosylaw32_lives.mono : ∀ k, LeO (argosylaw32_lives.f k ) (argosylaw32_lives.f (k + 1) ) := by
 intro  k
 unfold argosylaw32_lives.f
 repeat' first
   | (with_reducible exact argosyref01_Same.mono _ _ _)
   | (with_reducible exact LeO.refl _)
   | (with_reducible exact LeO.none _)
   | (with_reducible refine LeO.ite ?_ ?_)
   | (with_reducible refine LeO.bind ?_ (fun _ => ?_))
   | exact argosyref01_Same.mono _ _ _
   | exact LeO.none _
   | refine LeO.ite ?_ ?_
   | refine LeO.bind ?_ (fun _ => ?_)
def argosylaw32_lives.T3 : Bool × List (List Nat × List Nat) := (true, [([], []), ([], []), ([0, 1, 0], [0, 1]), ([], []), ([2, 3, 2], [2, 3]), ([4, 4], [4]), ([5, 5], [5]), ([5], [5]), ([6, 7, 6, 5], [5, 6, 7]), ([5], [5]), ([8, 9, 8, 5], [5, 8, 9]), ([5, 10], [5, 10]), ([11, 10], [11]), ([12, 12], [12]), ([12], [12]), ([13, 14, 13, 12], [12, 13, 14]), ([15, 12], [12, 15]), ([12, 16], [12, 16]), ([17, 15], [17]), ([18, 18], [18]), ([18], [18]), ([19, 20, 19, 18], [18, 19, 20]), ([21, 18], [18, 21]), ([18, 22], [18, 22]), ([23, 21], [23]), ([24], [24]), ([25, 24], [24, 25]), ([24, 26], [24, 26]), ([27, 24], [27]), ([28], [28]), ([29, 28], [28, 29]), ([28, 30], [28, 30]), ([31, 28, 0, 1, 2, 3, 4, 5, 6, 7, 8, 9, 10, 11, 12, 13, 14, 15, 16, 17, 18, 19, 20, 21, 22, 23, 24, 25, 26, 27, 28, 29, 30, 31], [31])])
def argosylaw32_lives.B3 : List Nat := [0, 0, 3, 0, 15, 31, 63, 63, 255, 63, 1023, 2047, 4095, 8191, 8191, 32767, 65535, 131071, 262143, 524287, 524287, 2097151, 4194303, 8388607, 16777215, 33554431, 67108863, 134217727, 268435455, 536870911, 1073741823, 2147483647, 4294967295]
theorem argosylaw32_lives.tab3 : rtab .any (opsOf Tryz.f9 3) = argosylaw32_lives.T3 := by kernel_rfl
theorem argosylaw32_lives.bits3 : waitsOk argosylaw32_lives.T3.2 argosylaw32_lives.B3 = true := by kernel_rfl
set_option maxHeartbeats 8000000 in
set_option maxRecDepth 100000 in
theorem argosylaw32_lives.calls_ (k : Nat)  (r : Bool) (w : World) (hr0 : r = true) (h : argosylaw32_lives.f k  = some r) :
  Calls Tryz.prog 9 #[] w fun e w' => e = .returned (.bool r) ∧ Below w.heap.size w w' := by
 have HR0 := Aside0.mk hr0
 clear hr0
 have hu50 := Tryz.underlying50
 have HB := Aside0.mk (Below.refl w.heap.size w)
 have H : ((some (([(⟨0, 0, 0, false⟩ : S50), (⟨3, 0, 0, false⟩ : S50), (⟨0, 0, 0, false⟩ : S50), (⟨3, 0, 0, false⟩ : S50)] : List (S50)) : List (S50))).bind fun y144 => ((argosylaw32_both.f).bind fun t147 => ((why_Text.f t147 y144).bind fun bt150 => ((argosylaw32_both.f).bind fun t152 => ((why_Of.f t152 y144 0).bind fun t155 => ((argosyref01_Same.f k t155 (([1, 2, 3] : List Int))).bind fun t161 => (if t161 = true then ((argosylaw32_both.f).bind fun t162 => ((why_Steps.f t162 y144 0).bind fun t165 => ((argosyref01_Same.f k t165 (([1, 3] : List Int))).bind fun t171 => (if t171 = true then ((argosylaw32_both.f).bind fun t172 => ((why_Blame.f t172 y144 3).bind fun t175 => (if t175 = 3 then ((argosylaw32_both.f).bind fun t176 => (if 4 ≤ 8796093022208 then ((why_Blame.f t176 (List.replicate 4 z50) 3).bind fun t182 => (if t182 = (-1) then (if bt150.1.toList = ([97, 10, 115, 10, 32, 32, 98, 10] : List UInt8) then (some (bt150.2 == 0)) else (some false)) else (some false))) else (none))) else (some false)))) else (some false))))) else (some false)))))))) = some r := h
 clear h
 obtain ⟨y144, hy144⟩ : ∃ y_ : List (S50), y_ = (([(⟨0, 0, 0, false⟩ : S50), (⟨3, 0, 0, false⟩ : S50), (⟨0, 0, 0, false⟩ : S50), (⟨3, 0, 0, false⟩ : S50)] : List (S50))) := ⟨_, rfl⟩
 replace H : ((argosylaw32_both.f).bind fun t147 => ((why_Text.f t147 y144).bind fun bt150 => ((argosylaw32_both.f).bind fun t152 => ((why_Of.f t152 y144 0).bind fun t155 => ((argosyref01_Same.f k t155 (([1, 2, 3] : List Int))).bind fun t161 => (if t161 = true then ((argosylaw32_both.f).bind fun t162 => ((why_Steps.f t162 y144 0).bind fun t165 => ((argosyref01_Same.f k t165 (([1, 3] : List Int))).bind fun t171 => (if t171 = true then ((argosylaw32_both.f).bind fun t172 => ((why_Blame.f t172 y144 3).bind fun t175 => (if t175 = 3 then ((argosylaw32_both.f).bind fun t176 => (if 4 ≤ 8796093022208 then ((why_Blame.f t176 (List.replicate 4 z50) 3).bind fun t182 => (if t182 = (-1) then (if bt150.1.toList = ([97, 10, 115, 10, 32, 32, 98, 10] : List UInt8) then (some (bt150.2 == 0)) else (some false)) else (some false))) else (none))) else (some false)))) else (some false))))) else (some false))))))) = some r := by first | (rw [hy144]; with_reducible exact H) | (have H2_ := (Option.bind_some _ _).symm.trans H; rw [hy144]; with_reducible exact H2_) | (have H2_ := (Option.bind_some _ _).symm.trans H; with_reducible exact H2_) | with_reducible exact H | (rw [hy144]; exact H) | exact H
 have Ny144 := Aside0.mk hy144
 clear hy144
 replace H := Option.bind_eq_some_iff.mp H
 obtain ⟨t147, A10, H⟩ := H
 replace H : ((why_Text.f t147 y144).bind fun bt150 => ((argosylaw32_both.f).bind fun t152 => ((why_Of.f t152 y144 0).bind fun t155 => ((argosyref01_Same.f k t155 (([1, 2, 3] : List Int))).bind fun t161 => (if t161 = true then ((argosylaw32_both.f).bind fun t162 => ((why_Steps.f t162 y144 0).bind fun t165 => ((argosyref01_Same.f k t165 (([1, 3] : List Int))).bind fun t171 => (if t171 = true then ((argosylaw32_both.f).bind fun t172 => ((why_Blame.f t172 y144 3).bind fun t175 => (if t175 = 3 then ((argosylaw32_both.f).bind fun t176 => (if 4 ≤ 8796093022208 then ((why_Blame.f t176 (List.replicate 4 z50) 3).bind fun t182 => (if t182 = (-1) then (if bt150.1.toList = ([97, 10, 115, 10, 32, 32, 98, 10] : List UInt8) then (some (bt150.2 == 0)) else (some false)) else (some false))) else (none))) else (some false)))) else (some false))))) else (some false)))))) = some r := H
 have A1 := Aside0.mk A10
 clear A10
 replace H := Option.bind_eq_some_iff.mp H
 obtain ⟨⟨t150, t151⟩, A20, H⟩ := H
 replace H : ((argosylaw32_both.f).bind fun t152 => ((why_Of.f t152 y144 0).bind fun t155 => ((argosyref01_Same.f k t155 (([1, 2, 3] : List Int))).bind fun t161 => (if t161 = true then ((argosylaw32_both.f).bind fun t162 => ((why_Steps.f t162 y144 0).bind fun t165 => ((argosyref01_Same.f k t165 (([1, 3] : List Int))).bind fun t171 => (if t171 = true then ((argosylaw32_both.f).bind fun t172 => ((why_Blame.f t172 y144 3).bind fun t175 => (if t175 = 3 then ((argosylaw32_both.f).bind fun t176 => (if 4 ≤ 8796093022208 then ((why_Blame.f t176 (List.replicate 4 z50) 3).bind fun t182 => (if t182 = (-1) then (if t150.toList = ([97, 10, 115, 10, 32, 32, 98, 10] : List UInt8) then (some (t151 == 0)) else (some false)) else (some false))) else (none))) else (some false)))) else (some false))))) else (some false))))) = some r := H
 have A2 := Aside0.mk A20
 clear A20
 replace H := Option.bind_eq_some_iff.mp H
 obtain ⟨t152, A30, H⟩ := H
 replace H : ((why_Of.f t152 y144 0).bind fun t155 => ((argosyref01_Same.f k t155 (([1, 2, 3] : List Int))).bind fun t161 => (if t161 = true then ((argosylaw32_both.f).bind fun t162 => ((why_Steps.f t162 y144 0).bind fun t165 => ((argosyref01_Same.f k t165 (([1, 3] : List Int))).bind fun t171 => (if t171 = true then ((argosylaw32_both.f).bind fun t172 => ((why_Blame.f t172 y144 3).bind fun t175 => (if t175 = 3 then ((argosylaw32_both.f).bind fun t176 => (if 4 ≤ 8796093022208 then ((why_Blame.f t176 (List.replicate 4 z50) 3).bind fun t182 => (if t182 = (-1) then (if t150.toList = ([97, 10, 115, 10, 32, 32, 98, 10] : List UInt8) then (some (t151 == 0)) else (some false)) else (some false))) else (none))) else (some false)))) else (some false))))) else (some false)))) = some r := H
 have A3 := Aside0.mk A30
 clear A30
 replace H := Option.bind_eq_some_iff.mp H
 obtain ⟨t155, A40, H⟩ := H
 replace H : ((argosyref01_Same.f k t155 (([1, 2, 3] : List Int))).bind fun t161 => (if t161 = true then ((argosylaw32_both.f).bind fun t162 => ((why_Steps.f t162 y144 0).bind fun t165 => ((argosyref01_Same.f k t165 (([1, 3] : List Int))).bind fun t171 => (if t171 = true then ((argosylaw32_both.f).bind fun t172 => ((why_Blame.f t172 y144 3).bind fun t175 => (if t175 = 3 then ((argosylaw32_both.f).bind fun t176 => (if 4 ≤ 8796093022208 then ((why_Blame.f t176 (List.replicate 4 z50) 3).bind fun t182 => (if t182 = (-1) then (if t150.toList = ([97, 10, 115, 10, 32, 32, 98, 10] : List UInt8) then (some (t151 == 0)) else (some false)) else (some false))) else (none))) else (some false)))) else (some false))))) else (some false))) = some r := H
 have A4 := Aside0.mk A40
 clear A40
 obtain ⟨y158, hy158⟩ : ∃ y_ : List Int, y_ = (([1, 2, 3] : List Int)) := ⟨_, rfl⟩
 replace H : ((argosyref01_Same.f k t155 y158).bind fun t161 => (if t161 = true then ((argosylaw32_both.f).bind fun t162 => ((why_Steps.f t162 y144 0).bind fun t165 => ((argosyref01_Same.f k t165 (([1, 3] : List Int))).bind fun t171 => (if t171 = true then ((argosylaw32_both.f).bind fun t172 => ((why_Blame.f t172 y144 3).bind fun t175 => (if t175 = 3 then ((argosylaw32_both.f).bind fun t176 => (if 4 ≤ 8796093022208 then ((why_Blame.f t176 (List.replicate 4 z50) 3).bind fun t182 => (if t182 = (-1) then (if t150.toList = ([97, 10, 115, 10, 32, 32, 98, 10] : List UInt8) then (some (t151 == 0)) else (some false)) else (some false))) else (none))) else (some false)))) else (some false))))) else (some false))) = some r := by first | (rw [hy158]; with_reducible exact H) | (have H2_ := (Option.bind_some _ _).symm.trans H; rw [hy158]; with_reducible exact H2_) | (have H2_ := (Option.bind_some _ _).symm.trans H; with_reducible exact H2_) | with_reducible exact H | (rw [hy158]; exact H) | exact H
 have Ny158 := Aside0.mk hy158
 clear hy158
 replace H := Option.bind_eq_some_iff.mp H
 obtain ⟨t161, A50, H⟩ := H
 replace H : (if t161 = true then ((argosylaw32_both.f).bind fun t162 => ((why_Steps.f t162 y144 0).bind fun t165 => ((argosyref01_Same.f k t165 (([1, 3] : List Int))).bind fun t171 => (if t171 = true then ((argosylaw32_both.f).bind fun t172 => ((why_Blame.f t172 y144 3).bind fun t175 => (if t175 = 3 then ((argosylaw32_both.f).bind fun t176 => (if 4 ≤ 8796093022208 then ((why_Blame.f t176 (List.replicate 4 z50) 3).bind fun t182 => (if t182 = (-1) then (if t150.toList = ([97, 10, 115, 10, 32, 32, 98, 10] : List UInt8) then (some (t151 == 0)) else (some false)) else (some false))) else (none))) else (some false)))) else (some false))))) else (some false)) = some r := H
 have A5 := Aside0.mk A50
 clear A50
 by_cases c6 : t161 = true
 ·subst c6
  have H1 : ((argosylaw32_both.f).bind fun t162 => ((why_Steps.f t162 y144 0).bind fun t165 => ((argosyref01_Same.f k t165 (([1, 3] : List Int))).bind fun t171 => (if t171 = true then ((argosylaw32_both.f).bind fun t172 => ((why_Blame.f t172 y144 3).bind fun t175 => (if t175 = 3 then ((argosylaw32_both.f).bind fun t176 => (if 4 ≤ 8796093022208 then ((why_Blame.f t176 (List.replicate 4 z50) 3).bind fun t182 => (if t182 = (-1) then (if t150.toList = ([97, 10, 115, 10, 32, 32, 98, 10] : List UInt8) then (some (t151 == 0)) else (some false)) else (some false))) else (none))) else (some false)))) else (some false))))) = some r := by rw [if_pos rfl] at H; exact H
  clear H
  have H := H1
  clear H1
  replace H := Option.bind_eq_some_iff.mp H
  obtain ⟨t162, A70, H⟩ := H
  replace H : ((why_Steps.f t162 y144 0).bind fun t165 => ((argosyref01_Same.f k t165 (([1, 3] : List Int))).bind fun t171 => (if t171 = true then ((argosylaw32_both.f).bind fun t172 => ((why_Blame.f t172 y144 3).bind fun t175 => (if t175 = 3 then ((argosylaw32_both.f).bind fun t176 => (if 4 ≤ 8796093022208 then ((why_Blame.f t176 (List.replicate 4 z50) 3).bind fun t182 => (if t182 = (-1) then (if t150.toList = ([97, 10, 115, 10, 32, 32, 98, 10] : List UInt8) then (some (t151 == 0)) else (some false)) else (some false))) else (none))) else (some false)))) else (some false)))) = some r := H
  have A7 := Aside0.mk A70
  clear A70
  replace H := Option.bind_eq_some_iff.mp H
  obtain ⟨t165, A80, H⟩ := H
  replace H : ((argosyref01_Same.f k t165 (([1, 3] : List Int))).bind fun t171 => (if t171 = true then ((argosylaw32_both.f).bind fun t172 => ((why_Blame.f t172 y144 3).bind fun t175 => (if t175 = 3 then ((argosylaw32_both.f).bind fun t176 => (if 4 ≤ 8796093022208 then ((why_Blame.f t176 (List.replicate 4 z50) 3).bind fun t182 => (if t182 = (-1) then (if t150.toList = ([97, 10, 115, 10, 32, 32, 98, 10] : List UInt8) then (some (t151 == 0)) else (some false)) else (some false))) else (none))) else (some false)))) else (some false))) = some r := H
  have A8 := Aside0.mk A80
  clear A80
  obtain ⟨y168, hy168⟩ : ∃ y_ : List Int, y_ = (([1, 3] : List Int)) := ⟨_, rfl⟩
  replace H : ((argosyref01_Same.f k t165 y168).bind fun t171 => (if t171 = true then ((argosylaw32_both.f).bind fun t172 => ((why_Blame.f t172 y144 3).bind fun t175 => (if t175 = 3 then ((argosylaw32_both.f).bind fun t176 => (if 4 ≤ 8796093022208 then ((why_Blame.f t176 (List.replicate 4 z50) 3).bind fun t182 => (if t182 = (-1) then (if t150.toList = ([97, 10, 115, 10, 32, 32, 98, 10] : List UInt8) then (some (t151 == 0)) else (some false)) else (some false))) else (none))) else (some false)))) else (some false))) = some r := by first | (rw [hy168]; with_reducible exact H) | (have H2_ := (Option.bind_some _ _).symm.trans H; rw [hy168]; with_reducible exact H2_) | (have H2_ := (Option.bind_some _ _).symm.trans H; with_reducible exact H2_) | with_reducible exact H | (rw [hy168]; exact H) | exact H
  have Ny168 := Aside0.mk hy168
  clear hy168
  replace H := Option.bind_eq_some_iff.mp H
  obtain ⟨t171, A90, H⟩ := H
  replace H : (if t171 = true then ((argosylaw32_both.f).bind fun t172 => ((why_Blame.f t172 y144 3).bind fun t175 => (if t175 = 3 then ((argosylaw32_both.f).bind fun t176 => (if 4 ≤ 8796093022208 then ((why_Blame.f t176 (List.replicate 4 z50) 3).bind fun t182 => (if t182 = (-1) then (if t150.toList = ([97, 10, 115, 10, 32, 32, 98, 10] : List UInt8) then (some (t151 == 0)) else (some false)) else (some false))) else (none))) else (some false)))) else (some false)) = some r := H
  have A9 := Aside0.mk A90
  clear A90
  by_cases c10 : t171 = true
  ·subst c10
   have H1 : ((argosylaw32_both.f).bind fun t172 => ((why_Blame.f t172 y144 3).bind fun t175 => (if t175 = 3 then ((argosylaw32_both.f).bind fun t176 => (if 4 ≤ 8796093022208 then ((why_Blame.f t176 (List.replicate 4 z50) 3).bind fun t182 => (if t182 = (-1) then (if t150.toList = ([97, 10, 115, 10, 32, 32, 98, 10] : List UInt8) then (some (t151 == 0)) else (some false)) else (some false))) else (none))) else (some false)))) = some r := by rw [if_pos rfl] at H; exact H
   clear H
   have H := H1
   clear H1
   replace H := Option.bind_eq_some_iff.mp H
   obtain ⟨t172, A110, H⟩ := H
   replace H : ((why_Blame.f t172 y144 3).bind fun t175 => (if t175 = 3 then ((argosylaw32_both.f).bind fun t176 => (if 4 ≤ 8796093022208 then ((why_Blame.f t176 (List.replicate 4 z50) 3).bind fun t182 => (if t182 = (-1) then (if t150.toList = ([97, 10, 115, 10, 32, 32, 98, 10] : List UInt8) then (some (t151 == 0)) else (some false)) else (some false))) else (none))) else (some false))) = some r := H
   have A11 := Aside0.mk A110
   clear A110
   replace H := Option.bind_eq_some_iff.mp H
   obtain ⟨t175, A120, H⟩ := H
   replace H : (if t175 = 3 then ((argosylaw32_both.f).bind fun t176 => (if 4 ≤ 8796093022208 then ((why_Blame.f t176 (List.replicate 4 z50) 3).bind fun t182 => (if t182 = (-1) then (if t150.toList = ([97, 10, 115, 10, 32, 32, 98, 10] : List UInt8) then (some (t151 == 0)) else (some false)) else (some false))) else (none))) else (some false)) = some r := H
   have A12 := Aside0.mk A120
   clear A120
   by_cases c13 : t175 = 3
   ·rw [if_pos c13] at H
    have c13b0 : (t175 == 3) = true := beq_iff_eq.mpr c13
    have c13b1 : (t175 != 3) = false := bne_eq_false_iff_eq.mpr c13
    clear c13
    replace H := Option.bind_eq_some_iff.mp H
    obtain ⟨t176, A140, H⟩ := H
    replace H : (if 4 ≤ 8796093022208 then ((why_Blame.f t176 (List.replicate 4 z50) 3).bind fun t182 => (if t182 = (-1) then (if t150.toList = ([97, 10, 115, 10, 32, 32, 98, 10] : List UInt8) then (some (t151 == 0)) else (some false)) else (some false))) else (none)) = some r := H
    have A14 := Aside0.mk A140
    clear A140
    by_cases c15 : 4 ≤ 8796093022208
    ·rw [if_pos c15] at H
     have c15b0 := eq_true c15
     have c15b1 : decide (4 ≤ 8796093022208) = true := decide_eq_true c15
     clear c15
     obtain ⟨y179, hy179⟩ : ∃ y_ : List (S50), y_ = (List.replicate 4 z50) := ⟨_, rfl⟩
     replace H : ((why_Blame.f t176 y179 3).bind fun t182 => (if t182 = (-1) then (if t150.toList = ([97, 10, 115, 10, 32, 32, 98, 10] : List UInt8) then (some (t151 == 0)) else (some false)) else (some false))) = some r := by first | (rw [hy179]; with_reducible exact H) | (have H2_ := (Option.bind_some _ _).symm.trans H; rw [hy179]; with_reducible exact H2_) | (have H2_ := (Option.bind_some _ _).symm.trans H; with_reducible exact H2_) | with_reducible exact H | (rw [hy179]; exact H) | exact H
     have Ny179 := Aside0.mk hy179
     clear hy179
     replace H := Option.bind_eq_some_iff.mp H
     obtain ⟨t182, A160, H⟩ := H
     replace H : (if t182 = (-1) then (if t150.toList = ([97, 10, 115, 10, 32, 32, 98, 10] : List UInt8) then (some (t151 == 0)) else (some false)) else (some false)) = some r := H
     have A16 := Aside0.mk A160
     clear A160
     by_cases c17 : t182 = (-1)
     ·rw [if_pos c17] at H
      have c17b0 : (t182 == (-1)) = true := beq_iff_eq.mpr c17
      have c17b1 : (t182 != (-1)) = false := bne_eq_false_iff_eq.mpr c17
      clear c17
      by_cases c18 : t150.toList = ([97, 10, 115, 10, 32, 32, 98, 10] : List UInt8)
      ·rw [if_pos c18] at H
       have c18b0 : (t150.toList == ([97, 10, 115, 10, 32, 32, 98, 10] : List UInt8)) = true := beq_iff_eq.mpr c18
       have c18b1 : (t150.toList != ([97, 10, 115, 10, 32, 32, 98, 10] : List UInt8)) = false := bne_eq_false_iff_eq.mpr c18
       clear c18
       obtain rfl := Option.some.inj H
       go_enter Tryz.func9, Tryz.ntmps9
       try go_wp2_with (first | ((with_reducible refine gate_dst (N := 8) rfl ?_); (try (refine gate_guard (by rfl) ?_; dsimp only)); refine Kd.R_lit k50 _ 50 ?hg (N := 8) ?hd (xs := ([(⟨0, 0, 0, false⟩ : S50), (⟨3, 0, 0, false⟩ : S50), (⟨0, 0, 0, false⟩ : S50), (⟨3, 0, 0, false⟩ : S50)] : List (S50))) (inner := [.int .i64 0, .int .i64 0, .int .i64 0, .bool false, .int .i64 3, .int .i64 0, .int .i64 0, .bool false, .int .i64 0, .int .i64 0, .int .i64 0, .bool false, .int .i64 3, .int .i64 0, .int .i64 0, .bool false]) (ok := fun _ => True) (okp := fun _ => True) ?hr ?hp (fun _ hk => hk) trivial (Below.refl _ _) (Nat.le_refl _) (by simp) ?_; (case hd => rfl); (case hg => rfl); (case hr => first | (go_simp; done) | (go_simp; rfl)); (case hp => exact (Reps.c4 (show Kd.M k50 _ _ _ (⟨0, 0, 0, false⟩ : S50) [.int .i64 0, .int .i64 0, .int .i64 0, .bool false] from (k50_mkM _ _ _ (⟨0, 0, 0, false⟩ : S50) )) (Reps.c4 (show Kd.M k50 _ _ _ (⟨3, 0, 0, false⟩ : S50) [.int .i64 3, .int .i64 0, .int .i64 0, .bool false] from (k50_mkM _ _ _ (⟨3, 0, 0, false⟩ : S50) )) (Reps.c4 (show Kd.M k50 _ _ _ (⟨0, 0, 0, false⟩ : S50) [.int .i64 0, .int .i64 0, .int .i64 0, .bool false] from (k50_mkM _ _ _ (⟨0, 0, 0, false⟩ : S50) )) (Reps.c4 (show Kd.M k50 _ _ _ (⟨3, 0, 0, false⟩ : S50) [.int .i64 3, .int .i64 0, .int .i64 0, .bool false] from (k50_mkM _ _ _ (⟨3, 0, 0, false⟩ : S50) )) (Reps.none _ _)))))); intro v145 w19 ho20 hb hg_ hnew_; clear hg_ hnew_; (first | rw [← Ny144.out] at ho20 | (simp only [Int.reduceToNat] at ho20; rw [← Ny144.out] at ho20)); have n0_ := Aside0.mk (Kd.R_lower ho20 (below_size c0')); have n1_ := Aside0.mk (below_step c0' hb); clear HB; have HO146 := n0_; have HB := n1_; clear n0_ n1_; clear hb ho20) | ((with_reducible refine gate_callee (f := 30) rfl ?_); refine goesL_ (some 10) rfl rfl Tryz.func30 c12' rfl #[] rfl c7' ?_; (with_reducible refine (argosylaw32_both.calls  t147 _ A1.out).mono ?_); rintro e w21 ⟨v148, rfl, ho0, hb⟩; refine ⟨_, rfl, ?_⟩; have n0_ := Aside0.mk (Kd.R_below c1' hb); have n1_ := Aside0.mk (Kd.N_lower (Kd.N_mono (ok' := fun k_ => some k_ ≠ (v145 : Value).ownBlock) ho0 (fun k_ hk_ => (Kd.fresh' (Kd.R_lt c1') k_ hk_))) (below_size c0')); have n2_ := Aside0.mk (below_step c0' hb); clear HO146; clear HB; have HO146 := n0_; have HO149 := n1_; have HB := n2_; clear n0_ n1_ n2_; (try clear hb); (try clear hb2); (try clear hk); (try clear hi); (try clear ho0); obtain ⟨Ao22, co22, eo22⟩ := Kd.N_slice HO149.out; subst eo22; obtain ⟨Ao23, co23, eo23⟩ := Kd.R_slice HO146.out; subst eo23) | ((with_reducible refine gate_callee (f := 29) rfl ?_); refine goesL_ (some 12) rfl rfl Tryz.func29 c12' rfl #[.agg #[.slice Ao22 t147.length co22], .slice Ao23 y144.length co23] rfl c7' ?_; (with_reducible refine (why_Text.calls _ _ t147 _ _ y144 t150 t151 _ ?side1 ?side2 ?side3 ?side4 A2.out).mono ?_); (case side1 => repeat (first | exact (Kd.N_reads' HO149.out).2.2 | (with_reducible refine Kd.C_alloc ?_ _) | (with_reducible refine Kd.C_drewN ?_ _) | (with_reducible refine Kd.C_drew ?_))); (case side2 => exact (Kd.N_reads' HO149.out).2.1); (case side3 => repeat (first | exact (Kd.R_reads' HO146.out).2.2 | (with_reducible refine Kd.C_alloc ?_ _) | (with_reducible refine Kd.C_drewN ?_ _) | (with_reducible refine Kd.C_drew ?_))); (case side4 => exact (Kd.R_reads' HO146.out).2.1); rintro e w24 ⟨rfl, hb⟩; refine ⟨_, rfl, ?_⟩; have n0_ := Aside0.mk (Kd.R_below c1' hb); have n1_ := Aside0.mk (Kd.N_below c5' hb); have n2_ := Aside0.mk (below_step c0' hb); clear HO146; clear HO149; clear HB; have HO146 := n0_; have HO149 := n1_; have HB := n2_; clear n0_ n1_ n2_; (try clear hb); (try clear hb2); (try clear hk); (try clear hi)))
       have n0_ := Aside0.mk (Kd.R_drew HO146.out)
       have n1_ := Aside0.mk (Kd.N_drew HO149.out)
       have n2_ := Aside0.mk (below_drew1 HB.out)
       clear HO146
       clear HO149
       clear HB
       have HO146 := n0_
       have HO149 := n1_
       have HB := n2_
       clear n0_ n1_ n2_
       refine start_ (n := 33) (S := fun w' => True) (ds := []) #[false, false, false, false, false, false, false, false, false, false, false, false, false, false, false, false, false, false, false, false, false, false, false, false, false, false, false, false, false, false, false, false, false] c12' rfl rfl trivial (fun hHeld => ?_); refine with_tabW argosylaw32_lives.tab3 argosylaw32_lives.bits3 (fun HT_ HW_ => ?_)
       generalize w24.drew = w25 at HO146 HO149 HB hHeld ⊢
       refine pure_ (i := 1) (N := some 16) (v := ?_) (a' := ?_) #[false, true, false, false, false, false, false, false, false, false, false, false, false, false, false, false, false, false, false, false, false, false, false, false, false, false, false, false, false, false, false, false, false] rfl rfl (any_of HT_.out c12') (fun _ _ _ h => h) (Or.inl ⟨by rfl, ?_⟩) ?_ ?_
       rotate_left
       ·intro w'
        go_simp
        with_reducible rfl
       rotate_left
       ·simp only [Act.put, List.setIfInBounds_toArray, List.set_cons_zero, List.set_cons_succ, i64_w, i32_w]
        rfl
       refine join_ (σ := Value × Value × Value × Value × Value × Value × Value × Value × Value) 12 #[true, true, true, true, true, true, true, true, true, true, true, true, true, true, true, true, true, true, true, true, true, false, false, false, false, false, false, false, false, false, false, false, false] (fun s_ => [(15, .agg #[s_.1]), (17, s_.2.1), (18, s_.2.2.1), (19, .bool true), (21, .agg #[s_.2.2.2.1]), (23, s_.2.2.2.2.1), (24, s_.2.2.2.2.2.1), (25, .bool true), (28, .agg #[s_.2.2.2.2.2.2.1]), (30, .int .i64 t175), (34, .agg #[s_.2.2.2.2.2.2.2.1]), (35, s_.2.2.2.2.2.2.2.2), (20, .bool true), (22, .slice Ao23 y144.length co23), (26, .bool true), (27, .bool true), (29, .slice Ao23 y144.length co23), (31, .bool true), (32, .bool true), (33, .bool true)]) (fun s_ w' => (Kd.R k50 50 w' w.heap.size (fun k_ => some k_ ≠ (s_.2.2.2.2.2.2.2.2 : Value).ownBlock) (.slice Ao23 y144.length co23) y144) ∧ (Kd.N k39 39 w' w.heap.size (fun k_ => some k_ ≠ (.slice Ao23 y144.length co23 : Value).ownBlock ∧ some k_ ≠ (s_.1 : Value).ownBlock ∧ some k_ ≠ (s_.2.1 : Value).ownBlock ∧ some k_ ≠ (s_.2.2.1 : Value).ownBlock ∧ some k_ ≠ (s_.2.2.2.1 : Value).ownBlock ∧ some k_ ≠ (s_.2.2.2.2.1 : Value).ownBlock ∧ some k_ ≠ (s_.2.2.2.2.2.1 : Value).ownBlock ∧ some k_ ≠ (s_.2.2.2.2.2.2.1 : Value).ownBlock ∧ some k_ ≠ (s_.2.2.2.2.2.2.2.1 : Value).ownBlock ∧ some k_ ≠ (s_.2.2.2.2.2.2.2.2 : Value).ownBlock) (.slice Ao22 t147.length co22) t147) ∧ (Kd.N k39 39 w' w.heap.size (fun k_ => some k_ ≠ (.slice Ao23 y144.length co23 : Value).ownBlock ∧ some k_ ≠ (.slice Ao22 t147.length co22 : Value).ownBlock ∧ some k_ ≠ (s_.2.1 : Value).ownBlock ∧ some k_ ≠ (s_.2.2.1 : Value).ownBlock ∧ some k_ ≠ (s_.2.2.2.1 : Value).ownBlock ∧ some k_ ≠ (s_.2.2.2.2.1 : Value).ownBlock ∧ some k_ ≠ (s_.2.2.2.2.2.1 : Value).ownBlock ∧ some k_ ≠ (s_.2.2.2.2.2.2.1 : Value).ownBlock ∧ some k_ ≠ (s_.2.2.2.2.2.2.2.1 : Value).ownBlock ∧ some k_ ≠ (s_.2.2.2.2.2.2.2.2 : Value).ownBlock) s_.1 t152) ∧ (Kd.R (Kd.int .i64) 3 w' w.heap.size (fun k_ => some k_ ≠ (s_.2.2.1 : Value).ownBlock ∧ some k_ ≠ (s_.2.2.2.2.1 : Value).ownBlock ∧ some k_ ≠ (s_.2.2.2.2.2.1 : Value).ownBlock) s_.2.1 t155) ∧ (Kd.R (Kd.int .i64) 3 w' w.heap.size (fun k_ => some k_ ≠ (s_.2.1 : Value).ownBlock ∧ some k_ ≠ (s_.2.2.2.2.1 : Value).ownBlock ∧ some k_ ≠ (s_.2.2.2.2.2.1 : Value).ownBlock) s_.2.2.1 y158) ∧ (Kd.N k39 39 w' w.heap.size (fun k_ => some k_ ≠ (.slice Ao23 y144.length co23 : Value).ownBlock ∧ some k_ ≠ (.slice Ao22 t147.length co22 : Value).ownBlock ∧ some k_ ≠ (s_.1 : Value).ownBlock ∧ some k_ ≠ (s_.2.1 : Value).ownBlock ∧ some k_ ≠ (s_.2.2.1 : Value).ownBlock ∧ some k_ ≠ (s_.2.2.2.2.1 : Value).ownBlock ∧ some k_ ≠ (s_.2.2.2.2.2.1 : Value).ownBlock ∧ some k_ ≠ (s_.2.2.2.2.2.2.1 : Value).ownBlock ∧ some k_ ≠ (s_.2.2.2.2.2.2.2.1 : Value).ownBlock ∧ some k_ ≠ (s_.2.2.2.2.2.2.2.2 : Value).ownBlock) s_.2.2.2.1 t162) ∧ (Kd.R (Kd.int .i64) 3 w' w.heap.size (fun k_ => some k_ ≠ (s_.2.1 : Value).ownBlock ∧ some k_ ≠ (s_.2.2.1 : Value).ownBlock ∧ some k_ ≠ (s_.2.2.2.2.2.1 : Value).ownBlock) s_.2.2.2.2.1 t165) ∧ (Kd.R (Kd.int .i64) 3 w' w.heap.size (fun k_ => some k_ ≠ (s_.2.1 : Value).ownBlock ∧ some k_ ≠ (s_.2.2.1 : Value).ownBlock ∧ some k_ ≠ (s_.2.2.2.2.1 : Value).ownBlock) s_.2.2.2.2.2.1 y168) ∧ (Kd.N k39 39 w' w.heap.size (fun k_ => some k_ ≠ (.slice Ao23 y144.length co23 : Value).ownBlock ∧ some k_ ≠ (.slice Ao22 t147.length co22 : Value).ownBlock ∧ some k_ ≠ (s_.1 : Value).ownBlock ∧ some k_ ≠ (s_.2.1 : Value).ownBlock ∧ some k_ ≠ (s_.2.2.1 : Value).ownBlock ∧ some k_ ≠ (s_.2.2.2.1 : Value).ownBlock ∧ some k_ ≠ (s_.2.2.2.2.1 : Value).ownBlock ∧ some k_ ≠ (s_.2.2.2.2.2.1 : Value).ownBlock ∧ some k_ ≠ (s_.2.2.2.2.2.2.2.1 : Value).ownBlock ∧ some k_ ≠ (s_.2.2.2.2.2.2.2.2 : Value).ownBlock) s_.2.2.2.2.2.2.1 t172) ∧ (Kd.N k39 39 w' w.heap.size (fun k_ => some k_ ≠ (.slice Ao23 y144.length co23 : Value).ownBlock ∧ some k_ ≠ (.slice Ao22 t147.length co22 : Value).ownBlock ∧ some k_ ≠ (s_.1 : Value).ownBlock ∧ some k_ ≠ (s_.2.1 : Value).ownBlock ∧ some k_ ≠ (s_.2.2.1 : Value).ownBlock ∧ some k_ ≠ (s_.2.2.2.1 : Value).ownBlock ∧ some k_ ≠ (s_.2.2.2.2.1 : Value).ownBlock ∧ some k_ ≠ (s_.2.2.2.2.2.1 : Value).ownBlock ∧ some k_ ≠ (s_.2.2.2.2.2.2.1 : Value).ownBlock ∧ some k_ ≠ (s_.2.2.2.2.2.2.2.2 : Value).ownBlock) s_.2.2.2.2.2.2.2.1 t176) ∧ (Kd.R k50 50 w' w.heap.size (fun k_ => some k_ ≠ (.slice Ao23 y144.length co23 : Value).ownBlock) s_.2.2.2.2.2.2.2.2 y179) ∧ (Below w.heap.size w w')) ?_ ?_
       rotate_left
       ·intro hJ0_2_3_4_6_8_9_10_13_15_19_20
        refine join_ (σ := Value × Value × Value × Value × Value × Value × Value × Value) 13 #[true, true, true, true, true, true, true, true, true, true, true, true, true, true, true, true, true, true, true, true, false, false, false, false, false, false, false, false, false, false, false, false, false] (fun s_ => [(15, .agg #[s_.1]), (17, s_.2.1), (18, s_.2.2.1), (19, .bool true), (21, .agg #[s_.2.2.2.1]), (23, s_.2.2.2.2.1), (24, s_.2.2.2.2.2.1), (25, .bool true), (28, .agg #[s_.2.2.2.2.2.2.1]), (30, .int .i64 t175), (34, .agg #[s_.2.2.2.2.2.2.2]), (20, .bool true), (22, .slice Ao23 y144.length co23), (26, .bool true), (27, .bool true), (29, .slice Ao23 y144.length co23), (31, .bool true), (32, .bool true), (33, .bool true)]) (fun s_ w' => (Kd.R k50 50 w' w.heap.size (fun _ => True) (.slice Ao23 y144.length co23) y144) ∧ (Kd.N k39 39 w' w.heap.size (fun k_ => some k_ ≠ (.slice Ao23 y144.length co23 : Value).ownBlock ∧ some k_ ≠ (s_.1 : Value).ownBlock ∧ some k_ ≠ (s_.2.1 : Value).ownBlock ∧ some k_ ≠ (s_.2.2.1 : Value).ownBlock ∧ some k_ ≠ (s_.2.2.2.1 : Value).ownBlock ∧ some k_ ≠ (s_.2.2.2.2.1 : Value).ownBlock ∧ some k_ ≠ (s_.2.2.2.2.2.1 : Value).ownBlock ∧ some k_ ≠ (s_.2.2.2.2.2.2.1 : Value).ownBlock ∧ some k_ ≠ (s_.2.2.2.2.2.2.2 : Value).ownBlock) (.slice Ao22 t147.length co22) t147) ∧ (Kd.N k39 39 w' w.heap.size (fun k_ => some k_ ≠ (.slice Ao23 y144.length co23 : Value).ownBlock ∧ some k_ ≠ (.slice Ao22 t147.length co22 : Value).ownBlock ∧ some k_ ≠ (s_.2.1 : Value).ownBlock ∧ some k_ ≠ (s_.2.2.1 : Value).ownBlock ∧ some k_ ≠ (s_.2.2.2.1 : Value).ownBlock ∧ some k_ ≠ (s_.2.2.2.2.1 : Value).ownBlock ∧ some k_ ≠ (s_.2.2.2.2.2.1 : Value).ownBlock ∧ some k_ ≠ (s_.2.2.2.2.2.2.1 : Value).ownBlock ∧ some k_ ≠ (s_.2.2.2.2.2.2.2 : Value).ownBlock) s_.1 t152) ∧ (Kd.R (Kd.int .i64) 3 w' w.heap.size (fun k_ => some k_ ≠ (s_.2.2.1 : Value).ownBlock ∧ some k_ ≠ (s_.2.2.2.2.1 : Value).ownBlock ∧ some k_ ≠ (s_.2.2.2.2.2.1 : Value).ownBlock) s_.2.1 t155) ∧ (Kd.R (Kd.int .i64) 3 w' w.heap.size (fun k_ => some k_ ≠ (s_.2.1 : Value).ownBlock ∧ some k_ ≠ (s_.2.2.2.2.1 : Value).ownBlock ∧ some k_ ≠ (s_.2.2.2.2.2.1 : Value).ownBlock) s_.2.2.1 y158) ∧ (Kd.N k39 39 w' w.heap.size (fun k_ => some k_ ≠ (.slice Ao23 y144.length co23 : Value).ownBlock ∧ some k_ ≠ (.slice Ao22 t147.length co22 : Value).ownBlock ∧ some k_ ≠ (s_.1 : Value).ownBlock ∧ some k_ ≠ (s_.2.1 : Value).ownBlock ∧ some k_ ≠ (s_.2.2.1 : Value).ownBlock ∧ some k_ ≠ (s_.2.2.2.2.1 : Value).ownBlock ∧ some k_ ≠ (s_.2.2.2.2.2.1 : Value).ownBlock ∧ some k_ ≠ (s_.2.2.2.2.2.2.1 : Value).ownBlock ∧ some k_ ≠ (s_.2.2.2.2.2.2.2 : Value).ownBlock) s_.2.2.2.1 t162) ∧ (Kd.R (Kd.int .i64) 3 w' w.heap.size (fun k_ => some k_ ≠ (s_.2.1 : Value).ownBlock ∧ some k_ ≠ (s_.2.2.1 : Value).ownBlock ∧ some k_ ≠ (s_.2.2.2.2.2.1 : Value).ownBlock) s_.2.2.2.2.1 t165) ∧ (Kd.R (Kd.int .i64) 3 w' w.heap.size (fun k_ => some k_ ≠ (s_.2.1 : Value).ownBlock ∧ some k_ ≠ (s_.2.2.1 : Value).ownBlock ∧ some k_ ≠ (s_.2.2.2.2.1 : Value).ownBlock) s_.2.2.2.2.2.1 y168) ∧ (Kd.N k39 39 w' w.heap.size (fun k_ => some k_ ≠ (.slice Ao23 y144.length co23 : Value).ownBlock ∧ some k_ ≠ (.slice Ao22 t147.length co22 : Value).ownBlock ∧ some k_ ≠ (s_.1 : Value).ownBlock ∧ some k_ ≠ (s_.2.1 : Value).ownBlock ∧ some k_ ≠ (s_.2.2.1 : Value).ownBlock ∧ some k_ ≠ (s_.2.2.2.1 : Value).ownBlock ∧ some k_ ≠ (s_.2.2.2.2.1 : Value).ownBlock ∧ some k_ ≠ (s_.2.2.2.2.2.1 : Value).ownBlock ∧ some k_ ≠ (s_.2.2.2.2.2.2.2 : Value).ownBlock) s_.2.2.2.2.2.2.1 t172) ∧ (Kd.N k39 39 w' w.heap.size (fun k_ => some k_ ≠ (.slice Ao23 y144.length co23 : Value).ownBlock ∧ some k_ ≠ (.slice Ao22 t147.length co22 : Value).ownBlock ∧ some k_ ≠ (s_.1 : Value).ownBlock ∧ some k_ ≠ (s_.2.1 : Value).ownBlock ∧ some k_ ≠ (s_.2.2.1 : Value).ownBlock ∧ some k_ ≠ (s_.2.2.2.1 : Value).ownBlock ∧ some k_ ≠ (s_.2.2.2.2.1 : Value).ownBlock ∧ some k_ ≠ (s_.2.2.2.2.2.1 : Value).ownBlock ∧ some k_ ≠ (s_.2.2.2.2.2.2.1 : Value).ownBlock) s_.2.2.2.2.2.2.2 t176) ∧ (Below w.heap.size w w')) ?_ ?_
        rotate_left
        ·intro hJ0_2_3_4_6_8_9_10_13_15_19
         refine join_ (σ := Value × Value × Value × Value × Value × Value × Value × Value) 13 #[true, true, true, true, true, true, true, true, true, true, true, true, true, true, true, true, true, true, true, false, true, false, false, false, false, false, false, false, false, false, false, false, false] (fun s_ => [(15, .agg #[s_.1]), (17, s_.2.1), (18, s_.2.2.1), (19, .bool true), (21, .agg #[s_.2.2.2.1]), (23, s_.2.2.2.2.1), (24, s_.2.2.2.2.2.1), (25, .bool true), (28, .agg #[s_.2.2.2.2.2.2.1]), (30, .int .i64 t175), (35, s_.2.2.2.2.2.2.2), (20, .bool true), (22, .slice Ao23 y144.length co23), (26, .bool true), (27, .bool true), (29, .slice Ao23 y144.length co23), (31, .bool true), (32, .bool true), (33, .bool true)]) (fun s_ w' => (Kd.R k50 50 w' w.heap.size (fun k_ => some k_ ≠ (s_.2.2.2.2.2.2.2 : Value).ownBlock) (.slice Ao23 y144.length co23) y144) ∧ (Kd.N k39 39 w' w.heap.size (fun k_ => some k_ ≠ (.slice Ao23 y144.length co23 : Value).ownBlock ∧ some k_ ≠ (s_.1 : Value).ownBlock ∧ some k_ ≠ (s_.2.1 : Value).ownBlock ∧ some k_ ≠ (s_.2.2.1 : Value).ownBlock ∧ some k_ ≠ (s_.2.2.2.1 : Value).ownBlock ∧ some k_ ≠ (s_.2.2.2.2.1 : Value).ownBlock ∧ some k_ ≠ (s_.2.2.2.2.2.1 : Value).ownBlock ∧ some k_ ≠ (s_.2.2.2.2.2.2.1 : Value).ownBlock ∧ some k_ ≠ (s_.2.2.2.2.2.2.2 : Value).ownBlock) (.slice Ao22 t147.length co22) t147) ∧ (Kd.N k39 39 w' w.heap.size (fun k_ => some k_ ≠ (.slice Ao23 y144.length co23 : Value).ownBlock ∧ some k_ ≠ (.slice Ao22 t147.length co22 : Value).ownBlock ∧ some k_ ≠ (s_.2.1 : Value).ownBlock ∧ some k_ ≠ (s_.2.2.1 : Value).ownBlock ∧ some k_ ≠ (s_.2.2.2.1 : Value).ownBlock ∧ some k_ ≠ (s_.2.2.2.2.1 : Value).ownBlock ∧ some k_ ≠ (s_.2.2.2.2.2.1 : Value).ownBlock ∧ some k_ ≠ (s_.2.2.2.2.2.2.1 : Value).ownBlock ∧ some k_ ≠ (s_.2.2.2.2.2.2.2 : Value).ownBlock) s_.1 t152) ∧ (Kd.R (Kd.int .i64) 3 w' w.heap.size (fun k_ => some k_ ≠ (s_.2.2.1 : Value).ownBlock ∧ some k_ ≠ (s_.2.2.2.2.1 : Value).ownBlock ∧ some k_ ≠ (s_.2.2.2.2.2.1 : Value).ownBlock) s_.2.1 t155) ∧ (Kd.R (Kd.int .i64) 3 w' w.heap.size (fun k_ => some k_ ≠ (s_.2.1 : Value).ownBlock ∧ some k_ ≠ (s_.2.2.2.2.1 : Value).ownBlock ∧ some k_ ≠ (s_.2.2.2.2.2.1 : Value).ownBlock) s_.2.2.1 y158) ∧ (Kd.N k39 39 w' w.heap.size (fun k_ => some k_ ≠ (.slice Ao23 y144.length co23 : Value).ownBlock ∧ some k_ ≠ (.slice Ao22 t147.length co22 : Value).ownBlock ∧ some k_ ≠ (s_.1 : Value).ownBlock ∧ some k_ ≠ (s_.2.1 : Value).ownBlock ∧ some k_ ≠ (s_.2.2.1 : Value).ownBlock ∧ some k_ ≠ (s_.2.2.2.2.1 : Value).ownBlock ∧ some k_ ≠ (s_.2.2.2.2.2.1 : Value).ownBlock ∧ some k_ ≠ (s_.2.2.2.2.2.2.1 : Value).ownBlock ∧ some k_ ≠ (s_.2.2.2.2.2.2.2 : Value).ownBlock) s_.2.2.2.1 t162) ∧ (Kd.R (Kd.int .i64) 3 w' w.heap.size (fun k_ => some k_ ≠ (s_.2.1 : Value).ownBlock ∧ some k_ ≠ (s_.2.2.1 : Value).ownBlock ∧ some k_ ≠ (s_.2.2.2.2.2.1 : Value).ownBlock) s_.2.2.2.2.1 t165) ∧ (Kd.R (Kd.int .i64) 3 w' w.heap.size (fun k_ => some k_ ≠ (s_.2.1 : Value).ownBlock ∧ some k_ ≠ (s_.2.2.1 : Value).ownBlock ∧ some k_ ≠ (s_.2.2.2.2.1 : Value).ownBlock) s_.2.2.2.2.2.1 y168) ∧ (Kd.N k39 39 w' w.heap.size (fun k_ => some k_ ≠ (.slice Ao23 y144.length co23 : Value).ownBlock ∧ some k_ ≠ (.slice Ao22 t147.length co22 : Value).ownBlock ∧ some k_ ≠ (s_.1 : Value).ownBlock ∧ some k_ ≠ (s_.2.1 : Value).ownBlock ∧ some k_ ≠ (s_.2.2.1 : Value).ownBlock ∧ some k_ ≠ (s_.2.2.2.1 : Value).ownBlock ∧ some k_ ≠ (s_.2.2.2.2.1 : Value).ownBlock ∧ some k_ ≠ (s_.2.2.2.2.2.1 : Value).ownBlock ∧ some k_ ≠ (s_.2.2.2.2.2.2.2 : Value).ownBlock) s_.2.2.2.2.2.2.1 t172) ∧ (Kd.R k50 50 w' w.heap.size (fun k_ => some k_ ≠ (.slice Ao23 y144.length co23 : Value).ownBlock) s_.2.2.2.2.2.2.2 y179) ∧ (Below w.heap.size w w')) ?_ ?_
         rotate_left
         ·intro hJ0_2_3_4_6_8_9_10_13_15_20
          refine join_ (σ := Value × Value × Value × Value × Value × Value × Value) 14 #[true, true, true, true, true, true, true, true, true, true, true, true, true, true, true, true, true, true, true, false, false, false, false, false, false, false, false, false, false, false, false, false, false] (fun s_ => [(15, .agg #[s_.1]), (17, s_.2.1), (18, s_.2.2.1), (19, .bool true), (21, .agg #[s_.2.2.2.1]), (23, s_.2.2.2.2.1), (24, s_.2.2.2.2.2.1), (25, .bool true), (28, .agg #[s_.2.2.2.2.2.2]), (30, .int .i64 t175), (20, .bool true), (22, .slice Ao23 y144.length co23), (26, .bool true), (27, .bool true), (29, .slice Ao23 y144.length co23), (31, .bool true), (32, .bool true), (33, .bool true)]) (fun s_ w' => (Kd.R k50 50 w' w.heap.size (fun _ => True) (.slice Ao23 y144.length co23) y144) ∧ (Kd.N k39 39 w' w.heap.size (fun k_ => some k_ ≠ (.slice Ao23 y144.length co23 : Value).ownBlock ∧ some k_ ≠ (s_.1 : Value).ownBlock ∧ some k_ ≠ (s_.2.1 : Value).ownBlock ∧ some k_ ≠ (s_.2.2.1 : Value).ownBlock ∧ some k_ ≠ (s_.2.2.2.1 : Value).ownBlock ∧ some k_ ≠ (s_.2.2.2.2.1 : Value).ownBlock ∧ some k_ ≠ (s_.2.2.2.2.2.1 : Value).ownBlock ∧ some k_ ≠ (s_.2.2.2.2.2.2 : Value).ownBlock) (.slice Ao22 t147.length co22) t147) ∧ (Kd.N k39 39 w' w.heap.size (fun k_ => some k_ ≠ (.slice Ao23 y144.length co23 : Value).ownBlock ∧ some k_ ≠ (.slice Ao22 t147.length co22 : Value).ownBlock ∧ some k_ ≠ (s_.2.1 : Value).ownBlock ∧ some k_ ≠ (s_.2.2.1 : Value).ownBlock ∧ some k_ ≠ (s_.2.2.2.1 : Value).ownBlock ∧ some k_ ≠ (s_.2.2.2.2.1 : Value).ownBlock ∧ some k_ ≠ (s_.2.2.2.2.2.1 : Value).ownBlock ∧ some k_ ≠ (s_.2.2.2.2.2.2 : Value).ownBlock) s_.1 t152) ∧ (Kd.R (Kd.int .i64) 3 w' w.heap.size (fun k_ => some k_ ≠ (s_.2.2.1 : Value).ownBlock ∧ some k_ ≠ (s_.2.2.2.2.1 : Value).ownBlock ∧ some k_ ≠ (s_.2.2.2.2.2.1 : Value).ownBlock) s_.2.1 t155) ∧ (Kd.R (Kd.int .i64) 3 w' w.heap.size (fun k_ => some k_ ≠ (s_.2.1 : Value).ownBlock ∧ some k_ ≠ (s_.2.2.2.2.1 : Value).ownBlock ∧ some k_ ≠ (s_.2.2.2.2.2.1 : Value).ownBlock) s_.2.2.1 y158) ∧ (Kd.N k39 39 w' w.heap.size (fun k_ => some k_ ≠ (.slice Ao23 y144.length co23 : Value).ownBlock ∧ some k_ ≠ (.slice Ao22 t147.length co22 : Value).ownBlock ∧ some k_ ≠ (s_.1 : Value).ownBlock ∧ some k_ ≠ (s_.2.1 : Value).ownBlock ∧ some k_ ≠ (s_.2.2.1 : Value).ownBlock ∧ some k_ ≠ (s_.2.2.2.2.1 : Value).ownBlock ∧ some k_ ≠ (s_.2.2.2.2.2.1 : Value).ownBlock ∧ some k_ ≠ (s_.2.2.2.2.2.2 : Value).ownBlock) s_.2.2.2.1 t162) ∧ (Kd.R (Kd.int .i64) 3 w' w.heap.size (fun k_ => some k_ ≠ (s_.2.1 : Value).ownBlock ∧ some k_ ≠ (s_.2.2.1 : Value).ownBlock ∧ some k_ ≠ (s_.2.2.2.2.2.1 : Value).ownBlock) s_.2.2.2.2.1 t165) ∧ (Kd.R (Kd.int .i64) 3 w' w.heap.size (fun k_ => some k_ ≠ (s_.2.1 : Value).ownBlock ∧ some k_ ≠ (s_.2.2.1 : Value).ownBlock ∧ some k_ ≠ (s_.2.2.2.2.1 : Value).ownBlock) s_.2.2.2.2.2.1 y168) ∧ (Kd.N k39 39 w' w.heap.size (fun k_ => some k_ ≠ (.slice Ao23 y144.length co23 : Value).ownBlock ∧ some k_ ≠ (.slice Ao22 t147.length co22 : Value).ownBlock ∧ some k_ ≠ (s_.1 : Value).ownBlock ∧ some k_ ≠ (s_.2.1 : Value).ownBlock ∧ some k_ ≠ (s_.2.2.1 : Value).ownBlock ∧ some k_ ≠ (s_.2.2.2.1 : Value).ownBlock ∧ some k_ ≠ (s_.2.2.2.2.1 : Value).ownBlock ∧ some k_ ≠ (s_.2.2.2.2.2.1 : Value).ownBlock) s_.2.2.2.2.2.2 t172) ∧ (Below w.heap.size w w')) ?_ ?_
          rotate_left
          ·intro hJ0_2_3_4_6_8_9_10_13_15
           refine join_ (σ := Value × Value × Value × Value × Value × Value × Value) 18 #[true, true, true, true, true, true, true, true, true, true, true, true, true, true, true, false, false, false, false, false, false, false, false, false, false, false, false, false, false, false, false, false, false] (fun s_ => [(15, .agg #[s_.1]), (17, s_.2.1), (18, s_.2.2.1), (19, .bool true), (21, .agg #[s_.2.2.2.1]), (23, s_.2.2.2.2.1), (24, s_.2.2.2.2.2.1), (25, .bool true), (28, .agg #[s_.2.2.2.2.2.2]), (20, .bool true), (22, .slice Ao23 y144.length co23), (26, .bool true), (27, .bool true), (29, .slice Ao23 y144.length co23)]) (fun s_ w' => (Kd.R k50 50 w' w.heap.size (fun _ => True) (.slice Ao23 y144.length co23) y144) ∧ (Kd.N k39 39 w' w.heap.size (fun k_ => some k_ ≠ (.slice Ao23 y144.length co23 : Value).ownBlock ∧ some k_ ≠ (s_.1 : Value).ownBlock ∧ some k_ ≠ (s_.2.1 : Value).ownBlock ∧ some k_ ≠ (s_.2.2.1 : Value).ownBlock ∧ some k_ ≠ (s_.2.2.2.1 : Value).ownBlock ∧ some k_ ≠ (s_.2.2.2.2.1 : Value).ownBlock ∧ some k_ ≠ (s_.2.2.2.2.2.1 : Value).ownBlock ∧ some k_ ≠ (s_.2.2.2.2.2.2 : Value).ownBlock) (.slice Ao22 t147.length co22) t147) ∧ (Kd.N k39 39 w' w.heap.size (fun k_ => some k_ ≠ (.slice Ao23 y144.length co23 : Value).ownBlock ∧ some k_ ≠ (.slice Ao22 t147.length co22 : Value).ownBlock ∧ some k_ ≠ (s_.2.1 : Value).ownBlock ∧ some k_ ≠ (s_.2.2.1 : Value).ownBlock ∧ some k_ ≠ (s_.2.2.2.1 : Value).ownBlock ∧ some k_ ≠ (s_.2.2.2.2.1 : Value).ownBlock ∧ some k_ ≠ (s_.2.2.2.2.2.1 : Value).ownBlock ∧ some k_ ≠ (s_.2.2.2.2.2.2 : Value).ownBlock) s_.1 t152) ∧ (Kd.R (Kd.int .i64) 3 w' w.heap.size (fun k_ => some k_ ≠ (s_.2.2.1 : Value).ownBlock ∧ some k_ ≠ (s_.2.2.2.2.1 : Value).ownBlock ∧ some k_ ≠ (s_.2.2.2.2.2.1 : Value).ownBlock) s_.2.1 t155) ∧ (Kd.R (Kd.int .i64) 3 w' w.heap.size (fun k_ => some k_ ≠ (s_.2.1 : Value).ownBlock ∧ some k_ ≠ (s_.2.2.2.2.1 : Value).ownBlock ∧ some k_ ≠ (s_.2.2.2.2.2.1 : Value).ownBlock) s_.2.2.1 y158) ∧ (Kd.N k39 39 w' w.heap.size (fun k_ => some k_ ≠ (.slice Ao23 y144.length co23 : Value).ownBlock ∧ some k_ ≠ (.slice Ao22 t147.length co22 : Value).ownBlock ∧ some k_ ≠ (s_.1 : Value).ownBlock ∧ some k_ ≠ (s_.2.1 : Value).ownBlock ∧ some k_ ≠ (s_.2.2.1 : Value).ownBlock ∧ some k_ ≠ (s_.2.2.2.2.1 : Value).ownBlock ∧ some k_ ≠ (s_.2.2.2.2.2.1 : Value).ownBlock ∧ some k_ ≠ (s_.2.2.2.2.2.2 : Value).ownBlock) s_.2.2.2.1 t162) ∧ (Kd.R (Kd.int .i64) 3 w' w.heap.size (fun k_ => some k_ ≠ (s_.2.1 : Value).ownBlock ∧ some k_ ≠ (s_.2.2.1 : Value).ownBlock ∧ some k_ ≠ (s_.2.2.2.2.2.1 : Value).ownBlock) s_.2.2.2.2.1 t165) ∧ (Kd.R (Kd.int .i64) 3 w' w.heap.size (fun k_ => some k_ ≠ (s_.2.1 : Value).ownBlock ∧ some k_ ≠ (s_.2.2.1 : Value).ownBlock ∧ some k_ ≠ (s_.2.2.2.2.1 : Value).ownBlock) s_.2.2.2.2.2.1 y168) ∧ (Kd.N k39 39 w' w.heap.size (fun k_ => some k_ ≠ (.slice Ao23 y144.length co23 : Value).ownBlock ∧ some k_ ≠ (.slice Ao22 t147.length co22 : Value).ownBlock ∧ some k_ ≠ (s_.1 : Value).ownBlock ∧ some k_ ≠ (s_.2.1 : Value).ownBlock ∧ some k_ ≠ (s_.2.2.1 : Value).ownBlock ∧ some k_ ≠ (s_.2.2.2.1 : Value).ownBlock ∧ some k_ ≠ (s_.2.2.2.2.1 : Value).ownBlock ∧ some k_ ≠ (s_.2.2.2.2.2.1 : Value).ownBlock) s_.2.2.2.2.2.2 t172) ∧ (Below w.heap.size w w')) ?_ ?_
           rotate_left
           ·intro hJ0_2_3_4_6_8_9_10_13
            refine join_ (σ := Value × Value × Value × Value × Value × Value) 19 #[true, true, true, true, true, true, true, true, true, true, true, true, true, false, true, false, false, false, false, false, false, false, false, false, false, false, false, false, false, false, false, false, false] (fun s_ => [(15, .agg #[s_.1]), (17, s_.2.1), (18, s_.2.2.1), (19, .bool true), (21, .agg #[s_.2.2.2.1]), (23, s_.2.2.2.2.1), (24, s_.2.2.2.2.2), (25, .bool true), (20, .bool true), (22, .slice Ao23 y144.length co23), (26, .bool true), (27, .bool true), (29, .slice Ao23 y144.length co23)]) (fun s_ w' => (Kd.R k50 50 w' w.heap.size (fun _ => True) (.slice Ao23 y144.length co23) y144) ∧ (Kd.N k39 39 w' w.heap.size (fun k_ => some k_ ≠ (.slice Ao23 y144.length co23 : Value).ownBlock ∧ some k_ ≠ (s_.1 : Value).ownBlock ∧ some k_ ≠ (s_.2.1 : Value).ownBlock ∧ some k_ ≠ (s_.2.2.1 : Value).ownBlock ∧ some k_ ≠ (s_.2.2.2.1 : Value).ownBlock ∧ some k_ ≠ (s_.2.2.2.2.1 : Value).ownBlock ∧ some k_ ≠ (s_.2.2.2.2.2 : Value).ownBlock) (.slice Ao22 t147.length co22) t147) ∧ (Kd.N k39 39 w' w.heap.size (fun k_ => some k_ ≠ (.slice Ao23 y144.length co23 : Value).ownBlock ∧ some k_ ≠ (.slice Ao22 t147.length co22 : Value).ownBlock ∧ some k_ ≠ (s_.2.1 : Value).ownBlock ∧ some k_ ≠ (s_.2.2.1 : Value).ownBlock ∧ some k_ ≠ (s_.2.2.2.1 : Value).ownBlock ∧ some k_ ≠ (s_.2.2.2.2.1 : Value).ownBlock ∧ some k_ ≠ (s_.2.2.2.2.2 : Value).ownBlock) s_.1 t152) ∧ (Kd.R (Kd.int .i64) 3 w' w.heap.size (fun k_ => some k_ ≠ (s_.2.2.1 : Value).ownBlock ∧ some k_ ≠ (s_.2.2.2.2.1 : Value).ownBlock ∧ some k_ ≠ (s_.2.2.2.2.2 : Value).ownBlock) s_.2.1 t155) ∧ (Kd.R (Kd.int .i64) 3 w' w.heap.size (fun k_ => some k_ ≠ (s_.2.1 : Value).ownBlock ∧ some k_ ≠ (s_.2.2.2.2.1 : Value).ownBlock ∧ some k_ ≠ (s_.2.2.2.2.2 : Value).ownBlock) s_.2.2.1 y158) ∧ (Kd.N k39 39 w' w.heap.size (fun k_ => some k_ ≠ (.slice Ao23 y144.length co23 : Value).ownBlock ∧ some k_ ≠ (.slice Ao22 t147.length co22 : Value).ownBlock ∧ some k_ ≠ (s_.1 : Value).ownBlock ∧ some k_ ≠ (s_.2.1 : Value).ownBlock ∧ some k_ ≠ (s_.2.2.1 : Value).ownBlock ∧ some k_ ≠ (s_.2.2.2.2.1 : Value).ownBlock ∧ some k_ ≠ (s_.2.2.2.2.2 : Value).ownBlock) s_.2.2.2.1 t162) ∧ (Kd.R (Kd.int .i64) 3 w' w.heap.size (fun k_ => some k_ ≠ (s_.2.1 : Value).ownBlock ∧ some k_ ≠ (s_.2.2.1 : Value).ownBlock ∧ some k_ ≠ (s_.2.2.2.2.2 : Value).ownBlock) s_.2.2.2.2.1 t165) ∧ (Kd.R (Kd.int .i64) 3 w' w.heap.size (fun k_ => some k_ ≠ (s_.2.1 : Value).ownBlock ∧ some k_ ≠ (s_.2.2.1 : Value).ownBlock ∧ some k_ ≠ (s_.2.2.2.2.1 : Value).ownBlock) s_.2.2.2.2.2 y168) ∧ (Below w.heap.size w w')) ?_ ?_
            rotate_left
            ·intro hJ0_2_3_4_6_8_9_10
             refine join_ (σ := Value × Value × Value × Value × Value × Value) 23 #[true, true, true, true, true, true, true, true, true, true, false, false, false, false, false, false, false, false, false, false, false, false, false, false, false, false, false, false, false, false, false, false, false] (fun s_ => [(15, .agg #[s_.1]), (17, s_.2.1), (18, s_.2.2.1), (19, .bool true), (21, .agg #[s_.2.2.2.1]), (23, s_.2.2.2.2.1), (24, s_.2.2.2.2.2), (20, .bool true), (22, .slice Ao23 y144.length co23)]) (fun s_ w' => (Kd.R k50 50 w' w.heap.size (fun _ => True) (.slice Ao23 y144.length co23) y144) ∧ (Kd.N k39 39 w' w.heap.size (fun k_ => some k_ ≠ (.slice Ao23 y144.length co23 : Value).ownBlock ∧ some k_ ≠ (s_.1 : Value).ownBlock ∧ some k_ ≠ (s_.2.1 : Value).ownBlock ∧ some k_ ≠ (s_.2.2.1 : Value).ownBlock ∧ some k_ ≠ (s_.2.2.2.1 : Value).ownBlock ∧ some k_ ≠ (s_.2.2.2.2.1 : Value).ownBlock ∧ some k_ ≠ (s_.2.2.2.2.2 : Value).ownBlock) (.slice Ao22 t147.length co22) t147) ∧ (Kd.N k39 39 w' w.heap.size (fun k_ => some k_ ≠ (.slice Ao23 y144.length co23 : Value).ownBlock ∧ some k_ ≠ (.slice Ao22 t147.length co22 : Value).ownBlock ∧ some k_ ≠ (s_.2.1 : Value).ownBlock ∧ some k_ ≠ (s_.2.2.1 : Value).ownBlock ∧ some k_ ≠ (s_.2.2.2.1 : Value).ownBlock ∧ some k_ ≠ (s_.2.2.2.2.1 : Value).ownBlock ∧ some k_ ≠ (s_.2.2.2.2.2 : Value).ownBlock) s_.1 t152) ∧ (Kd.R (Kd.int .i64) 3 w' w.heap.size (fun k_ => some k_ ≠ (s_.2.2.1 : Value).ownBlock ∧ some k_ ≠ (s_.2.2.2.2.1 : Value).ownBlock ∧ some k_ ≠ (s_.2.2.2.2.2 : Value).ownBlock) s_.2.1 t155) ∧ (Kd.R (Kd.int .i64) 3 w' w.heap.size (fun k_ => some k_ ≠ (s_.2.1 : Value).ownBlock ∧ some k_ ≠ (s_.2.2.2.2.1 : Value).ownBlock ∧ some k_ ≠ (s_.2.2.2.2.2 : Value).ownBlock) s_.2.2.1 y158) ∧ (Kd.N k39 39 w' w.heap.size (fun k_ => some k_ ≠ (.slice Ao23 y144.length co23 : Value).ownBlock ∧ some k_ ≠ (.slice Ao22 t147.length co22 : Value).ownBlock ∧ some k_ ≠ (s_.1 : Value).ownBlock ∧ some k_ ≠ (s_.2.1 : Value).ownBlock ∧ some k_ ≠ (s_.2.2.1 : Value).ownBlock ∧ some k_ ≠ (s_.2.2.2.2.1 : Value).ownBlock ∧ some k_ ≠ (s_.2.2.2.2.2 : Value).ownBlock) s_.2.2.2.1 t162) ∧ (Kd.R (Kd.int .i64) 3 w' w.heap.size (fun k_ => some k_ ≠ (s_.2.1 : Value).ownBlock ∧ some k_ ≠ (s_.2.2.1 : Value).ownBlock ∧ some k_ ≠ (s_.2.2.2.2.2 : Value).ownBlock) s_.2.2.2.2.1 t165) ∧ (Kd.R (Kd.int .i64) 3 w' w.heap.size (fun k_ => some k_ ≠ (s_.2.1 : Value).ownBlock ∧ some k_ ≠ (s_.2.2.1 : Value).ownBlock ∧ some k_ ≠ (s_.2.2.2.2.1 : Value).ownBlock) s_.2.2.2.2.2 y168) ∧ (Below w.heap.size w w')) ?_ ?_
             rotate_left
             ·intro hJ0_2_3_4_6_8_9
              refine join_ (σ := Value × Value × Value × Value × Value) 24 #[true, true, true, true, true, true, true, true, true, false, false, false, false, false, false, false, false, false, false, false, false, false, false, false, false, false, false, false, false, false, false, false, false] (fun s_ => [(15, .agg #[s_.1]), (17, s_.2.1), (18, s_.2.2.1), (19, .bool true), (21, .agg #[s_.2.2.2.1]), (23, s_.2.2.2.2), (20, .bool true), (22, .slice Ao23 y144.length co23)]) (fun s_ w' => (Kd.R k50 50 w' w.heap.size (fun _ => True) (.slice Ao23 y144.length co23) y144) ∧ (Kd.N k39 39 w' w.heap.size (fun k_ => some k_ ≠ (.slice Ao23 y144.length co23 : Value).ownBlock ∧ some k_ ≠ (s_.1 : Value).ownBlock ∧ some k_ ≠ (s_.2.1 : Value).ownBlock ∧ some k_ ≠ (s_.2.2.1 : Value).ownBlock ∧ some k_ ≠ (s_.2.2.2.1 : Value).ownBlock ∧ some k_ ≠ (s_.2.2.2.2 : Value).ownBlock) (.slice Ao22 t147.length co22) t147) ∧ (Kd.N k39 39 w' w.heap.size (fun k_ => some k_ ≠ (.slice Ao23 y144.length co23 : Value).ownBlock ∧ some k_ ≠ (.slice Ao22 t147.length co22 : Value).ownBlock ∧ some k_ ≠ (s_.2.1 : Value).ownBlock ∧ some k_ ≠ (s_.2.2.1 : Value).ownBlock ∧ some k_ ≠ (s_.2.2.2.1 : Value).ownBlock ∧ some k_ ≠ (s_.2.2.2.2 : Value).ownBlock) s_.1 t152) ∧ (Kd.R (Kd.int .i64) 3 w' w.heap.size (fun k_ => some k_ ≠ (s_.2.2.1 : Value).ownBlock ∧ some k_ ≠ (s_.2.2.2.2 : Value).ownBlock) s_.2.1 t155) ∧ (Kd.R (Kd.int .i64) 3 w' w.heap.size (fun k_ => some k_ ≠ (s_.2.1 : Value).ownBlock ∧ some k_ ≠ (s_.2.2.2.2 : Value).ownBlock) s_.2.2.1 y158) ∧ (Kd.N k39 39 w' w.heap.size (fun k_ => some k_ ≠ (.slice Ao23 y144.length co23 : Value).ownBlock ∧ some k_ ≠ (.slice Ao22 t147.length co22 : Value).ownBlock ∧ some k_ ≠ (s_.1 : Value).ownBlock ∧ some k_ ≠ (s_.2.1 : Value).ownBlock ∧ some k_ ≠ (s_.2.2.1 : Value).ownBlock ∧ some k_ ≠ (s_.2.2.2.2 : Value).ownBlock) s_.2.2.2.1 t162) ∧ (Kd.R (Kd.int .i64) 3 w' w.heap.size (fun k_ => some k_ ≠ (s_.2.1 : Value).ownBlock ∧ some k_ ≠ (s_.2.2.1 : Value).ownBlock) s_.2.2.2.2 t165) ∧ (Below w.heap.size w w')) ?_ ?_
              rotate_left
              ·intro hJ0_2_3_4_6_8
               refine join_ (σ := Value × Value × Value × Value × Value) 24 #[true, true, true, true, true, true, true, true, false, true, false, false, false, false, false, false, false, false, false, false, false, false, false, false, false, false, false, false, false, false, false, false, false] (fun s_ => [(15, .agg #[s_.1]), (17, s_.2.1), (18, s_.2.2.1), (19, .bool true), (21, .agg #[s_.2.2.2.1]), (24, s_.2.2.2.2), (20, .bool true), (22, .slice Ao23 y144.length co23)]) (fun s_ w' => (Kd.R k50 50 w' w.heap.size (fun _ => True) (.slice Ao23 y144.length co23) y144) ∧ (Kd.N k39 39 w' w.heap.size (fun k_ => some k_ ≠ (.slice Ao23 y144.length co23 : Value).ownBlock ∧ some k_ ≠ (s_.1 : Value).ownBlock ∧ some k_ ≠ (s_.2.1 : Value).ownBlock ∧ some k_ ≠ (s_.2.2.1 : Value).ownBlock ∧ some k_ ≠ (s_.2.2.2.1 : Value).ownBlock ∧ some k_ ≠ (s_.2.2.2.2 : Value).ownBlock) (.slice Ao22 t147.length co22) t147) ∧ (Kd.N k39 39 w' w.heap.size (fun k_ => some k_ ≠ (.slice Ao23 y144.length co23 : Value).ownBlock ∧ some k_ ≠ (.slice Ao22 t147.length co22 : Value).ownBlock ∧ some k_ ≠ (s_.2.1 : Value).ownBlock ∧ some k_ ≠ (s_.2.2.1 : Value).ownBlock ∧ some k_ ≠ (s_.2.2.2.1 : Value).ownBlock ∧ some k_ ≠ (s_.2.2.2.2 : Value).ownBlock) s_.1 t152) ∧ (Kd.R (Kd.int .i64) 3 w' w.heap.size (fun k_ => some k_ ≠ (s_.2.2.1 : Value).ownBlock ∧ some k_ ≠ (s_.2.2.2.2 : Value).ownBlock) s_.2.1 t155) ∧ (Kd.R (Kd.int .i64) 3 w' w.heap.size (fun k_ => some k_ ≠ (s_.2.1 : Value).ownBlock ∧ some k_ ≠ (s_.2.2.2.2 : Value).ownBlock) s_.2.2.1 y158) ∧ (Kd.N k39 39 w' w.heap.size (fun k_ => some k_ ≠ (.slice Ao23 y144.length co23 : Value).ownBlock ∧ some k_ ≠ (.slice Ao22 t147.length co22 : Value).ownBlock ∧ some k_ ≠ (s_.1 : Value).ownBlock ∧ some k_ ≠ (s_.2.1 : Value).ownBlock ∧ some k_ ≠ (s_.2.2.1 : Value).ownBlock ∧ some k_ ≠ (s_.2.2.2.2 : Value).ownBlock) s_.2.2.2.1 t162) ∧ (Kd.R (Kd.int .i64) 3 w' w.heap.size (fun k_ => some k_ ≠ (s_.2.1 : Value).ownBlock ∧ some k_ ≠ (s_.2.2.1 : Value).ownBlock) s_.2.2.2.2 y168) ∧ (Below w.heap.size w w')) ?_ ?_
               rotate_left
               ·intro hJ0_2_3_4_6_9
                refine join_ (σ := Value × Value × Value × Value) 25 #[true, true, true, true, true, true, true, true, false, false, false, false, false, false, false, false, false, false, false, false, false, false, false, false, false, false, false, false, false, false, false, false, false] (fun s_ => [(15, .agg #[s_.1]), (17, s_.2.1), (18, s_.2.2.1), (19, .bool true), (21, .agg #[s_.2.2.2]), (20, .bool true), (22, .slice Ao23 y144.length co23)]) (fun s_ w' => (Kd.R k50 50 w' w.heap.size (fun _ => True) (.slice Ao23 y144.length co23) y144) ∧ (Kd.N k39 39 w' w.heap.size (fun k_ => some k_ ≠ (.slice Ao23 y144.length co23 : Value).ownBlock ∧ some k_ ≠ (s_.1 : Value).ownBlock ∧ some k_ ≠ (s_.2.1 : Value).ownBlock ∧ some k_ ≠ (s_.2.2.1 : Value).ownBlock ∧ some k_ ≠ (s_.2.2.2 : Value).ownBlock) (.slice Ao22 t147.length co22) t147) ∧ (Kd.N k39 39 w' w.heap.size (fun k_ => some k_ ≠ (.slice Ao23 y144.length co23 : Value).ownBlock ∧ some k_ ≠ (.slice Ao22 t147.length co22 : Value).ownBlock ∧ some k_ ≠ (s_.2.1 : Value).ownBlock ∧ some k_ ≠ (s_.2.2.1 : Value).ownBlock ∧ some k_ ≠ (s_.2.2.2 : Value).ownBlock) s_.1 t152) ∧ (Kd.R (Kd.int .i64) 3 w' w.heap.size (fun k_ => some k_ ≠ (s_.2.2.1 : Value).ownBlock) s_.2.1 t155) ∧ (Kd.R (Kd.int .i64) 3 w' w.heap.size (fun k_ => some k_ ≠ (s_.2.1 : Value).ownBlock) s_.2.2.1 y158) ∧ (Kd.N k39 39 w' w.heap.size (fun k_ => some k_ ≠ (.slice Ao23 y144.length co23 : Value).ownBlock ∧ some k_ ≠ (.slice Ao22 t147.length co22 : Value).ownBlock ∧ some k_ ≠ (s_.1 : Value).ownBlock ∧ some k_ ≠ (s_.2.1 : Value).ownBlock ∧ some k_ ≠ (s_.2.2.1 : Value).ownBlock) s_.2.2.2 t162) ∧ (Below w.heap.size w w')) ?_ ?_
                rotate_left
                ·intro hJ0_2_3_4_6
                 refine join_ (σ := Value × Value × Value × Value) 25 #[true, true, true, true, true, true, false, true, false, true, false, false, false, false, false, false, false, false, false, false, false, false, false, false, false, false, false, false, false, false, false, false, false] (fun s_ => [(15, .agg #[s_.1]), (17, s_.2.1), (18, s_.2.2.1), (19, .bool true), (24, s_.2.2.2), (20, .bool true), (22, .slice Ao23 y144.length co23)]) (fun s_ w' => (Kd.R k50 50 w' w.heap.size (fun _ => True) (.slice Ao23 y144.length co23) y144) ∧ (Kd.N k39 39 w' w.heap.size (fun k_ => some k_ ≠ (.slice Ao23 y144.length co23 : Value).ownBlock ∧ some k_ ≠ (s_.1 : Value).ownBlock ∧ some k_ ≠ (s_.2.1 : Value).ownBlock ∧ some k_ ≠ (s_.2.2.1 : Value).ownBlock ∧ some k_ ≠ (s_.2.2.2 : Value).ownBlock) (.slice Ao22 t147.length co22) t147) ∧ (Kd.N k39 39 w' w.heap.size (fun k_ => some k_ ≠ (.slice Ao23 y144.length co23 : Value).ownBlock ∧ some k_ ≠ (.slice Ao22 t147.length co22 : Value).ownBlock ∧ some k_ ≠ (s_.2.1 : Value).ownBlock ∧ some k_ ≠ (s_.2.2.1 : Value).ownBlock ∧ some k_ ≠ (s_.2.2.2 : Value).ownBlock) s_.1 t152) ∧ (Kd.R (Kd.int .i64) 3 w' w.heap.size (fun k_ => some k_ ≠ (s_.2.2.1 : Value).ownBlock ∧ some k_ ≠ (s_.2.2.2 : Value).ownBlock) s_.2.1 t155) ∧ (Kd.R (Kd.int .i64) 3 w' w.heap.size (fun k_ => some k_ ≠ (s_.2.1 : Value).ownBlock ∧ some k_ ≠ (s_.2.2.2 : Value).ownBlock) s_.2.2.1 y158) ∧ (Kd.R (Kd.int .i64) 3 w' w.heap.size (fun k_ => some k_ ≠ (s_.2.1 : Value).ownBlock ∧ some k_ ≠ (s_.2.2.1 : Value).ownBlock) s_.2.2.2 y168) ∧ (Below w.heap.size w w')) ?_ ?_
                 rotate_left
                 ·intro hJ0_2_3_4_9
                  refine join_ (σ := Value × Value × Value) 26 #[true, true, true, true, true, true, false, true, false, false, false, false, false, false, false, false, false, false, false, false, false, false, false, false, false, false, false, false, false, false, false, false, false] (fun s_ => [(15, .agg #[s_.1]), (17, s_.2.1), (18, s_.2.2), (19, .bool true), (20, .bool true), (22, .slice Ao23 y144.length co23)]) (fun s_ w' => (Kd.R k50 50 w' w.heap.size (fun _ => True) (.slice Ao23 y144.length co23) y144) ∧ (Kd.N k39 39 w' w.heap.size (fun k_ => some k_ ≠ (.slice Ao23 y144.length co23 : Value).ownBlock ∧ some k_ ≠ (s_.1 : Value).ownBlock ∧ some k_ ≠ (s_.2.1 : Value).ownBlock ∧ some k_ ≠ (s_.2.2 : Value).ownBlock) (.slice Ao22 t147.length co22) t147) ∧ (Kd.N k39 39 w' w.heap.size (fun k_ => some k_ ≠ (.slice Ao23 y144.length co23 : Value).ownBlock ∧ some k_ ≠ (.slice Ao22 t147.length co22 : Value).ownBlock ∧ some k_ ≠ (s_.2.1 : Value).ownBlock ∧ some k_ ≠ (s_.2.2 : Value).ownBlock) s_.1 t152) ∧ (Kd.R (Kd.int .i64) 3 w' w.heap.size (fun k_ => some k_ ≠ (s_.2.2 : Value).ownBlock) s_.2.1 t155) ∧ (Kd.R (Kd.int .i64) 3 w' w.heap.size (fun k_ => some k_ ≠ (s_.2.1 : Value).ownBlock) s_.2.2 y158) ∧ (Below w.heap.size w w')) ?_ ?_
                  rotate_left
                  ·intro hJ0_2_3_4
                   refine join_ (σ := Value × Value × Value) 29 #[true, true, true, true, false, false, false, false, false, false, false, false, false, false, false, false, false, false, false, false, false, false, false, false, false, false, false, false, false, false, false, false, false] (fun s_ => [(15, .agg #[s_.1]), (17, s_.2.1), (18, s_.2.2)]) (fun s_ w' => (Kd.R k50 50 w' w.heap.size (fun _ => True) (.slice Ao23 y144.length co23) y144) ∧ (Kd.N k39 39 w' w.heap.size (fun k_ => some k_ ≠ (.slice Ao23 y144.length co23 : Value).ownBlock ∧ some k_ ≠ (s_.1 : Value).ownBlock ∧ some k_ ≠ (s_.2.1 : Value).ownBlock ∧ some k_ ≠ (s_.2.2 : Value).ownBlock) (.slice Ao22 t147.length co22) t147) ∧ (Kd.N k39 39 w' w.heap.size (fun k_ => some k_ ≠ (.slice Ao23 y144.length co23 : Value).ownBlock ∧ some k_ ≠ (.slice Ao22 t147.length co22 : Value).ownBlock ∧ some k_ ≠ (s_.2.1 : Value).ownBlock ∧ some k_ ≠ (s_.2.2 : Value).ownBlock) s_.1 t152) ∧ (Kd.R (Kd.int .i64) 3 w' w.heap.size (fun k_ => some k_ ≠ (s_.2.2 : Value).ownBlock) s_.2.1 t155) ∧ (Kd.R (Kd.int .i64) 3 w' w.heap.size (fun k_ => some k_ ≠ (s_.2.1 : Value).ownBlock) s_.2.2 y158) ∧ (Below w.heap.size w w')) ?_ ?_
                   rotate_left
                   ·intro hJ0_2_3
                    refine join_ (σ := Value × Value) 30 #[true, true, true, false, false, false, false, false, false, false, false, false, false, false, false, false, false, false, false, false, false, false, false, false, false, false, false, false, false, false, false, false, false] (fun s_ => [(15, .agg #[s_.1]), (17, s_.2)]) (fun s_ w' => (Kd.R k50 50 w' w.heap.size (fun _ => True) (.slice Ao23 y144.length co23) y144) ∧ (Kd.N k39 39 w' w.heap.size (fun k_ => some k_ ≠ (.slice Ao23 y144.length co23 : Value).ownBlock ∧ some k_ ≠ (s_.1 : Value).ownBlock ∧ some k_ ≠ (s_.2 : Value).ownBlock) (.slice Ao22 t147.length co22) t147) ∧ (Kd.N k39 39 w' w.heap.size (fun k_ => some k_ ≠ (.slice Ao23 y144.length co23 : Value).ownBlock ∧ some k_ ≠ (.slice Ao22 t147.length co22 : Value).ownBlock ∧ some k_ ≠ (s_.2 : Value).ownBlock) s_.1 t152) ∧ (Kd.R (Kd.int .i64) 3 w' w.heap.size (fun _ => True) s_.2 t155) ∧ (Below w.heap.size w w')) ?_ ?_
                    rotate_left
                    ·intro hJ0_2
                     refine join_ (σ := Value × Value) 30 #[true, true, false, true, false, false, false, false, false, false, false, false, false, false, false, false, false, false, false, false, false, false, false, false, false, false, false, false, false, false, false, false, false] (fun s_ => [(15, .agg #[s_.1]), (18, s_.2)]) (fun s_ w' => (Kd.R k50 50 w' w.heap.size (fun _ => True) (.slice Ao23 y144.length co23) y144) ∧ (Kd.N k39 39 w' w.heap.size (fun k_ => some k_ ≠ (.slice Ao23 y144.length co23 : Value).ownBlock ∧ some k_ ≠ (s_.1 : Value).ownBlock ∧ some k_ ≠ (s_.2 : Value).ownBlock) (.slice Ao22 t147.length co22) t147) ∧ (Kd.N k39 39 w' w.heap.size (fun k_ => some k_ ≠ (.slice Ao23 y144.length co23 : Value).ownBlock ∧ some k_ ≠ (.slice Ao22 t147.length co22 : Value).ownBlock ∧ some k_ ≠ (s_.2 : Value).ownBlock) s_.1 t152) ∧ (Kd.R (Kd.int .i64) 3 w' w.heap.size (fun _ => True) s_.2 y158) ∧ (Below w.heap.size w w')) ?_ ?_
                     rotate_left
                     ·intro hJ0_3
                      refine join_ (σ := Value) 31 #[true, true, false, false, false, false, false, false, false, false, false, false, false, false, false, false, false, false, false, false, false, false, false, false, false, false, false, false, false, false, false, false, false] (fun s_ => [(15, .agg #[s_])]) (fun s_ w' => (Kd.R k50 50 w' w.heap.size (fun _ => True) (.slice Ao23 y144.length co23) y144) ∧ (Kd.N k39 39 w' w.heap.size (fun k_ => some k_ ≠ (.slice Ao23 y144.length co23 : Value).ownBlock ∧ some k_ ≠ (s_ : Value).ownBlock) (.slice Ao22 t147.length co22) t147) ∧ (Kd.N k39 39 w' w.heap.size (fun k_ => some k_ ≠ (.slice Ao23 y144.length co23 : Value).ownBlock ∧ some k_ ≠ (.slice Ao22 t147.length co22 : Value).ownBlock) s_ t152) ∧ (Below w.heap.size w w')) ?_ ?_
                      rotate_left
                      ·intro hJ0
                       refine join_ (σ := Value) 31 #[false, true, false, true, false, false, false, false, false, false, false, false, false, false, false, false, false, false, false, false, false, false, false, false, false, false, false, false, false, false, false, false, false] (fun s_ => [(18, s_)]) (fun s_ w' => (Kd.R k50 50 w' w.heap.size (fun _ => True) (.slice Ao23 y144.length co23) y144) ∧ (Kd.N k39 39 w' w.heap.size (fun k_ => some k_ ≠ (.slice Ao23 y144.length co23 : Value).ownBlock ∧ some k_ ≠ (s_ : Value).ownBlock) (.slice Ao22 t147.length co22) t147) ∧ (Kd.R (Kd.int .i64) 3 w' w.heap.size (fun _ => True) s_ y158) ∧ (Below w.heap.size w w')) ?_ ?_
                       rotate_left
                       ·intro hJ3
                        refine two_ (i := 0) (j := 3) (Ni := some 15) (Nj := some 18) #[true, true, false, false, false, false, false, false, false, false, false, false, false, false, false, false, false, false, false, false, false, false, false, false, false, false, false, false, false, false, false, false, false] #[false, true, false, true, false, false, false, false, false, false, false, false, false, false, false, false, false, false, false, false, false, false, false, false, false, false, false, false, false, false, false, false, false] rfl rfl rfl rfl (two_of HT_.out c12') c24' c24' (fun K hK => ?_) (fun K hK => ?_)
                        ·skip
                         refine goes_ Tryz.func30 c12' rfl #[] (by rfl) rfl rfl c7' ?_
                         with_reducible refine (argosylaw32_both.calls  t152 _ A3.out).mono ?_
                         rintro e w26 ⟨v153, rfl, ho0, hb⟩
                         refine ⟨_, rfl, ?_⟩
                         have n0_ := Aside0.mk (Kd.R_below c1' hb)
                         have n1_ := Aside0.mk (Kd.N_elder' c5' (Kd.N_base ho0) hb)
                         have n2_ := Aside0.mk (Kd.N_lower (Kd.N_mono (ok' := fun k_ => some k_ ≠ (.slice Ao23 y144.length co23 : Value).ownBlock ∧ some k_ ≠ (.slice Ao22 t147.length co22 : Value).ownBlock) ho0 (fun k_ hk_ => ⟨(Kd.fresh' (Kd.R_lt c1') k_ hk_), (Kd.fresh' (Kd.N_lt c5') k_ hk_)⟩)) (below_size c0'))
                         have n3_ := Aside0.mk (below_step c0' hb)
                         clear HO146
                         clear HO149
                         clear HB
                         have HO146 := n0_
                         have HO149 := n1_
                         have HO154 := n2_
                         have HB := n3_
                         clear n0_ n1_ n2_ n3_
                         (try clear hb)
                         (try clear hb2)
                         (try clear hk)
                         (try clear hi)
                         (try clear ho0)
                         refine hK.out _ _ trivial (fun hHeld => ?_)
                         clear hK K
                         refine norm_ (a' := ?_) ?_ ?_
                         rotate_left
                         ·show Act.put _ (some 15) _ = _
                          simp only [Act.put, List.setIfInBounds_toArray, List.set_cons_zero, List.set_cons_succ, i64_w, i32_w]
                          rfl
                         exact norm_ c2' (hJ0 (v153) _ ⟨c1', c5', c6', c0'⟩)
                        ·skip
                         refine Kd.R_lit_step (Kd.int .i64) _ 3 ?hg (N := 18) ?hd (xs := ([1, 2, 3] : List Int)) (inner := [.int .i64 1, .int .i64 2, .int .i64 3]) (ok := fun _ => True) (okp := fun _ => True) ?hr ?hp (fun _ hk => hk) trivial (Below.refl _ _) (Nat.le_refl _) (by simp) ?_; (case hd => rfl); (case hg => rfl); (case hr => first | (go_simp; done) | (go_simp; rfl)); (case hp => exact (Reps.one (show Kd.M (Kd.int .i64) _ _ _ 1 [.int .i64 1] from rfl) (Reps.one (show Kd.M (Kd.int .i64) _ _ _ 2 [.int .i64 2] from rfl) (Reps.one (show Kd.M (Kd.int .i64) _ _ _ 3 [.int .i64 3] from rfl) (Reps.none _ _)))))
                         intro v159 w26 ho27 hb hg_ hnew_
                         clear hg_ hnew_
                         (first | rw [← Ny158.out] at ho27 | (simp only [Int.reduceToNat] at ho27; rw [← Ny158.out] at ho27))
                         have n0_ := Aside0.mk (Kd.R_below c1' hb)
                         have n1_ := Aside0.mk (Kd.N_elder' c5' (Kd.R_base ho27) hb)
                         have n2_ := Aside0.mk (Kd.R_lower ho27 (below_size c0'))
                         have n3_ := Aside0.mk (below_step c0' hb)
                         clear HO146
                         clear HO149
                         clear HB
                         have HO146 := n0_
                         have HO149 := n1_
                         have HO160 := n2_
                         have HB := n3_
                         clear n0_ n1_ n2_ n3_
                         clear hb ho27
                         refine hK.out _ _ trivial (fun hHeld => ?_)
                         clear hK K
                         refine norm_ (a' := ?_) ?_ ?_
                         rotate_left
                         ·show Act.put _ (some 18) _ = _
                          simp only [Act.put, List.setIfInBounds_toArray, List.set_cons_zero, List.set_cons_succ, i64_w, i32_w]
                          rfl
                         exact norm_ c2' (hJ3 (v159) _ ⟨c1', c5', c3', c0'⟩)
                       ·skip
                        rintro v159 w28 ⟨h0_, h1_, h2_, h3_⟩
                        have n0_ : Aside0 (Kd.R k50 50 w28 w.heap.size (fun _ => True) (.slice Ao23 y144.length co23) y144) := ⟨h0_⟩
                        have n1_ : Aside0 (Kd.N k39 39 w28 w.heap.size (fun k_ => some k_ ≠ (.slice Ao23 y144.length co23 : Value).ownBlock ∧ some k_ ≠ (v159 : Value).ownBlock) (.slice Ao22 t147.length co22) t147) := ⟨h1_⟩
                        have n2_ : Aside0 (Kd.R (Kd.int .i64) 3 w28 w.heap.size (fun _ => True) v159 y158) := ⟨h2_⟩
                        have n3_ : Aside0 (Below w.heap.size w w28) := ⟨h3_⟩
                        clear HO146
                        clear HO149
                        clear HB
                        clear h0_ h1_ h2_ h3_
                        have HO146 := n0_
                        have HO149 := n1_
                        have HO160 := n2_
                        have HB := n3_
                        clear n0_ n1_ n2_ n3_
                        have hHeld := trivial
                        refine norm_ (a' := ?_) ?_ ?_
                        rotate_left
                        ·simp only [putAll, Act.put, List.setIfInBounds_toArray, List.set_cons_zero, List.set_cons_succ]
                         rfl
                        refine one_ (i := 0) (N := some 15) #[true, true, false, true, false, false, false, false, false, false, false, false, false, false, false, false, false, false, false, false, false, false, false, false, false, false, false, false, false, false, false, false, false] rfl rfl (one_of HT_.out c12') c24' (fun K hK => ?_)
                        refine goes_ Tryz.func30 c12' rfl #[] (by rfl) rfl rfl c7' ?_
                        with_reducible refine (argosylaw32_both.calls  t152 _ A3.out).mono ?_
                        rintro e w29 ⟨v153, rfl, ho0, hb⟩
                        refine ⟨_, rfl, ?_⟩
                        have n0_ := Aside0.mk (Kd.R_below c1' hb)
                        have n1_ := Aside0.mk (Kd.N_elder' c5' (Kd.N_base ho0) hb)
                        have n2_ := Aside0.mk (Kd.R_below c3' hb)
                        have n3_ := Aside0.mk (Kd.N_lower (Kd.N_mono (ok' := fun k_ => some k_ ≠ (.slice Ao23 y144.length co23 : Value).ownBlock ∧ some k_ ≠ (.slice Ao22 t147.length co22 : Value).ownBlock ∧ some k_ ≠ (v159 : Value).ownBlock) ho0 (fun k_ hk_ => ⟨(Kd.fresh' (Kd.R_lt c1') k_ hk_), (Kd.fresh' (Kd.N_lt c5') k_ hk_), (Kd.fresh' (Kd.R_lt c3') k_ hk_)⟩)) (below_size c0'))
                        have n4_ := Aside0.mk (below_step c0' hb)
                        clear HO146
                        clear HO149
                        clear HO160
                        clear HB
                        have HO146 := n0_
                        have HO149 := n1_
                        have HO160 := n2_
                        have HO154 := n3_
                        have HB := n4_
                        clear n0_ n1_ n2_ n3_ n4_
                        (try clear hb)
                        (try clear hb2)
                        (try clear hk)
                        (try clear hi)
                        (try clear ho0)
                        refine hK.out _ _ trivial (fun hHeld => ?_)
                        clear hK K
                        refine norm_ (a' := ?_) ?_ ?_
                        rotate_left
                        ·show Act.put _ (some 15) _ = _
                         simp only [Act.put, List.setIfInBounds_toArray, List.set_cons_zero, List.set_cons_succ, i64_w, i32_w]
                         rfl
                        exact norm_ c2' (hJ0_3 (v153, v159) _ ⟨c1', (by (with_reducible repeat (first | apply Kd.N_alloc | apply Kd.N_drewN | apply Kd.N_drew)); exact Kd.N_mono HO149.out (fun _ hk => ⟨hk.1.1, ⟨hk.2, hk.1.2⟩⟩)), c6', c3', c0'⟩)
                      ·skip
                       rintro v153 w27 ⟨h0_, h1_, h2_, h3_⟩
                       have n0_ : Aside0 (Kd.R k50 50 w27 w.heap.size (fun _ => True) (.slice Ao23 y144.length co23) y144) := ⟨h0_⟩
                       have n1_ : Aside0 (Kd.N k39 39 w27 w.heap.size (fun k_ => some k_ ≠ (.slice Ao23 y144.length co23 : Value).ownBlock ∧ some k_ ≠ (v153 : Value).ownBlock) (.slice Ao22 t147.length co22) t147) := ⟨h1_⟩
                       have n2_ : Aside0 (Kd.N k39 39 w27 w.heap.size (fun k_ => some k_ ≠ (.slice Ao23 y144.length co23 : Value).ownBlock ∧ some k_ ≠ (.slice Ao22 t147.length co22 : Value).ownBlock) v153 t152) := ⟨h2_⟩
                       have n3_ : Aside0 (Below w.heap.size w w27) := ⟨h3_⟩
                       clear HO146
                       clear HO149
                       clear HB
                       clear h0_ h1_ h2_ h3_
                       have HO146 := n0_
                       have HO149 := n1_
                       have HO154 := n2_
                       have HB := n3_
                       clear n0_ n1_ n2_ n3_
                       have hHeld := trivial
                       obtain ⟨Ao28, co28, eo28⟩ := Kd.N_slice HO154.out
                       (first | subst eo28 | (injection eo28 with f1_ f2_ f3_; have f4_ := f1_.symm; have f5_ := f3_.symm; clear f1_ f2_ f3_; subst f4_; subst f5_))
                       refine norm_ (a' := ?_) ?_ ?_
                       rotate_left
                       ·simp only [putAll, Act.put, List.setIfInBounds_toArray, List.set_cons_zero, List.set_cons_succ]
                        rfl
                       refine two_ (i := 2) (j := 3) (Ni := some 17) (Nj := some 18) #[true, true, true, false, false, false, false, false, false, false, false, false, false, false, false, false, false, false, false, false, false, false, false, false, false, false, false, false, false, false, false, false, false] #[true, true, false, true, false, false, false, false, false, false, false, false, false, false, false, false, false, false, false, false, false, false, false, false, false, false, false, false, false, false, false, false, false] rfl rfl rfl rfl (two_of HT_.out c12') c24' c24' (fun K hK => ?_) (fun K hK => ?_)
                       ·skip
                        refine goes_ Tryz.func10 c12' rfl #[.agg #[.slice Ao28 t152.length co28], .slice Ao23 y144.length co23, .int .i64 0] (by rfl) rfl rfl c7' ?_
                        with_reducible refine (why_Of.calls _ _ t152 _ _ y144 0 t155 _ ?side1 ?side2 ?side3 ?side4 A4.out).mono ?_
                        (case side1 => repeat (first | exact (Kd.N_reads' HO154.out).2.2 | (with_reducible refine Kd.C_alloc ?_ _) | (with_reducible refine Kd.C_drewN ?_ _) | (with_reducible refine Kd.C_drew ?_)))
                        (case side2 => exact (Kd.N_reads' HO154.out).2.1)
                        (case side3 => repeat (first | exact (Kd.R_reads' HO146.out).2.2 | (with_reducible refine Kd.C_alloc ?_ _) | (with_reducible refine Kd.C_drewN ?_ _) | (with_reducible refine Kd.C_drew ?_)))
                        (case side4 => exact (Kd.R_reads' HO146.out).2.1)
                        rintro e w29 ⟨v156, rfl, ho0, hb⟩
                        refine ⟨_, rfl, ?_⟩
                        have n0_ := Aside0.mk (Kd.R_below c1' hb)
                        have n1_ := Aside0.mk (Kd.N_elder' c5' (Kd.R_base ho0) hb)
                        have n2_ := Aside0.mk (Kd.N_elder' c6' (Kd.R_base ho0) hb)
                        have n3_ := Aside0.mk (Kd.R_lower ho0 (below_size c0'))
                        have n4_ := Aside0.mk (below_step c0' hb)
                        clear HO146
                        clear HO149
                        clear HO154
                        clear HB
                        have HO146 := n0_
                        have HO149 := n1_
                        have HO154 := n2_
                        have HO157 := n3_
                        have HB := n4_
                        clear n0_ n1_ n2_ n3_ n4_
                        (try clear hb)
                        (try clear hb2)
                        (try clear hk)
                        (try clear hi)
                        (try clear ho0)
                        refine hK.out _ _ trivial (fun hHeld => ?_)
                        clear hK K
                        refine norm_ (a' := ?_) ?_ ?_
                        rotate_left
                        ·show Act.put _ (some 17) _ = _
                         simp only [Act.put, List.setIfInBounds_toArray, List.set_cons_zero, List.set_cons_succ, i64_w, i32_w]
                         rfl
                        exact norm_ c2' (hJ0_2 (.slice Ao28 t152.length co28, v156) _ ⟨c1', c26', c25', c4', c0'⟩)
                       ·skip
                        refine Kd.R_lit_step (Kd.int .i64) _ 3 ?hg (N := 18) ?hd (xs := ([1, 2, 3] : List Int)) (inner := [.int .i64 1, .int .i64 2, .int .i64 3]) (ok := fun _ => True) (okp := fun _ => True) ?hr ?hp (fun _ hk => hk) trivial (Below.refl _ _) (Nat.le_refl _) (by simp) ?_; (case hd => rfl); (case hg => rfl); (case hr => first | (go_simp; done) | (go_simp; rfl)); (case hp => exact (Reps.one (show Kd.M (Kd.int .i64) _ _ _ 1 [.int .i64 1] from rfl) (Reps.one (show Kd.M (Kd.int .i64) _ _ _ 2 [.int .i64 2] from rfl) (Reps.one (show Kd.M (Kd.int .i64) _ _ _ 3 [.int .i64 3] from rfl) (Reps.none _ _)))))
                        intro v159 w28 ho29 hb hg_ hnew_
                        clear hg_ hnew_
                        (first | rw [← Ny158.out] at ho29 | (simp only [Int.reduceToNat] at ho29; rw [← Ny158.out] at ho29))
                        have n0_ := Aside0.mk (Kd.R_below c1' hb)
                        have n1_ := Aside0.mk (Kd.N_elder' c5' (Kd.R_base ho29) hb)
                        have n2_ := Aside0.mk (Kd.N_elder' c6' (Kd.R_base ho29) hb)
                        have n3_ := Aside0.mk (Kd.R_lower ho29 (below_size c0'))
                        have n4_ := Aside0.mk (below_step c0' hb)
                        clear HO146
                        clear HO149
                        clear HO154
                        clear HB
                        have HO146 := n0_
                        have HO149 := n1_
                        have HO154 := n2_
                        have HO160 := n3_
                        have HB := n4_
                        clear n0_ n1_ n2_ n3_ n4_
                        clear hb ho29
                        refine hK.out _ _ trivial (fun hHeld => ?_)
                        clear hK K
                        refine norm_ (a' := ?_) ?_ ?_
                        rotate_left
                        ·show Act.put _ (some 18) _ = _
                         simp only [Act.put, List.setIfInBounds_toArray, List.set_cons_zero, List.set_cons_succ, i64_w, i32_w]
                         rfl
                        exact norm_ c2' (hJ0_3 ((.slice Ao28 t152.length co28 : Value), v159) _ ⟨c1', c26', c25', c3', c0'⟩)
                     ·skip
                      rintro ⟨v153, v159⟩ w29 ⟨h0_, h1_, h2_, h3_, h4_⟩
                      have n0_ : Aside0 (Kd.R k50 50 w29 w.heap.size (fun _ => True) (.slice Ao23 y144.length co23) y144) := ⟨h0_⟩
                      have n1_ : Aside0 (Kd.N k39 39 w29 w.heap.size (fun k_ => some k_ ≠ (.slice Ao23 y144.length co23 : Value).ownBlock ∧ some k_ ≠ (v153 : Value).ownBlock ∧ some k_ ≠ (v159 : Value).ownBlock) (.slice Ao22 t147.length co22) t147) := ⟨h1_⟩
                      have n2_ : Aside0 (Kd.N k39 39 w29 w.heap.size (fun k_ => some k_ ≠ (.slice Ao23 y144.length co23 : Value).ownBlock ∧ some k_ ≠ (.slice Ao22 t147.length co22 : Value).ownBlock ∧ some k_ ≠ (v159 : Value).ownBlock) v153 t152) := ⟨h2_⟩
                      have n3_ : Aside0 (Kd.R (Kd.int .i64) 3 w29 w.heap.size (fun _ => True) v159 y158) := ⟨h3_⟩
                      have n4_ : Aside0 (Below w.heap.size w w29) := ⟨h4_⟩
                      clear HO146
                      clear HO149
                      clear HB
                      clear h0_ h1_ h2_ h3_ h4_
                      have HO146 := n0_
                      have HO149 := n1_
                      have HO154 := n2_
                      have HO160 := n3_
                      have HB := n4_
                      clear n0_ n1_ n2_ n3_ n4_
                      have hHeld := trivial
                      obtain ⟨Ao30, co30, eo30⟩ := Kd.N_slice HO154.out
                      (first | subst eo30 | (injection eo30 with f1_ f2_ f3_; have f4_ := f1_.symm; have f5_ := f3_.symm; clear f1_ f2_ f3_; subst f4_; subst f5_))
                      refine norm_ (a' := ?_) ?_ ?_
                      rotate_left
                      ·simp only [putAll, Act.put, List.setIfInBounds_toArray, List.set_cons_zero, List.set_cons_succ]
                       rfl
                      refine one_ (i := 2) (N := some 17) #[true, true, true, true, false, false, false, false, false, false, false, false, false, false, false, false, false, false, false, false, false, false, false, false, false, false, false, false, false, false, false, false, false] rfl rfl (one_of HT_.out c12') c24' (fun K hK => ?_)
                      refine goes_ Tryz.func10 c12' rfl #[.agg #[.slice Ao30 t152.length co30], .slice Ao23 y144.length co23, .int .i64 0] (by rfl) rfl rfl c7' ?_
                      with_reducible refine (why_Of.calls _ _ t152 _ _ y144 0 t155 _ ?side1 ?side2 ?side3 ?side4 A4.out).mono ?_
                      (case side1 => repeat (first | exact (Kd.N_reads' HO154.out).2.2 | (with_reducible refine Kd.C_alloc ?_ _) | (with_reducible refine Kd.C_drewN ?_ _) | (with_reducible refine Kd.C_drew ?_)))
                      (case side2 => exact (Kd.N_reads' HO154.out).2.1)
                      (case side3 => repeat (first | exact (Kd.R_reads' HO146.out).2.2 | (with_reducible refine Kd.C_alloc ?_ _) | (with_reducible refine Kd.C_drewN ?_ _) | (with_reducible refine Kd.C_drew ?_)))
                      (case side4 => exact (Kd.R_reads' HO146.out).2.1)
                      rintro e w31 ⟨v156, rfl, ho0, hb⟩
                      refine ⟨_, rfl, ?_⟩
                      have n0_ := Aside0.mk (Kd.R_below c1' hb)
                      have n1_ := Aside0.mk (Kd.N_elder' c5' (Kd.R_base ho0) hb)
                      have n2_ := Aside0.mk (Kd.N_elder' c6' (Kd.R_base ho0) hb)
                      have n3_ := Aside0.mk (Kd.R_elder' c3' (Kd.R_base ho0) hb)
                      have n4_ := Aside0.mk (Kd.R_lower (Kd.R_new' ho0 (Kd.R_lt c3')) (below_size c0'))
                      have n5_ := Aside0.mk (below_step c0' hb)
                      clear HO146
                      clear HO149
                      clear HO154
                      clear HO160
                      clear HB
                      have HO146 := n0_
                      have HO149 := n1_
                      have HO154 := n2_
                      have HO160 := n3_
                      have HO157 := n4_
                      have HB := n5_
                      clear n0_ n1_ n2_ n3_ n4_ n5_
                      (try clear hb)
                      (try clear hb2)
                      (try clear hk)
                      (try clear hi)
                      (try clear ho0)
                      refine hK.out _ _ trivial (fun hHeld => ?_)
                      clear hK K
                      refine norm_ (a' := ?_) ?_ ?_
                      rotate_left
                      ·show Act.put _ (some 17) _ = _
                       simp only [Act.put, List.setIfInBounds_toArray, List.set_cons_zero, List.set_cons_succ, i64_w, i32_w]
                       rfl
                      exact norm_ c2' (hJ0_2_3 (.slice Ao30 t152.length co30, v156, v159) _ ⟨c1', (by (with_reducible repeat (first | apply Kd.N_alloc | apply Kd.N_drewN | apply Kd.N_drew)); exact Kd.N_mono HO149.out (fun _ hk => ⟨hk.1.1, ⟨hk.1.2.1, ⟨hk.2, hk.1.2.2⟩⟩⟩)), (by (with_reducible repeat (first | apply Kd.N_alloc | apply Kd.N_drewN | apply Kd.N_drew)); exact Kd.N_mono HO154.out (fun _ hk => ⟨hk.1.1, ⟨hk.1.2.1, ⟨hk.2, hk.1.2.2⟩⟩⟩)), c30', c29', c0'⟩)
                    ·skip
                     rintro ⟨v153, v156⟩ w29 ⟨h0_, h1_, h2_, h3_, h4_⟩
                     have n0_ : Aside0 (Kd.R k50 50 w29 w.heap.size (fun _ => True) (.slice Ao23 y144.length co23) y144) := ⟨h0_⟩
                     have n1_ : Aside0 (Kd.N k39 39 w29 w.heap.size (fun k_ => some k_ ≠ (.slice Ao23 y144.length co23 : Value).ownBlock ∧ some k_ ≠ (v153 : Value).ownBlock ∧ some k_ ≠ (v156 : Value).ownBlock) (.slice Ao22 t147.length co22) t147) := ⟨h1_⟩
                     have n2_ : Aside0 (Kd.N k39 39 w29 w.heap.size (fun k_ => some k_ ≠ (.slice Ao23 y144.length co23 : Value).ownBlock ∧ some k_ ≠ (.slice Ao22 t147.length co22 : Value).ownBlock ∧ some k_ ≠ (v156 : Value).ownBlock) v153 t152) := ⟨h2_⟩
                     have n3_ : Aside0 (Kd.R (Kd.int .i64) 3 w29 w.heap.size (fun _ => True) v156 t155) := ⟨h3_⟩
                     have n4_ : Aside0 (Below w.heap.size w w29) := ⟨h4_⟩
                     clear HO146
                     clear HO149
                     clear HB
                     clear h0_ h1_ h2_ h3_ h4_
                     have HO146 := n0_
                     have HO149 := n1_
                     have HO154 := n2_
                     have HO157 := n3_
                     have HB := n4_
                     clear n0_ n1_ n2_ n3_ n4_
                     have hHeld := trivial
                     refine norm_ (a' := ?_) ?_ ?_
                     rotate_left
                     ·simp only [putAll, Act.put, List.setIfInBounds_toArray, List.set_cons_zero, List.set_cons_succ]
                      rfl
                     refine one_ (i := 3) (N := some 18) #[true, true, true, true, false, false, false, false, false, false, false, false, false, false, false, false, false, false, false, false, false, false, false, false, false, false, false, false, false, false, false, false, false] rfl rfl (one_of HT_.out c12') c24' (fun K hK => ?_)
                     refine Kd.R_lit_step (Kd.int .i64) _ 3 ?hg (N := 18) ?hd (xs := ([1, 2, 3] : List Int)) (inner := [.int .i64 1, .int .i64 2, .int .i64 3]) (ok := fun _ => True) (okp := fun _ => True) ?hr ?hp (fun _ hk => hk) trivial (Below.refl _ _) (Nat.le_refl _) (by simp) ?_; (case hd => rfl); (case hg => rfl); (case hr => first | (go_simp; done) | (go_simp; rfl)); (case hp => exact (Reps.one (show Kd.M (Kd.int .i64) _ _ _ 1 [.int .i64 1] from rfl) (Reps.one (show Kd.M (Kd.int .i64) _ _ _ 2 [.int .i64 2] from rfl) (Reps.one (show Kd.M (Kd.int .i64) _ _ _ 3 [.int .i64 3] from rfl) (Reps.none _ _)))))
                     intro v159 w30 ho31 hb hg_ hnew_
                     clear hg_ hnew_
                     (first | rw [← Ny158.out] at ho31 | (simp only [Int.reduceToNat] at ho31; rw [← Ny158.out] at ho31))
                     have n0_ := Aside0.mk (Kd.R_below c1' hb)
                     have n1_ := Aside0.mk (Kd.N_elder' c5' (Kd.R_base ho31) hb)
                     have n2_ := Aside0.mk (Kd.N_elder' c6' (Kd.R_base ho31) hb)
                     have n3_ := Aside0.mk (Kd.R_elder' c4' (Kd.R_base ho31) hb)
                     have n4_ := Aside0.mk (Kd.R_lower (Kd.R_new' ho31 (Kd.R_lt c4')) (below_size c0'))
                     have n5_ := Aside0.mk (below_step c0' hb)
                     clear HO146
                     clear HO149
                     clear HO154
                     clear HO157
                     clear HB
                     have HO146 := n0_
                     have HO149 := n1_
                     have HO154 := n2_
                     have HO157 := n3_
                     have HO160 := n4_
                     have HB := n5_
                     clear n0_ n1_ n2_ n3_ n4_ n5_
                     clear hb ho31
                     refine hK.out _ _ trivial (fun hHeld => ?_)
                     clear hK K
                     refine norm_ (a' := ?_) ?_ ?_
                     rotate_left
                     ·show Act.put _ (some 18) _ = _
                      simp only [Act.put, List.setIfInBounds_toArray, List.set_cons_zero, List.set_cons_succ, i64_w, i32_w]
                      rfl
                     exact norm_ c2' (hJ0_2_3 (v153, v156, v159) _ ⟨c1', (by (with_reducible repeat (first | apply Kd.N_alloc | apply Kd.N_drewN | apply Kd.N_drew)); exact Kd.N_mono HO149.out (fun _ hk => ⟨hk.1.1, ⟨hk.1.2.1, ⟨hk.1.2.2, hk.2⟩⟩⟩)), (by (with_reducible repeat (first | apply Kd.N_alloc | apply Kd.N_drewN | apply Kd.N_drew)); exact Kd.N_mono HO154.out (fun _ hk => ⟨hk.1.1, ⟨hk.1.2.1, ⟨hk.1.2.2, hk.2⟩⟩⟩)), c30', c29', c0'⟩)
                   ·skip
                    rintro ⟨v153, v156, v159⟩ w31 ⟨h0_, h1_, h2_, h3_, h4_, h5_⟩
                    have n0_ : Aside0 (Kd.R k50 50 w31 w.heap.size (fun _ => True) (.slice Ao23 y144.length co23) y144) := ⟨h0_⟩
                    have n1_ : Aside0 (Kd.N k39 39 w31 w.heap.size (fun k_ => some k_ ≠ (.slice Ao23 y144.length co23 : Value).ownBlock ∧ some k_ ≠ (v153 : Value).ownBlock ∧ some k_ ≠ (v156 : Value).ownBlock ∧ some k_ ≠ (v159 : Value).ownBlock) (.slice Ao22 t147.length co22) t147) := ⟨h1_⟩
                    have n2_ : Aside0 (Kd.N k39 39 w31 w.heap.size (fun k_ => some k_ ≠ (.slice Ao23 y144.length co23 : Value).ownBlock ∧ some k_ ≠ (.slice Ao22 t147.length co22 : Value).ownBlock ∧ some k_ ≠ (v156 : Value).ownBlock ∧ some k_ ≠ (v159 : Value).ownBlock) v153 t152) := ⟨h2_⟩
                    have n3_ : Aside0 (Kd.R (Kd.int .i64) 3 w31 w.heap.size (fun k_ => some k_ ≠ (v159 : Value).ownBlock) v156 t155) := ⟨h3_⟩
                    have n4_ : Aside0 (Kd.R (Kd.int .i64) 3 w31 w.heap.size (fun k_ => some k_ ≠ (v156 : Value).ownBlock) v159 y158) := ⟨h4_⟩
                    have n5_ : Aside0 (Below w.heap.size w w31) := ⟨h5_⟩
                    clear HO146
                    clear HO149
                    clear HB
                    clear h0_ h1_ h2_ h3_ h4_ h5_
                    have HO146 := n0_
                    have HO149 := n1_
                    have HO154 := n2_
                    have HO157 := n3_
                    have HO160 := n4_
                    have HB := n5_
                    clear n0_ n1_ n2_ n3_ n4_ n5_
                    have hHeld := trivial
                    obtain ⟨Ao32, co32, eo32⟩ := Kd.R_slice HO157.out
                    (first | subst eo32 | (injection eo32 with f1_ f2_ f3_; have f4_ := f1_.symm; have f5_ := f3_.symm; clear f1_ f2_ f3_; subst f4_; subst f5_))
                    obtain ⟨Ao33, co33, eo33⟩ := Kd.R_slice HO160.out
                    (first | subst eo33 | (injection eo33 with f1_ f2_ f3_; have f4_ := f1_.symm; have f5_ := f3_.symm; clear f1_ f2_ f3_; subst f4_; subst f5_))
                    refine norm_ (a' := ?_) ?_ ?_
                    rotate_left
                    ·simp only [putAll, Act.put, List.setIfInBounds_toArray, List.set_cons_zero, List.set_cons_succ]
                     rfl
                    refine one_ (i := 4) (N := some 19) #[true, true, true, true, true, false, false, false, false, false, false, false, false, false, false, false, false, false, false, false, false, false, false, false, false, false, false, false, false, false, false, false, false] rfl rfl (one_of HT_.out c12') c24' (fun K hK => ?_)
                    refine goes_ Tryz.func31 c12' rfl #[.slice Ao32 t155.length co32, .slice Ao33 y158.length co33] (by rfl) rfl rfl c7' ?_
                    with_reducible refine (argosyref01_Same.calls k _ _ t155 _ _ y158 true _ ?side1 ?side2 ?side3 ?side4 A5.out).mono ?_
                    (case side1 => repeat (first | exact (Kd.R_reads' HO157.out).2.2 | (with_reducible refine Kd.C_alloc ?_ _) | (with_reducible refine Kd.C_drewN ?_ _) | (with_reducible refine Kd.C_drew ?_)))
                    (case side2 => exact (Kd.R_reads' HO157.out).2.1)
                    (case side3 => repeat (first | exact (Kd.R_reads' HO160.out).2.2 | (with_reducible refine Kd.C_alloc ?_ _) | (with_reducible refine Kd.C_drewN ?_ _) | (with_reducible refine Kd.C_drew ?_)))
                    (case side4 => exact (Kd.R_reads' HO160.out).2.1)
                    rintro e w' ⟨rfl, ⟨nd, rfl⟩⟩
                    refine ⟨_, rfl, ?_⟩
                    refine hK.out _ _ trivial (fun hHeld => ?_)
                    clear hK K
                    refine norm_ (a' := ?_) ?_ ?_
                    rotate_left
                    ·show Act.put _ (some 19) _ = _
                     simp only [Act.put, List.setIfInBounds_toArray, List.set_cons_zero, List.set_cons_succ, i64_w, i32_w]
                     rfl
                    refine pure_ (i := 5) (N := some 20) (v := ?_) (a' := ?_) #[true, true, true, true, true, true, false, false, false, false, false, false, false, false, false, false, false, false, false, false, false, false, false, false, false, false, false, false, false, false, false, false, false] rfl rfl (any_of HT_.out c12') (fun _ _ _ h => h) (Or.inl ⟨by rfl, ?_⟩) ?_ ?_
                    rotate_left
                    ·intro w'
                     go_simp
                     with_reducible rfl
                    rotate_left
                    ·simp only [Act.put, List.setIfInBounds_toArray, List.set_cons_zero, List.set_cons_succ, i64_w, i32_w]
                     rfl
                    refine pure_ (i := 7) (N := some 22) (v := ?_) (a' := ?_) #[true, true, true, true, true, true, false, true, false, false, false, false, false, false, false, false, false, false, false, false, false, false, false, false, false, false, false, false, false, false, false, false, false] rfl rfl (any_of HT_.out c12') (fun _ _ _ h => h) (Or.inl ⟨by rfl, ?_⟩) ?_ ?_
                    rotate_left
                    ·intro w'
                     go_simp
                     with_reducible rfl
                    rotate_left
                    ·simp only [Act.put, List.setIfInBounds_toArray, List.set_cons_zero, List.set_cons_succ, i64_w, i32_w]
                     rfl
                    exact norm_ c2' (hJ0_2_3_4 (v153, .slice Ao32 t155.length co32, .slice Ao33 y158.length co33) _ ⟨c1', c5', c6', c4', c3', c0'⟩)
                  ·skip
                   rintro ⟨v153, v156, v159⟩ w33 ⟨h0_, h1_, h2_, h3_, h4_, h5_⟩
                   have n0_ : Aside0 (Kd.R k50 50 w33 w.heap.size (fun _ => True) (.slice Ao23 y144.length co23) y144) := ⟨h0_⟩
                   have n1_ : Aside0 (Kd.N k39 39 w33 w.heap.size (fun k_ => some k_ ≠ (.slice Ao23 y144.length co23 : Value).ownBlock ∧ some k_ ≠ (v153 : Value).ownBlock ∧ some k_ ≠ (v156 : Value).ownBlock ∧ some k_ ≠ (v159 : Value).ownBlock) (.slice Ao22 t147.length co22) t147) := ⟨h1_⟩
                   have n2_ : Aside0 (Kd.N k39 39 w33 w.heap.size (fun k_ => some k_ ≠ (.slice Ao23 y144.length co23 : Value).ownBlock ∧ some k_ ≠ (.slice Ao22 t147.length co22 : Value).ownBlock ∧ some k_ ≠ (v156 : Value).ownBlock ∧ some k_ ≠ (v159 : Value).ownBlock) v153 t152) := ⟨h2_⟩
                   have n3_ : Aside0 (Kd.R (Kd.int .i64) 3 w33 w.heap.size (fun k_ => some k_ ≠ (v159 : Value).ownBlock) v156 t155) := ⟨h3_⟩
                   have n4_ : Aside0 (Kd.R (Kd.int .i64) 3 w33 w.heap.size (fun k_ => some k_ ≠ (v156 : Value).ownBlock) v159 y158) := ⟨h4_⟩
                   have n5_ : Aside0 (Below w.heap.size w w33) := ⟨h5_⟩
                   clear HO146
                   clear HO149
                   clear HB
                   clear h0_ h1_ h2_ h3_ h4_ h5_
                   have HO146 := n0_
                   have HO149 := n1_
                   have HO154 := n2_
                   have HO157 := n3_
                   have HO160 := n4_
                   have HB := n5_
                   clear n0_ n1_ n2_ n3_ n4_ n5_
                   have hHeld := trivial
                   refine norm_ (a' := ?_) ?_ ?_
                   rotate_left
                   ·simp only [putAll, Act.put, List.setIfInBounds_toArray, List.set_cons_zero, List.set_cons_succ]
                    rfl
                   refine two_ (i := 6) (j := 9) (Ni := some 21) (Nj := some 24) #[true, true, true, true, true, true, true, true, false, false, false, false, false, false, false, false, false, false, false, false, false, false, false, false, false, false, false, false, false, false, false, false, false] #[true, true, true, true, true, true, false, true, false, true, false, false, false, false, false, false, false, false, false, false, false, false, false, false, false, false, false, false, false, false, false, false, false] rfl rfl rfl rfl (two_of HT_.out c12') c24' c24' (fun K hK => ?_) (fun K hK => ?_)
                   ·skip
                    refine goes_ Tryz.func30 c12' rfl #[] (by rfl) rfl rfl c7' ?_
                    with_reducible refine (argosylaw32_both.calls  t162 _ A7.out).mono ?_
                    rintro e w34 ⟨v163, rfl, ho0, hb⟩
                    refine ⟨_, rfl, ?_⟩
                    have n0_ := Aside0.mk (Kd.R_below c1' hb)
                    have n1_ := Aside0.mk (Kd.N_elder' c5' (Kd.N_base ho0) hb)
                    have n2_ := Aside0.mk (Kd.N_elder' c6' (Kd.N_base ho0) hb)
                    have n3_ := Aside0.mk (Kd.R_below c4' hb)
                    have n4_ := Aside0.mk (Kd.R_below c3' hb)
                    have n5_ := Aside0.mk (Kd.N_lower (Kd.N_mono (ok' := fun k_ => some k_ ≠ (.slice Ao23 y144.length co23 : Value).ownBlock ∧ some k_ ≠ (.slice Ao22 t147.length co22 : Value).ownBlock ∧ some k_ ≠ (v153 : Value).ownBlock ∧ some k_ ≠ (v156 : Value).ownBlock ∧ some k_ ≠ (v159 : Value).ownBlock) ho0 (fun k_ hk_ => ⟨(Kd.fresh' (Kd.R_lt c1') k_ hk_), (Kd.fresh' (Kd.N_lt c5') k_ hk_), (Kd.fresh' (Kd.N_lt c6') k_ hk_), (Kd.fresh' (Kd.R_lt c4') k_ hk_), (Kd.fresh' (Kd.R_lt c3') k_ hk_)⟩)) (below_size c0'))
                    have n6_ := Aside0.mk (below_step c0' hb)
                    clear HO146
                    clear HO149
                    clear HO154
                    clear HO157
                    clear HO160
                    clear HB
                    have HO146 := n0_
                    have HO149 := n1_
                    have HO154 := n2_
                    have HO157 := n3_
                    have HO160 := n4_
                    have HO164 := n5_
                    have HB := n6_
                    clear n0_ n1_ n2_ n3_ n4_ n5_ n6_
                    (try clear hb)
                    (try clear hb2)
                    (try clear hk)
                    (try clear hi)
                    (try clear ho0)
                    refine hK.out _ _ trivial (fun hHeld => ?_)
                    clear hK K
                    refine norm_ (a' := ?_) ?_ ?_
                    rotate_left
                    ·show Act.put _ (some 21) _ = _
                     simp only [Act.put, List.setIfInBounds_toArray, List.set_cons_zero, List.set_cons_succ, i64_w, i32_w]
                     rfl
                    exact norm_ c2' (hJ0_2_3_4_6 (v153, v156, v159, v163) _ ⟨c1', c23', c22', c4', c3', c10', c0'⟩)
                   ·skip
                    refine Kd.R_lit_step (Kd.int .i64) _ 3 ?hg (N := 24) ?hd (xs := ([1, 3] : List Int)) (inner := [.int .i64 1, .int .i64 3]) (ok := fun _ => True) (okp := fun _ => True) ?hr ?hp (fun _ hk => hk) trivial (Below.refl _ _) (Nat.le_refl _) (by simp) ?_; (case hd => rfl); (case hg => rfl); (case hr => first | (go_simp; done) | (go_simp; rfl)); (case hp => exact (Reps.one (show Kd.M (Kd.int .i64) _ _ _ 1 [.int .i64 1] from rfl) (Reps.one (show Kd.M (Kd.int .i64) _ _ _ 3 [.int .i64 3] from rfl) (Reps.none _ _))))
                    intro v169 w34 ho35 hb hg_ hnew_
                    clear hg_ hnew_
                    (first | rw [← Ny168.out] at ho35 | (simp only [Int.reduceToNat] at ho35; rw [← Ny168.out] at ho35))
                    have n0_ := Aside0.mk (Kd.R_below c1' hb)
                    have n1_ := Aside0.mk (Kd.N_elder' c5' (Kd.R_base ho35) hb)
                    have n2_ := Aside0.mk (Kd.N_elder' c6' (Kd.R_base ho35) hb)
                    have n3_ := Aside0.mk (Kd.R_elder' c4' (Kd.R_base ho35) hb)
                    have n4_ := Aside0.mk (Kd.R_elder' c3' (Kd.R_base ho35) hb)
                    have n5_ := Aside0.mk (Kd.R_lower (Kd.R_new' (Kd.R_new' ho35 (Kd.R_lt c4')) (Kd.R_lt c3')) (below_size c0'))
                    have n6_ := Aside0.mk (below_step c0' hb)
                    clear HO146
                    clear HO149
                    clear HO154
                    clear HO157
                    clear HO160
                    clear HB
                    have HO146 := n0_
                    have HO149 := n1_
                    have HO154 := n2_
                    have HO157 := n3_
                    have HO160 := n4_
                    have HO170 := n5_
                    have HB := n6_
                    clear n0_ n1_ n2_ n3_ n4_ n5_ n6_
                    clear hb ho35
                    refine hK.out _ _ trivial (fun hHeld => ?_)
                    clear hK K
                    refine norm_ (a' := ?_) ?_ ?_
                    rotate_left
                    ·show Act.put _ (some 24) _ = _
                     simp only [Act.put, List.setIfInBounds_toArray, List.set_cons_zero, List.set_cons_succ, i64_w, i32_w]
                     rfl
                    exact norm_ c2' (hJ0_2_3_4_9 (v153, v156, v159, v169) _ ⟨c1', c23', c22', c4', c3', c27', c0'⟩)
                 ·skip
                  rintro ⟨v153, v156, v159, v169⟩ w35 ⟨h0_, h1_, h2_, h3_, h4_, h5_, h6_⟩
                  have n0_ : Aside0 (Kd.R k50 50 w35 w.heap.size (fun _ => True) (.slice Ao23 y144.length co23) y144) := ⟨h0_⟩
                  have n1_ : Aside0 (Kd.N k39 39 w35 w.heap.size (fun k_ => some k_ ≠ (.slice Ao23 y144.length co23 : Value).ownBlock ∧ some k_ ≠ (v153 : Value).ownBlock ∧ some k_ ≠ (v156 : Value).ownBlock ∧ some k_ ≠ (v159 : Value).ownBlock ∧ some k_ ≠ (v169 : Value).ownBlock) (.slice Ao22 t147.length co22) t147) := ⟨h1_⟩
                  have n2_ : Aside0 (Kd.N k39 39 w35 w.heap.size (fun k_ => some k_ ≠ (.slice Ao23 y144.length co23 : Value).ownBlock ∧ some k_ ≠ (.slice Ao22 t147.length co22 : Value).ownBlock ∧ some k_ ≠ (v156 : Value).ownBlock ∧ some k_ ≠ (v159 : Value).ownBlock ∧ some k_ ≠ (v169 : Value).ownBlock) v153 t152) := ⟨h2_⟩
                  have n3_ : Aside0 (Kd.R (Kd.int .i64) 3 w35 w.heap.size (fun k_ => some k_ ≠ (v159 : Value).ownBlock ∧ some k_ ≠ (v169 : Value).ownBlock) v156 t155) := ⟨h3_⟩
                  have n4_ : Aside0 (Kd.R (Kd.int .i64) 3 w35 w.heap.size (fun k_ => some k_ ≠ (v156 : Value).ownBlock ∧ some k_ ≠ (v169 : Value).ownBlock) v159 y158) := ⟨h4_⟩
                  have n5_ : Aside0 (Kd.R (Kd.int .i64) 3 w35 w.heap.size (fun k_ => some k_ ≠ (v156 : Value).ownBlock ∧ some k_ ≠ (v159 : Value).ownBlock) v169 y168) := ⟨h5_⟩
                  have n6_ : Aside0 (Below w.heap.size w w35) := ⟨h6_⟩
                  clear HO146
                  clear HO149
                  clear HB
                  clear h0_ h1_ h2_ h3_ h4_ h5_ h6_
                  have HO146 := n0_
                  have HO149 := n1_
                  have HO154 := n2_
                  have HO157 := n3_
                  have HO160 := n4_
                  have HO170 := n5_
                  have HB := n6_
                  clear n0_ n1_ n2_ n3_ n4_ n5_ n6_
                  have hHeld := trivial
                  refine norm_ (a' := ?_) ?_ ?_
                  rotate_left
                  ·simp only [putAll, Act.put, List.setIfInBounds_toArray, List.set_cons_zero, List.set_cons_succ]
                   rfl
                  refine one_ (i := 6) (N := some 21) #[true, true, true, true, true, true, true, true, false, true, false, false, false, false, false, false, false, false, false, false, false, false, false, false, false, false, false, false, false, false, false, false, false] rfl rfl (one_of HT_.out c12') c24' (fun K hK => ?_)
                  refine goes_ Tryz.func30 c12' rfl #[] (by rfl) rfl rfl c7' ?_
                  with_reducible refine (argosylaw32_both.calls  t162 _ A7.out).mono ?_
                  rintro e w36 ⟨v163, rfl, ho0, hb⟩
                  refine ⟨_, rfl, ?_⟩
                  have n0_ := Aside0.mk (Kd.R_below c1' hb)
                  have n1_ := Aside0.mk (Kd.N_elder' c5' (Kd.N_base ho0) hb)
                  have n2_ := Aside0.mk (Kd.N_elder' c6' (Kd.N_base ho0) hb)
                  have n3_ := Aside0.mk (Kd.R_below c4' hb)
                  have n4_ := Aside0.mk (Kd.R_below c3' hb)
                  have n5_ := Aside0.mk (Kd.R_below c8' hb)
                  have n6_ := Aside0.mk (Kd.N_lower (Kd.N_mono (ok' := fun k_ => some k_ ≠ (.slice Ao23 y144.length co23 : Value).ownBlock ∧ some k_ ≠ (.slice Ao22 t147.length co22 : Value).ownBlock ∧ some k_ ≠ (v153 : Value).ownBlock ∧ some k_ ≠ (v156 : Value).ownBlock ∧ some k_ ≠ (v159 : Value).ownBlock ∧ some k_ ≠ (v169 : Value).ownBlock) ho0 (fun k_ hk_ => ⟨(Kd.fresh' (Kd.R_lt c1') k_ hk_), (Kd.fresh' (Kd.N_lt c5') k_ hk_), (Kd.fresh' (Kd.N_lt c6') k_ hk_), (Kd.fresh' (Kd.R_lt c4') k_ hk_), (Kd.fresh' (Kd.R_lt c3') k_ hk_), (Kd.fresh' (Kd.R_lt c8') k_ hk_)⟩)) (below_size c0'))
                  have n7_ := Aside0.mk (below_step c0' hb)
                  clear HO146
                  clear HO149
                  clear HO154
                  clear HO157
                  clear HO160
                  clear HO170
                  clear HB
                  have HO146 := n0_
                  have HO149 := n1_
                  have HO154 := n2_
                  have HO157 := n3_
                  have HO160 := n4_
                  have HO170 := n5_
                  have HO164 := n6_
                  have HB := n7_
                  clear n0_ n1_ n2_ n3_ n4_ n5_ n6_ n7_
                  (try clear hb)
                  (try clear hb2)
                  (try clear hk)
                  (try clear hi)
                  (try clear ho0)
                  refine hK.out _ _ trivial (fun hHeld => ?_)
                  clear hK K
                  refine norm_ (a' := ?_) ?_ ?_
                  rotate_left
                  ·show Act.put _ (some 21) _ = _
                   simp only [Act.put, List.setIfInBounds_toArray, List.set_cons_zero, List.set_cons_succ, i64_w, i32_w]
                   rfl
                  exact norm_ c2' (hJ0_2_3_4_6_9 (v153, v156, v159, v163, v169) _ ⟨c1', (by (with_reducible repeat (first | apply Kd.N_alloc | apply Kd.N_drewN | apply Kd.N_drew)); exact Kd.N_mono HO149.out (fun _ hk => ⟨hk.1.1, ⟨hk.1.2.1, ⟨hk.1.2.2.1, ⟨hk.1.2.2.2.1, ⟨hk.2, hk.1.2.2.2.2⟩⟩⟩⟩⟩)), (by (with_reducible repeat (first | apply Kd.N_alloc | apply Kd.N_drewN | apply Kd.N_drew)); exact Kd.N_mono HO154.out (fun _ hk => ⟨hk.1.1, ⟨hk.1.2.1, ⟨hk.1.2.2.1, ⟨hk.1.2.2.2.1, ⟨hk.2, hk.1.2.2.2.2⟩⟩⟩⟩⟩)), c4', c3', c10', c8', c0'⟩)
                ·skip
                 rintro ⟨v153, v156, v159, v163⟩ w34 ⟨h0_, h1_, h2_, h3_, h4_, h5_, h6_⟩
                 have n0_ : Aside0 (Kd.R k50 50 w34 w.heap.size (fun _ => True) (.slice Ao23 y144.length co23) y144) := ⟨h0_⟩
                 have n1_ : Aside0 (Kd.N k39 39 w34 w.heap.size (fun k_ => some k_ ≠ (.slice Ao23 y144.length co23 : Value).ownBlock ∧ some k_ ≠ (v153 : Value).ownBlock ∧ some k_ ≠ (v156 : Value).ownBlock ∧ some k_ ≠ (v159 : Value).ownBlock ∧ some k_ ≠ (v163 : Value).ownBlock) (.slice Ao22 t147.length co22) t147) := ⟨h1_⟩
                 have n2_ : Aside0 (Kd.N k39 39 w34 w.heap.size (fun k_ => some k_ ≠ (.slice Ao23 y144.length co23 : Value).ownBlock ∧ some k_ ≠ (.slice Ao22 t147.length co22 : Value).ownBlock ∧ some k_ ≠ (v156 : Value).ownBlock ∧ some k_ ≠ (v159 : Value).ownBlock ∧ some k_ ≠ (v163 : Value).ownBlock) v153 t152) := ⟨h2_⟩
                 have n3_ : Aside0 (Kd.R (Kd.int .i64) 3 w34 w.heap.size (fun k_ => some k_ ≠ (v159 : Value).ownBlock) v156 t155) := ⟨h3_⟩
                 have n4_ : Aside0 (Kd.R (Kd.int .i64) 3 w34 w.heap.size (fun k_ => some k_ ≠ (v156 : Value).ownBlock) v159 y158) := ⟨h4_⟩
                 have n5_ : Aside0 (Kd.N k39 39 w34 w.heap.size (fun k_ => some k_ ≠ (.slice Ao23 y144.length co23 : Value).ownBlock ∧ some k_ ≠ (.slice Ao22 t147.length co22 : Value).ownBlock ∧ some k_ ≠ (v153 : Value).ownBlock ∧ some k_ ≠ (v156 : Value).ownBlock ∧ some k_ ≠ (v159 : Value).ownBlock) v163 t162) := ⟨h5_⟩
                 have n6_ : Aside0 (Below w.heap.size w w34) := ⟨h6_⟩
                 clear HO146
                 clear HO149
                 clear HB
                 clear h0_ h1_ h2_ h3_ h4_ h5_ h6_
                 have HO146 := n0_
                 have HO149 := n1_
                 have HO154 := n2_
                 have HO157 := n3_
                 have HO160 := n4_
                 have HO164 := n5_
                 have HB := n6_
                 clear n0_ n1_ n2_ n3_ n4_ n5_ n6_
                 have hHeld := trivial
                 obtain ⟨Ao35, co35, eo35⟩ := Kd.N_slice HO164.out
                 (first | subst eo35 | (injection eo35 with f1_ f2_ f3_; have f4_ := f1_.symm; have f5_ := f3_.symm; clear f1_ f2_ f3_; subst f4_; subst f5_))
                 refine norm_ (a' := ?_) ?_ ?_
                 rotate_left
                 ·simp only [putAll, Act.put, List.setIfInBounds_toArray, List.set_cons_zero, List.set_cons_succ]
                  rfl
                 refine two_ (i := 8) (j := 9) (Ni := some 23) (Nj := some 24) #[true, true, true, true, true, true, true, true, true, false, false, false, false, false, false, false, false, false, false, false, false, false, false, false, false, false, false, false, false, false, false, false, false] #[true, true, true, true, true, true, true, true, false, true, false, false, false, false, false, false, false, false, false, false, false, false, false, false, false, false, false, false, false, false, false, false, false] rfl rfl rfl rfl (two_of HT_.out c12') c24' c24' (fun K hK => ?_) (fun K hK => ?_)
                 ·skip
                  refine goes_ Tryz.func11 c12' rfl #[.agg #[.slice Ao35 t162.length co35], .slice Ao23 y144.length co23, .int .i64 0] (by rfl) rfl rfl c7' ?_
                  with_reducible refine (why_Steps.calls _ _ t162 _ _ y144 0 t165 _ ?side1 ?side2 ?side3 ?side4 A8.out).mono ?_
                  (case side1 => repeat (first | exact (Kd.N_reads' HO164.out).2.2 | (with_reducible refine Kd.C_alloc ?_ _) | (with_reducible refine Kd.C_drewN ?_ _) | (with_reducible refine Kd.C_drew ?_)))
                  (case side2 => exact (Kd.N_reads' HO164.out).2.1)
                  (case side3 => repeat (first | exact (Kd.R_reads' HO146.out).2.2 | (with_reducible refine Kd.C_alloc ?_ _) | (with_reducible refine Kd.C_drewN ?_ _) | (with_reducible refine Kd.C_drew ?_)))
                  (case side4 => exact (Kd.R_reads' HO146.out).2.1)
                  rintro e w36 ⟨v166, rfl, ho0, hb⟩
                  refine ⟨_, rfl, ?_⟩
                  have n0_ := Aside0.mk (Kd.R_below c1' hb)
                  have n1_ := Aside0.mk (Kd.N_elder' c5' (Kd.R_base ho0) hb)
                  have n2_ := Aside0.mk (Kd.N_elder' c6' (Kd.R_base ho0) hb)
                  have n3_ := Aside0.mk (Kd.R_elder' c4' (Kd.R_base ho0) hb)
                  have n4_ := Aside0.mk (Kd.R_elder' c3' (Kd.R_base ho0) hb)
                  have n5_ := Aside0.mk (Kd.N_elder' c10' (Kd.R_base ho0) hb)
                  have n6_ := Aside0.mk (Kd.R_lower (Kd.R_new' (Kd.R_new' ho0 (Kd.R_lt c4')) (Kd.R_lt c3')) (below_size c0'))
                  have n7_ := Aside0.mk (below_step c0' hb)
                  clear HO146
                  clear HO149
                  clear HO154
                  clear HO157
                  clear HO160
                  clear HO164
                  clear HB
                  have HO146 := n0_
                  have HO149 := n1_
                  have HO154 := n2_
                  have HO157 := n3_
                  have HO160 := n4_
                  have HO164 := n5_
                  have HO167 := n6_
                  have HB := n7_
                  clear n0_ n1_ n2_ n3_ n4_ n5_ n6_ n7_
                  (try clear hb)
                  (try clear hb2)
                  (try clear hk)
                  (try clear hi)
                  (try clear ho0)
                  refine hK.out _ _ trivial (fun hHeld => ?_)
                  clear hK K
                  refine norm_ (a' := ?_) ?_ ?_
                  rotate_left
                  ·show Act.put _ (some 23) _ = _
                   simp only [Act.put, List.setIfInBounds_toArray, List.set_cons_zero, List.set_cons_succ, i64_w, i32_w]
                   rfl
                  exact norm_ c2' (hJ0_2_3_4_6_8 (v153, v156, v159, .slice Ao35 t162.length co35, v166) _ ⟨c1', c21', c20', c4', c3', c19', (by (with_reducible repeat (first | apply Kd.R_alloc | apply Kd.R_drewN | apply Kd.R_drew)); exact Kd.R_mono HO167.out (fun _ hk => ⟨hk.1.2, hk.2⟩)), c0'⟩)
                 ·skip
                  refine Kd.R_lit_step (Kd.int .i64) _ 3 ?hg (N := 24) ?hd (xs := ([1, 3] : List Int)) (inner := [.int .i64 1, .int .i64 3]) (ok := fun _ => True) (okp := fun _ => True) ?hr ?hp (fun _ hk => hk) trivial (Below.refl _ _) (Nat.le_refl _) (by simp) ?_; (case hd => rfl); (case hg => rfl); (case hr => first | (go_simp; done) | (go_simp; rfl)); (case hp => exact (Reps.one (show Kd.M (Kd.int .i64) _ _ _ 1 [.int .i64 1] from rfl) (Reps.one (show Kd.M (Kd.int .i64) _ _ _ 3 [.int .i64 3] from rfl) (Reps.none _ _))))
                  intro v169 w35 ho36 hb hg_ hnew_
                  clear hg_ hnew_
                  (first | rw [← Ny168.out] at ho36 | (simp only [Int.reduceToNat] at ho36; rw [← Ny168.out] at ho36))
                  have n0_ := Aside0.mk (Kd.R_below c1' hb)
                  have n1_ := Aside0.mk (Kd.N_elder' c5' (Kd.R_base ho36) hb)
                  have n2_ := Aside0.mk (Kd.N_elder' c6' (Kd.R_base ho36) hb)
                  have n3_ := Aside0.mk (Kd.R_elder' c4' (Kd.R_base ho36) hb)
                  have n4_ := Aside0.mk (Kd.R_elder' c3' (Kd.R_base ho36) hb)
                  have n5_ := Aside0.mk (Kd.N_elder' c10' (Kd.R_base ho36) hb)
                  have n6_ := Aside0.mk (Kd.R_lower (Kd.R_new' (Kd.R_new' ho36 (Kd.R_lt c4')) (Kd.R_lt c3')) (below_size c0'))
                  have n7_ := Aside0.mk (below_step c0' hb)
                  clear HO146
                  clear HO149
                  clear HO154
                  clear HO157
                  clear HO160
                  clear HO164
                  clear HB
                  have HO146 := n0_
                  have HO149 := n1_
                  have HO154 := n2_
                  have HO157 := n3_
                  have HO160 := n4_
                  have HO164 := n5_
                  have HO170 := n6_
                  have HB := n7_
                  clear n0_ n1_ n2_ n3_ n4_ n5_ n6_ n7_
                  clear hb ho36
                  refine hK.out _ _ trivial (fun hHeld => ?_)
                  clear hK K
                  refine norm_ (a' := ?_) ?_ ?_
                  rotate_left
                  ·show Act.put _ (some 24) _ = _
                   simp only [Act.put, List.setIfInBounds_toArray, List.set_cons_zero, List.set_cons_succ, i64_w, i32_w]
                   rfl
                  exact norm_ c2' (hJ0_2_3_4_6_9 (v153, v156, v159, (.slice Ao35 t162.length co35 : Value), v169) _ ⟨c1', c21', c20', c4', c3', c19', c27', c0'⟩)
               ·skip
                rintro ⟨v153, v156, v159, v163, v169⟩ w36 ⟨h0_, h1_, h2_, h3_, h4_, h5_, h6_, h7_⟩
                have n0_ : Aside0 (Kd.R k50 50 w36 w.heap.size (fun _ => True) (.slice Ao23 y144.length co23) y144) := ⟨h0_⟩
                have n1_ : Aside0 (Kd.N k39 39 w36 w.heap.size (fun k_ => some k_ ≠ (.slice Ao23 y144.length co23 : Value).ownBlock ∧ some k_ ≠ (v153 : Value).ownBlock ∧ some k_ ≠ (v156 : Value).ownBlock ∧ some k_ ≠ (v159 : Value).ownBlock ∧ some k_ ≠ (v163 : Value).ownBlock ∧ some k_ ≠ (v169 : Value).ownBlock) (.slice Ao22 t147.length co22) t147) := ⟨h1_⟩
                have n2_ : Aside0 (Kd.N k39 39 w36 w.heap.size (fun k_ => some k_ ≠ (.slice Ao23 y144.length co23 : Value).ownBlock ∧ some k_ ≠ (.slice Ao22 t147.length co22 : Value).ownBlock ∧ some k_ ≠ (v156 : Value).ownBlock ∧ some k_ ≠ (v159 : Value).ownBlock ∧ some k_ ≠ (v163 : Value).ownBlock ∧ some k_ ≠ (v169 : Value).ownBlock) v153 t152) := ⟨h2_⟩
                have n3_ : Aside0 (Kd.R (Kd.int .i64) 3 w36 w.heap.size (fun k_ => some k_ ≠ (v159 : Value).ownBlock ∧ some k_ ≠ (v169 : Value).ownBlock) v156 t155) := ⟨h3_⟩
                have n4_ : Aside0 (Kd.R (Kd.int .i64) 3 w36 w.heap.size (fun k_ => some k_ ≠ (v156 : Value).ownBlock ∧ some k_ ≠ (v169 : Value).ownBlock) v159 y158) := ⟨h4_⟩
                have n5_ : Aside0 (Kd.N k39 39 w36 w.heap.size (fun k_ => some k_ ≠ (.slice Ao23 y144.length co23 : Value).ownBlock ∧ some k_ ≠ (.slice Ao22 t147.length co22 : Value).ownBlock ∧ some k_ ≠ (v153 : Value).ownBlock ∧ some k_ ≠ (v156 : Value).ownBlock ∧ some k_ ≠ (v159 : Value).ownBlock ∧ some k_ ≠ (v169 : Value).ownBlock) v163 t162) := ⟨h5_⟩
                have n6_ : Aside0 (Kd.R (Kd.int .i64) 3 w36 w.heap.size (fun k_ => some k_ ≠ (v156 : Value).ownBlock ∧ some k_ ≠ (v159 : Value).ownBlock) v169 y168) := ⟨h6_⟩
                have n7_ : Aside0 (Below w.heap.size w w36) := ⟨h7_⟩
                clear HO146
                clear HO149
                clear HB
                clear h0_ h1_ h2_ h3_ h4_ h5_ h6_ h7_
                have HO146 := n0_
                have HO149 := n1_
                have HO154 := n2_
                have HO157 := n3_
                have HO160 := n4_
                have HO164 := n5_
                have HO170 := n6_
                have HB := n7_
                clear n0_ n1_ n2_ n3_ n4_ n5_ n6_ n7_
                have hHeld := trivial
                obtain ⟨Ao37, co37, eo37⟩ := Kd.N_slice HO164.out
                (first | subst eo37 | (injection eo37 with f1_ f2_ f3_; have f4_ := f1_.symm; have f5_ := f3_.symm; clear f1_ f2_ f3_; subst f4_; subst f5_))
                refine norm_ (a' := ?_) ?_ ?_
                rotate_left
                ·simp only [putAll, Act.put, List.setIfInBounds_toArray, List.set_cons_zero, List.set_cons_succ]
                 rfl
                refine one_ (i := 8) (N := some 23) #[true, true, true, true, true, true, true, true, true, true, false, false, false, false, false, false, false, false, false, false, false, false, false, false, false, false, false, false, false, false, false, false, false] rfl rfl (one_of HT_.out c12') c24' (fun K hK => ?_)
                refine goes_ Tryz.func11 c12' rfl #[.agg #[.slice Ao37 t162.length co37], .slice Ao23 y144.length co23, .int .i64 0] (by rfl) rfl rfl c7' ?_
                with_reducible refine (why_Steps.calls _ _ t162 _ _ y144 0 t165 _ ?side1 ?side2 ?side3 ?side4 A8.out).mono ?_
                (case side1 => repeat (first | exact (Kd.N_reads' HO164.out).2.2 | (with_reducible refine Kd.C_alloc ?_ _) | (with_reducible refine Kd.C_drewN ?_ _) | (with_reducible refine Kd.C_drew ?_)))
                (case side2 => exact (Kd.N_reads' HO164.out).2.1)
                (case side3 => repeat (first | exact (Kd.R_reads' HO146.out).2.2 | (with_reducible refine Kd.C_alloc ?_ _) | (with_reducible refine Kd.C_drewN ?_ _) | (with_reducible refine Kd.C_drew ?_)))
                (case side4 => exact (Kd.R_reads' HO146.out).2.1)
                rintro e w38 ⟨v166, rfl, ho0, hb⟩
                refine ⟨_, rfl, ?_⟩
                have n0_ := Aside0.mk (Kd.R_below c1' hb)
                have n1_ := Aside0.mk (Kd.N_elder' c5' (Kd.R_base ho0) hb)
                have n2_ := Aside0.mk (Kd.N_elder' c6' (Kd.R_base ho0) hb)
                have n3_ := Aside0.mk (Kd.R_elder' c4' (Kd.R_base ho0) hb)
                have n4_ := Aside0.mk (Kd.R_elder' c3' (Kd.R_base ho0) hb)
                have n5_ := Aside0.mk (Kd.N_elder' c10' (Kd.R_base ho0) hb)
                have n6_ := Aside0.mk (Kd.R_elder' c8' (Kd.R_base ho0) hb)
                have n7_ := Aside0.mk (Kd.R_lower (Kd.R_new' (Kd.R_new' (Kd.R_new' ho0 (Kd.R_lt c4')) (Kd.R_lt c3')) (Kd.R_lt c8')) (below_size c0'))
                have n8_ := Aside0.mk (below_step c0' hb)
                clear HO146
                clear HO149
                clear HO154
                clear HO157
                clear HO160
                clear HO164
                clear HO170
                clear HB
                have HO146 := n0_
                have HO149 := n1_
                have HO154 := n2_
                have HO157 := n3_
                have HO160 := n4_
                have HO164 := n5_
                have HO170 := n6_
                have HO167 := n7_
                have HB := n8_
                clear n0_ n1_ n2_ n3_ n4_ n5_ n6_ n7_ n8_
                (try clear hb)
                (try clear hb2)
                (try clear hk)
                (try clear hi)
                (try clear ho0)
                refine hK.out _ _ trivial (fun hHeld => ?_)
                clear hK K
                refine norm_ (a' := ?_) ?_ ?_
                rotate_left
                ·show Act.put _ (some 23) _ = _
                 simp only [Act.put, List.setIfInBounds_toArray, List.set_cons_zero, List.set_cons_succ, i64_w, i32_w]
                 rfl
                exact norm_ c2' (hJ0_2_3_4_6_8_9 (v153, v156, v159, .slice Ao37 t162.length co37, v166, v169) _ ⟨c1', (by (with_reducible repeat (first | apply Kd.N_alloc | apply Kd.N_drewN | apply Kd.N_drew)); exact Kd.N_mono HO149.out (fun _ hk => ⟨hk.1.1, ⟨hk.1.2.1, ⟨hk.1.2.2.1, ⟨hk.1.2.2.2.1, ⟨hk.1.2.2.2.2.1, ⟨hk.2, hk.1.2.2.2.2.2⟩⟩⟩⟩⟩⟩)), (by (with_reducible repeat (first | apply Kd.N_alloc | apply Kd.N_drewN | apply Kd.N_drew)); exact Kd.N_mono HO154.out (fun _ hk => ⟨hk.1.1, ⟨hk.1.2.1, ⟨hk.1.2.2.1, ⟨hk.1.2.2.2.1, ⟨hk.1.2.2.2.2.1, ⟨hk.2, hk.1.2.2.2.2.2⟩⟩⟩⟩⟩⟩)), (by (with_reducible repeat (first | apply Kd.R_alloc | apply Kd.R_drewN | apply Kd.R_drew)); exact Kd.R_mono HO157.out (fun _ hk => ⟨hk.1.1, ⟨hk.2, hk.1.2⟩⟩)), (by (with_reducible repeat (first | apply Kd.R_alloc | apply Kd.R_drewN | apply Kd.R_drew)); exact Kd.R_mono HO160.out (fun _ hk => ⟨hk.1.1, ⟨hk.2, hk.1.2⟩⟩)), (by (with_reducible repeat (first | apply Kd.N_alloc | apply Kd.N_drewN | apply Kd.N_drew)); exact Kd.N_mono HO164.out (fun _ hk => ⟨hk.1.1, ⟨hk.1.2.1, ⟨hk.1.2.2.1, ⟨hk.1.2.2.2.1, ⟨hk.1.2.2.2.2.1, ⟨hk.2, hk.1.2.2.2.2.2⟩⟩⟩⟩⟩⟩)), (by (with_reducible repeat (first | apply Kd.R_alloc | apply Kd.R_drewN | apply Kd.R_drew)); exact Kd.R_mono HO167.out (fun _ hk => ⟨hk.1.1.2, ⟨hk.1.2, hk.2⟩⟩)), (by (with_reducible repeat (first | apply Kd.R_alloc | apply Kd.R_drewN | apply Kd.R_drew)); exact Kd.R_mono HO170.out (fun _ hk => ⟨hk.1.1, ⟨hk.1.2, hk.2⟩⟩)), c0'⟩)
              ·skip
               rintro ⟨v153, v156, v159, v163, v166⟩ w36 ⟨h0_, h1_, h2_, h3_, h4_, h5_, h6_, h7_⟩
               have n0_ : Aside0 (Kd.R k50 50 w36 w.heap.size (fun _ => True) (.slice Ao23 y144.length co23) y144) := ⟨h0_⟩
               have n1_ : Aside0 (Kd.N k39 39 w36 w.heap.size (fun k_ => some k_ ≠ (.slice Ao23 y144.length co23 : Value).ownBlock ∧ some k_ ≠ (v153 : Value).ownBlock ∧ some k_ ≠ (v156 : Value).ownBlock ∧ some k_ ≠ (v159 : Value).ownBlock ∧ some k_ ≠ (v163 : Value).ownBlock ∧ some k_ ≠ (v166 : Value).ownBlock) (.slice Ao22 t147.length co22) t147) := ⟨h1_⟩
               have n2_ : Aside0 (Kd.N k39 39 w36 w.heap.size (fun k_ => some k_ ≠ (.slice Ao23 y144.length co23 : Value).ownBlock ∧ some k_ ≠ (.slice Ao22 t147.length co22 : Value).ownBlock ∧ some k_ ≠ (v156 : Value).ownBlock ∧ some k_ ≠ (v159 : Value).ownBlock ∧ some k_ ≠ (v163 : Value).ownBlock ∧ some k_ ≠ (v166 : Value).ownBlock) v153 t152) := ⟨h2_⟩
               have n3_ : Aside0 (Kd.R (Kd.int .i64) 3 w36 w.heap.size (fun k_ => some k_ ≠ (v159 : Value).ownBlock ∧ some k_ ≠ (v166 : Value).ownBlock) v156 t155) := ⟨h3_⟩
               have n4_ : Aside0 (Kd.R (Kd.int .i64) 3 w36 w.heap.size (fun k_ => some k_ ≠ (v156 : Value).ownBlock ∧ some k_ ≠ (v166 : Value).ownBlock) v159 y158) := ⟨h4_⟩
               have n5_ : Aside0 (Kd.N k39 39 w36 w.heap.size (fun k_ => some k_ ≠ (.slice Ao23 y144.length co23 : Value).ownBlock ∧ some k_ ≠ (.slice Ao22 t147.length co22 : Value).ownBlock ∧ some k_ ≠ (v153 : Value).ownBlock ∧ some k_ ≠ (v156 : Value).ownBlock ∧ some k_ ≠ (v159 : Value).ownBlock ∧ some k_ ≠ (v166 : Value).ownBlock) v163 t162) := ⟨h5_⟩
               have n6_ : Aside0 (Kd.R (Kd.int .i64) 3 w36 w.heap.size (fun k_ => some k_ ≠ (v156 : Value).ownBlock ∧ some k_ ≠ (v159 : Value).ownBlock) v166 t165) := ⟨h6_⟩
               have n7_ : Aside0 (Below w.heap.size w w36) := ⟨h7_⟩
               clear HO146
               clear HO149
               clear HB
               clear h0_ h1_ h2_ h3_ h4_ h5_ h6_ h7_
               have HO146 := n0_
               have HO149 := n1_
               have HO154 := n2_
               have HO157 := n3_
               have HO160 := n4_
               have HO164 := n5_
               have HO167 := n6_
               have HB := n7_
               clear n0_ n1_ n2_ n3_ n4_ n5_ n6_ n7_
               have hHeld := trivial
               refine norm_ (a' := ?_) ?_ ?_
               rotate_left
               ·simp only [putAll, Act.put, List.setIfInBounds_toArray, List.set_cons_zero, List.set_cons_succ]
                rfl
               refine one_ (i := 9) (N := some 24) #[true, true, true, true, true, true, true, true, true, true, false, false, false, false, false, false, false, false, false, false, false, false, false, false, false, false, false, false, false, false, false, false, false] rfl rfl (one_of HT_.out c12') c24' (fun K hK => ?_)
               refine Kd.R_lit_step (Kd.int .i64) _ 3 ?hg (N := 24) ?hd (xs := ([1, 3] : List Int)) (inner := [.int .i64 1, .int .i64 3]) (ok := fun _ => True) (okp := fun _ => True) ?hr ?hp (fun _ hk => hk) trivial (Below.refl _ _) (Nat.le_refl _) (by simp) ?_; (case hd => rfl); (case hg => rfl); (case hr => first | (go_simp; done) | (go_simp; rfl)); (case hp => exact (Reps.one (show Kd.M (Kd.int .i64) _ _ _ 1 [.int .i64 1] from rfl) (Reps.one (show Kd.M (Kd.int .i64) _ _ _ 3 [.int .i64 3] from rfl) (Reps.none _ _))))
               intro v169 w37 ho38 hb hg_ hnew_
               clear hg_ hnew_
               (first | rw [← Ny168.out] at ho38 | (simp only [Int.reduceToNat] at ho38; rw [← Ny168.out] at ho38))
               have n0_ := Aside0.mk (Kd.R_below c1' hb)
               have n1_ := Aside0.mk (Kd.N_elder' c5' (Kd.R_base ho38) hb)
               have n2_ := Aside0.mk (Kd.N_elder' c6' (Kd.R_base ho38) hb)
               have n3_ := Aside0.mk (Kd.R_elder' c4' (Kd.R_base ho38) hb)
               have n4_ := Aside0.mk (Kd.R_elder' c3' (Kd.R_base ho38) hb)
               have n5_ := Aside0.mk (Kd.N_elder' c10' (Kd.R_base ho38) hb)
               have n6_ := Aside0.mk (Kd.R_elder' c9' (Kd.R_base ho38) hb)
               have n7_ := Aside0.mk (Kd.R_lower (Kd.R_new' (Kd.R_new' (Kd.R_new' ho38 (Kd.R_lt c4')) (Kd.R_lt c3')) (Kd.R_lt c9')) (below_size c0'))
               have n8_ := Aside0.mk (below_step c0' hb)
               clear HO146
               clear HO149
               clear HO154
               clear HO157
               clear HO160
               clear HO164
               clear HO167
               clear HB
               have HO146 := n0_
               have HO149 := n1_
               have HO154 := n2_
               have HO157 := n3_
               have HO160 := n4_
               have HO164 := n5_
               have HO167 := n6_
               have HO170 := n7_
               have HB := n8_
               clear n0_ n1_ n2_ n3_ n4_ n5_ n6_ n7_ n8_
               clear hb ho38
               refine hK.out _ _ trivial (fun hHeld => ?_)
               clear hK K
               refine norm_ (a' := ?_) ?_ ?_
               rotate_left
               ·show Act.put _ (some 24) _ = _
                simp only [Act.put, List.setIfInBounds_toArray, List.set_cons_zero, List.set_cons_succ, i64_w, i32_w]
                rfl
               exact norm_ c2' (hJ0_2_3_4_6_8_9 (v153, v156, v159, v163, v166, v169) _ ⟨c1', (by (with_reducible repeat (first | apply Kd.N_alloc | apply Kd.N_drewN | apply Kd.N_drew)); exact Kd.N_mono HO149.out (fun _ hk => ⟨hk.1.1, ⟨hk.1.2.1, ⟨hk.1.2.2.1, ⟨hk.1.2.2.2.1, ⟨hk.1.2.2.2.2.1, ⟨hk.1.2.2.2.2.2, hk.2⟩⟩⟩⟩⟩⟩)), (by (with_reducible repeat (first | apply Kd.N_alloc | apply Kd.N_drewN | apply Kd.N_drew)); exact Kd.N_mono HO154.out (fun _ hk => ⟨hk.1.1, ⟨hk.1.2.1, ⟨hk.1.2.2.1, ⟨hk.1.2.2.2.1, ⟨hk.1.2.2.2.2.1, ⟨hk.1.2.2.2.2.2, hk.2⟩⟩⟩⟩⟩⟩)), (by (with_reducible repeat (first | apply Kd.R_alloc | apply Kd.R_drewN | apply Kd.R_drew)); exact Kd.R_mono HO157.out (fun _ hk => ⟨hk.1.1, ⟨hk.1.2, hk.2⟩⟩)), (by (with_reducible repeat (first | apply Kd.R_alloc | apply Kd.R_drewN | apply Kd.R_drew)); exact Kd.R_mono HO160.out (fun _ hk => ⟨hk.1.1, ⟨hk.1.2, hk.2⟩⟩)), (by (with_reducible repeat (first | apply Kd.N_alloc | apply Kd.N_drewN | apply Kd.N_drew)); exact Kd.N_mono HO164.out (fun _ hk => ⟨hk.1.1, ⟨hk.1.2.1, ⟨hk.1.2.2.1, ⟨hk.1.2.2.2.1, ⟨hk.1.2.2.2.2.1, ⟨hk.1.2.2.2.2.2, hk.2⟩⟩⟩⟩⟩⟩)), (by (with_reducible repeat (first | apply Kd.R_alloc | apply Kd.R_drewN | apply Kd.R_drew)); exact Kd.R_mono HO167.out (fun _ hk => ⟨hk.1.1, ⟨hk.1.2, hk.2⟩⟩)), (by (with_reducible repeat (first | apply Kd.R_alloc | apply Kd.R_drewN | apply Kd.R_drew)); exact Kd.R_mono HO170.out (fun _ hk => ⟨hk.1.1.2, ⟨hk.1.2, hk.2⟩⟩)), c0'⟩)
             ·skip
              rintro ⟨v153, v156, v159, v163, v166, v169⟩ w38 ⟨h0_, h1_, h2_, h3_, h4_, h5_, h6_, h7_, h8_⟩
              have n0_ : Aside0 (Kd.R k50 50 w38 w.heap.size (fun _ => True) (.slice Ao23 y144.length co23) y144) := ⟨h0_⟩
              have n1_ : Aside0 (Kd.N k39 39 w38 w.heap.size (fun k_ => some k_ ≠ (.slice Ao23 y144.length co23 : Value).ownBlock ∧ some k_ ≠ (v153 : Value).ownBlock ∧ some k_ ≠ (v156 : Value).ownBlock ∧ some k_ ≠ (v159 : Value).ownBlock ∧ some k_ ≠ (v163 : Value).ownBlock ∧ some k_ ≠ (v166 : Value).ownBlock ∧ some k_ ≠ (v169 : Value).ownBlock) (.slice Ao22 t147.length co22) t147) := ⟨h1_⟩
              have n2_ : Aside0 (Kd.N k39 39 w38 w.heap.size (fun k_ => some k_ ≠ (.slice Ao23 y144.length co23 : Value).ownBlock ∧ some k_ ≠ (.slice Ao22 t147.length co22 : Value).ownBlock ∧ some k_ ≠ (v156 : Value).ownBlock ∧ some k_ ≠ (v159 : Value).ownBlock ∧ some k_ ≠ (v163 : Value).ownBlock ∧ some k_ ≠ (v166 : Value).ownBlock ∧ some k_ ≠ (v169 : Value).ownBlock) v153 t152) := ⟨h2_⟩
              have n3_ : Aside0 (Kd.R (Kd.int .i64) 3 w38 w.heap.size (fun k_ => some k_ ≠ (v159 : Value).ownBlock ∧ some k_ ≠ (v166 : Value).ownBlock ∧ some k_ ≠ (v169 : Value).ownBlock) v156 t155) := ⟨h3_⟩
              have n4_ : Aside0 (Kd.R (Kd.int .i64) 3 w38 w.heap.size (fun k_ => some k_ ≠ (v156 : Value).ownBlock ∧ some k_ ≠ (v166 : Value).ownBlock ∧ some k_ ≠ (v169 : Value).ownBlock) v159 y158) := ⟨h4_⟩
              have n5_ : Aside0 (Kd.N k39 39 w38 w.heap.size (fun k_ => some k_ ≠ (.slice Ao23 y144.length co23 : Value).ownBlock ∧ some k_ ≠ (.slice Ao22 t147.length co22 : Value).ownBlock ∧ some k_ ≠ (v153 : Value).ownBlock ∧ some k_ ≠ (v156 : Value).ownBlock ∧ some k_ ≠ (v159 : Value).ownBlock ∧ some k_ ≠ (v166 : Value).ownBlock ∧ some k_ ≠ (v169 : Value).ownBlock) v163 t162) := ⟨h5_⟩
              have n6_ : Aside0 (Kd.R (Kd.int .i64) 3 w38 w.heap.size (fun k_ => some k_ ≠ (v156 : Value).ownBlock ∧ some k_ ≠ (v159 : Value).ownBlock ∧ some k_ ≠ (v169 : Value).ownBlock) v166 t165) := ⟨h6_⟩
              have n7_ : Aside0 (Kd.R (Kd.int .i64) 3 w38 w.heap.size (fun k_ => some k_ ≠ (v156 : Value).ownBlock ∧ some k_ ≠ (v159 : Value).ownBlock ∧ some k_ ≠ (v166 : Value).ownBlock) v169 y168) := ⟨h7_⟩
              have n8_ : Aside0 (Below w.heap.size w w38) := ⟨h8_⟩
              clear HO146
              clear HO149
              clear HB
              clear h0_ h1_ h2_ h3_ h4_ h5_ h6_ h7_ h8_
              have HO146 := n0_
              have HO149 := n1_
              have HO154 := n2_
              have HO157 := n3_
              have HO160 := n4_
              have HO164 := n5_
              have HO167 := n6_
              have HO170 := n7_
              have HB := n8_
              clear n0_ n1_ n2_ n3_ n4_ n5_ n6_ n7_ n8_
              have hHeld := trivial
              obtain ⟨Ao39, co39, eo39⟩ := Kd.R_slice HO167.out
              (first | subst eo39 | (injection eo39 with f1_ f2_ f3_; have f4_ := f1_.symm; have f5_ := f3_.symm; clear f1_ f2_ f3_; subst f4_; subst f5_))
              obtain ⟨Ao40, co40, eo40⟩ := Kd.R_slice HO170.out
              (first | subst eo40 | (injection eo40 with f1_ f2_ f3_; have f4_ := f1_.symm; have f5_ := f3_.symm; clear f1_ f2_ f3_; subst f4_; subst f5_))
              refine norm_ (a' := ?_) ?_ ?_
              rotate_left
              ·simp only [putAll, Act.put, List.setIfInBounds_toArray, List.set_cons_zero, List.set_cons_succ]
               rfl
              refine one_ (i := 10) (N := some 25) #[true, true, true, true, true, true, true, true, true, true, true, false, false, false, false, false, false, false, false, false, false, false, false, false, false, false, false, false, false, false, false, false, false] rfl rfl (one_of HT_.out c12') c24' (fun K hK => ?_)
              refine goes_ Tryz.func31 c12' rfl #[.slice Ao39 t165.length co39, .slice Ao40 y168.length co40] (by rfl) rfl rfl c7' ?_
              with_reducible refine (argosyref01_Same.calls k _ _ t165 _ _ y168 true _ ?side1 ?side2 ?side3 ?side4 A9.out).mono ?_
              (case side1 => repeat (first | exact (Kd.R_reads' HO167.out).2.2 | (with_reducible refine Kd.C_alloc ?_ _) | (with_reducible refine Kd.C_drewN ?_ _) | (with_reducible refine Kd.C_drew ?_)))
              (case side2 => exact (Kd.R_reads' HO167.out).2.1)
              (case side3 => repeat (first | exact (Kd.R_reads' HO170.out).2.2 | (with_reducible refine Kd.C_alloc ?_ _) | (with_reducible refine Kd.C_drewN ?_ _) | (with_reducible refine Kd.C_drew ?_)))
              (case side4 => exact (Kd.R_reads' HO170.out).2.1)
              rintro e w' ⟨rfl, ⟨nd, rfl⟩⟩
              refine ⟨_, rfl, ?_⟩
              refine hK.out _ _ trivial (fun hHeld => ?_)
              clear hK K
              refine norm_ (a' := ?_) ?_ ?_
              rotate_left
              ·show Act.put _ (some 25) _ = _
               simp only [Act.put, List.setIfInBounds_toArray, List.set_cons_zero, List.set_cons_succ, i64_w, i32_w]
               rfl
              refine pure_ (i := 11) (N := some 26) (v := ?_) (a' := ?_) #[true, true, true, true, true, true, true, true, true, true, true, true, false, false, false, false, false, false, false, false, false, false, false, false, false, false, false, false, false, false, false, false, false] rfl rfl (any_of HT_.out c12') (fun _ _ _ h => h) (Or.inl ⟨by rfl, ?_⟩) ?_ ?_
              rotate_left
              ·intro w'
               go_simp
               with_reducible rfl
              rotate_left
              ·simp only [Act.put, List.setIfInBounds_toArray, List.set_cons_zero, List.set_cons_succ, i64_w, i32_w]
               rfl
              refine pure_ (i := 12) (N := some 27) (v := ?_) (a' := ?_) #[true, true, true, true, true, true, true, true, true, true, true, true, true, false, false, false, false, false, false, false, false, false, false, false, false, false, false, false, false, false, false, false, false] rfl rfl (any_of HT_.out c12') (fun _ _ _ h => h) (Or.inl ⟨by rfl, ?_⟩) ?_ ?_
              rotate_left
              ·intro w'
               go_simp
               with_reducible rfl
              rotate_left
              ·simp only [Act.put, List.setIfInBounds_toArray, List.set_cons_zero, List.set_cons_succ, i64_w, i32_w]
               rfl
              refine pure_ (i := 14) (N := some 29) (v := ?_) (a' := ?_) #[true, true, true, true, true, true, true, true, true, true, true, true, true, false, true, false, false, false, false, false, false, false, false, false, false, false, false, false, false, false, false, false, false] rfl rfl (any_of HT_.out c12') (fun _ _ _ h => h) (Or.inl ⟨by rfl, ?_⟩) ?_ ?_
              rotate_left
              ·intro w'
               go_simp
               with_reducible rfl
              rotate_left
              ·simp only [Act.put, List.setIfInBounds_toArray, List.set_cons_zero, List.set_cons_succ, i64_w, i32_w]
               rfl
              exact norm_ c2' (hJ0_2_3_4_6_8_9_10 (v153, v156, v159, v163, .slice Ao39 t165.length co39, .slice Ao40 y168.length co40) _ ⟨c1', c5', c6', c4', c3', c10', c9', c8', c0'⟩)
            ·skip
             rintro ⟨v153, v156, v159, v163, v166, v169⟩ w40 ⟨h0_, h1_, h2_, h3_, h4_, h5_, h6_, h7_, h8_⟩
             have n0_ : Aside0 (Kd.R k50 50 w40 w.heap.size (fun _ => True) (.slice Ao23 y144.length co23) y144) := ⟨h0_⟩
             have n1_ : Aside0 (Kd.N k39 39 w40 w.heap.size (fun k_ => some k_ ≠ (.slice Ao23 y144.length co23 : Value).ownBlock ∧ some k_ ≠ (v153 : Value).ownBlock ∧ some k_ ≠ (v156 : Value).ownBlock ∧ some k_ ≠ (v159 : Value).ownBlock ∧ some k_ ≠ (v163 : Value).ownBlock ∧ some k_ ≠ (v166 : Value).ownBlock ∧ some k_ ≠ (v169 : Value).ownBlock) (.slice Ao22 t147.length co22) t147) := ⟨h1_⟩
             have n2_ : Aside0 (Kd.N k39 39 w40 w.heap.size (fun k_ => some k_ ≠ (.slice Ao23 y144.length co23 : Value).ownBlock ∧ some k_ ≠ (.slice Ao22 t147.length co22 : Value).ownBlock ∧ some k_ ≠ (v156 : Value).ownBlock ∧ some k_ ≠ (v159 : Value).ownBlock ∧ some k_ ≠ (v163 : Value).ownBlock ∧ some k_ ≠ (v166 : Value).ownBlock ∧ some k_ ≠ (v169 : Value).ownBlock) v153 t152) := ⟨h2_⟩
             have n3_ : Aside0 (Kd.R (Kd.int .i64) 3 w40 w.heap.size (fun k_ => some k_ ≠ (v159 : Value).ownBlock ∧ some k_ ≠ (v166 : Value).ownBlock ∧ some k_ ≠ (v169 : Value).ownBlock) v156 t155) := ⟨h3_⟩
             have n4_ : Aside0 (Kd.R (Kd.int .i64) 3 w40 w.heap.size (fun k_ => some k_ ≠ (v156 : Value).ownBlock ∧ some k_ ≠ (v166 : Value).ownBlock ∧ some k_ ≠ (v169 : Value).ownBlock) v159 y158) := ⟨h4_⟩
             have n5_ : Aside0 (Kd.N k39 39 w40 w.heap.size (fun k_ => some k_ ≠ (.slice Ao23 y144.length co23 : Value).ownBlock ∧ some k_ ≠ (.slice Ao22 t147.length co22 : Value).ownBlock ∧ some k_ ≠ (v153 : Value).ownBlock ∧ some k_ ≠ (v156 : Value).ownBlock ∧ some k_ ≠ (v159 : Value).ownBlock ∧ some k_ ≠ (v166 : Value).ownBlock ∧ some k_ ≠ (v169 : Value).ownBlock) v163 t162) := ⟨h5_⟩
             have n6_ : Aside0 (Kd.R (Kd.int .i64) 3 w40 w.heap.size (fun k_ => some k_ ≠ (v156 : Value).ownBlock ∧ some k_ ≠ (v159 : Value).ownBlock ∧ some k_ ≠ (v169 : Value).ownBlock) v166 t165) := ⟨h6_⟩
             have n7_ : Aside0 (Kd.R (Kd.int .i64) 3 w40 w.heap.size (fun k_ => some k_ ≠ (v156 : Value).ownBlock ∧ some k_ ≠ (v159 : Value).ownBlock ∧ some k_ ≠ (v166 : Value).ownBlock) v169 y168) := ⟨h7_⟩
             have n8_ : Aside0 (Below w.heap.size w w40) := ⟨h8_⟩
             clear HO146
             clear HO149
             clear HB
             clear h0_ h1_ h2_ h3_ h4_ h5_ h6_ h7_ h8_
             have HO146 := n0_
             have HO149 := n1_
             have HO154 := n2_
             have HO157 := n3_
             have HO160 := n4_
             have HO164 := n5_
             have HO167 := n6_
             have HO170 := n7_
             have HB := n8_
             clear n0_ n1_ n2_ n3_ n4_ n5_ n6_ n7_ n8_
             have hHeld := trivial
             refine norm_ (a' := ?_) ?_ ?_
             rotate_left
             ·simp only [putAll, Act.put, List.setIfInBounds_toArray, List.set_cons_zero, List.set_cons_succ]
              rfl
             refine one_ (i := 13) (N := some 28) #[true, true, true, true, true, true, true, true, true, true, true, true, true, true, true, false, false, false, false, false, false, false, false, false, false, false, false, false, false, false, false, false, false] rfl rfl (one_of HT_.out c12') c24' (fun K hK => ?_)
             refine goes_ Tryz.func30 c12' rfl #[] (by rfl) rfl rfl c7' ?_
             with_reducible refine (argosylaw32_both.calls  t172 _ A11.out).mono ?_
             rintro e w41 ⟨v173, rfl, ho0, hb⟩
             refine ⟨_, rfl, ?_⟩
             have n0_ := Aside0.mk (Kd.R_below c1' hb)
             have n1_ := Aside0.mk (Kd.N_elder' c5' (Kd.N_base ho0) hb)
             have n2_ := Aside0.mk (Kd.N_elder' c6' (Kd.N_base ho0) hb)
             have n3_ := Aside0.mk (Kd.R_below c4' hb)
             have n4_ := Aside0.mk (Kd.R_below c3' hb)
             have n5_ := Aside0.mk (Kd.N_elder' c10' (Kd.N_base ho0) hb)
             have n6_ := Aside0.mk (Kd.R_below c9' hb)
             have n7_ := Aside0.mk (Kd.R_below c8' hb)
             have n8_ := Aside0.mk (Kd.N_lower (Kd.N_mono (ok' := fun k_ => some k_ ≠ (.slice Ao23 y144.length co23 : Value).ownBlock ∧ some k_ ≠ (.slice Ao22 t147.length co22 : Value).ownBlock ∧ some k_ ≠ (v153 : Value).ownBlock ∧ some k_ ≠ (v156 : Value).ownBlock ∧ some k_ ≠ (v159 : Value).ownBlock ∧ some k_ ≠ (v163 : Value).ownBlock ∧ some k_ ≠ (v166 : Value).ownBlock ∧ some k_ ≠ (v169 : Value).ownBlock) ho0 (fun k_ hk_ => ⟨(Kd.fresh' (Kd.R_lt c1') k_ hk_), (Kd.fresh' (Kd.N_lt c5') k_ hk_), (Kd.fresh' (Kd.N_lt c6') k_ hk_), (Kd.fresh' (Kd.R_lt c4') k_ hk_), (Kd.fresh' (Kd.R_lt c3') k_ hk_), (Kd.fresh' (Kd.N_lt c10') k_ hk_), (Kd.fresh' (Kd.R_lt c9') k_ hk_), (Kd.fresh' (Kd.R_lt c8') k_ hk_)⟩)) (below_size c0'))
             have n9_ := Aside0.mk (below_step c0' hb)
             clear HO146
             clear HO149
             clear HO154
             clear HO157
             clear HO160
             clear HO164
             clear HO167
             clear HO170
             clear HB
             have HO146 := n0_
             have HO149 := n1_
             have HO154 := n2_
             have HO157 := n3_
             have HO160 := n4_
             have HO164 := n5_
             have HO167 := n6_
             have HO170 := n7_
             have HO174 := n8_
             have HB := n9_
             clear n0_ n1_ n2_ n3_ n4_ n5_ n6_ n7_ n8_ n9_
             (try clear hb)
             (try clear hb2)
             (try clear hk)
             (try clear hi)
             (try clear ho0)
             refine hK.out _ _ trivial (fun hHeld => ?_)
             clear hK K
             refine norm_ (a' := ?_) ?_ ?_
             rotate_left
             ·show Act.put _ (some 28) _ = _
              simp only [Act.put, List.setIfInBounds_toArray, List.set_cons_zero, List.set_cons_succ, i64_w, i32_w]
              rfl
             exact norm_ c2' (hJ0_2_3_4_6_8_9_10_13 (v153, v156, v159, v163, v166, v169, v173) _ ⟨c1', (by (with_reducible repeat (first | apply Kd.N_alloc | apply Kd.N_drewN | apply Kd.N_drew)); exact Kd.N_mono HO149.out (fun _ hk => ⟨hk.1.1, ⟨hk.1.2.1, ⟨hk.1.2.2.1, ⟨hk.1.2.2.2.1, ⟨hk.1.2.2.2.2.1, ⟨hk.1.2.2.2.2.2.1, ⟨hk.1.2.2.2.2.2.2, hk.2⟩⟩⟩⟩⟩⟩⟩)), (by (with_reducible repeat (first | apply Kd.N_alloc | apply Kd.N_drewN | apply Kd.N_drew)); exact Kd.N_mono HO154.out (fun _ hk => ⟨hk.1.1, ⟨hk.1.2.1, ⟨hk.1.2.2.1, ⟨hk.1.2.2.2.1, ⟨hk.1.2.2.2.2.1, ⟨hk.1.2.2.2.2.2.1, ⟨hk.1.2.2.2.2.2.2, hk.2⟩⟩⟩⟩⟩⟩⟩)), c4', c3', (by (with_reducible repeat (first | apply Kd.N_alloc | apply Kd.N_drewN | apply Kd.N_drew)); exact Kd.N_mono HO164.out (fun _ hk => ⟨hk.1.1, ⟨hk.1.2.1, ⟨hk.1.2.2.1, ⟨hk.1.2.2.2.1, ⟨hk.1.2.2.2.2.1, ⟨hk.1.2.2.2.2.2.1, ⟨hk.1.2.2.2.2.2.2, hk.2⟩⟩⟩⟩⟩⟩⟩)), c9', c8', c11', c0'⟩)
           ·skip
            rintro ⟨v153, v156, v159, v163, v166, v169, v173⟩ w41 ⟨h0_, h1_, h2_, h3_, h4_, h5_, h6_, h7_, h8_, h9_⟩
            have n0_ : Aside0 (Kd.R k50 50 w41 w.heap.size (fun _ => True) (.slice Ao23 y144.length co23) y144) := ⟨h0_⟩
            have n1_ : Aside0 (Kd.N k39 39 w41 w.heap.size (fun k_ => some k_ ≠ (.slice Ao23 y144.length co23 : Value).ownBlock ∧ some k_ ≠ (v153 : Value).ownBlock ∧ some k_ ≠ (v156 : Value).ownBlock ∧ some k_ ≠ (v159 : Value).ownBlock ∧ some k_ ≠ (v163 : Value).ownBlock ∧ some k_ ≠ (v166 : Value).ownBlock ∧ some k_ ≠ (v169 : Value).ownBlock ∧ some k_ ≠ (v173 : Value).ownBlock) (.slice Ao22 t147.length co22) t147) := ⟨h1_⟩
            have n2_ : Aside0 (Kd.N k39 39 w41 w.heap.size (fun k_ => some k_ ≠ (.slice Ao23 y144.length co23 : Value).ownBlock ∧ some k_ ≠ (.slice Ao22 t147.length co22 : Value).ownBlock ∧ some k_ ≠ (v156 : Value).ownBlock ∧ some k_ ≠ (v159 : Value).ownBlock ∧ some k_ ≠ (v163 : Value).ownBlock ∧ some k_ ≠ (v166 : Value).ownBlock ∧ some k_ ≠ (v169 : Value).ownBlock ∧ some k_ ≠ (v173 : Value).ownBlock) v153 t152) := ⟨h2_⟩
            have n3_ : Aside0 (Kd.R (Kd.int .i64) 3 w41 w.heap.size (fun k_ => some k_ ≠ (v159 : Value).ownBlock ∧ some k_ ≠ (v166 : Value).ownBlock ∧ some k_ ≠ (v169 : Value).ownBlock) v156 t155) := ⟨h3_⟩
            have n4_ : Aside0 (Kd.R (Kd.int .i64) 3 w41 w.heap.size (fun k_ => some k_ ≠ (v156 : Value).ownBlock ∧ some k_ ≠ (v166 : Value).ownBlock ∧ some k_ ≠ (v169 : Value).ownBlock) v159 y158) := ⟨h4_⟩
            have n5_ : Aside0 (Kd.N k39 39 w41 w.heap.size (fun k_ => some k_ ≠ (.slice Ao23 y144.length co23 : Value).ownBlock ∧ some k_ ≠ (.slice Ao22 t147.length co22 : Value).ownBlock ∧ some k_ ≠ (v153 : Value).ownBlock ∧ some k_ ≠ (v156 : Value).ownBlock ∧ some k_ ≠ (v159 : Value).ownBlock ∧ some k_ ≠ (v166 : Value).ownBlock ∧ some k_ ≠ (v169 : Value).ownBlock ∧ some k_ ≠ (v173 : Value).ownBlock) v163 t162) := ⟨h5_⟩
            have n6_ : Aside0 (Kd.R (Kd.int .i64) 3 w41 w.heap.size (fun k_ => some k_ ≠ (v156 : Value).ownBlock ∧ some k_ ≠ (v159 : Value).ownBlock ∧ some k_ ≠ (v169 : Value).ownBlock) v166 t165) := ⟨h6_⟩
            have n7_ : Aside0 (Kd.R (Kd.int .i64) 3 w41 w.heap.size (fun k_ => some k_ ≠ (v156 : Value).ownBlock ∧ some k_ ≠ (v159 : Value).ownBlock ∧ some k_ ≠ (v166 : Value).ownBlock) v169 y168) := ⟨h7_⟩
            have n8_ : Aside0 (Kd.N k39 39 w41 w.heap.size (fun k_ => some k_ ≠ (.slice Ao23 y144.length co23 : Value).ownBlock ∧ some k_ ≠ (.slice Ao22 t147.length co22 : Value).ownBlock ∧ some k_ ≠ (v153 : Value).ownBlock ∧ some k_ ≠ (v156 : Value).ownBlock ∧ some k_ ≠ (v159 : Value).ownBlock ∧ some k_ ≠ (v163 : Value).ownBlock ∧ some k_ ≠ (v166 : Value).ownBlock ∧ some k_ ≠ (v169 : Value).ownBlock) v173 t172) := ⟨h8_⟩
            have n9_ : Aside0 (Below w.heap.size w w41) := ⟨h9_⟩
            clear HO146
            clear HO149
            clear HB
            clear h0_ h1_ h2_ h3_ h4_ h5_ h6_ h7_ h8_ h9_
            have HO146 := n0_
            have HO149 := n1_
            have HO154 := n2_
            have HO157 := n3_
            have HO160 := n4_
            have HO164 := n5_
            have HO167 := n6_
            have HO170 := n7_
            have HO174 := n8_
            have HB := n9_
            clear n0_ n1_ n2_ n3_ n4_ n5_ n6_ n7_ n8_ n9_
            have hHeld := trivial
            obtain ⟨Ao42, co42, eo42⟩ := Kd.N_slice HO174.out
            (first | subst eo42 | (injection eo42 with f1_ f2_ f3_; have f4_ := f1_.symm; have f5_ := f3_.symm; clear f1_ f2_ f3_; subst f4_; subst f5_))
            refine norm_ (a' := ?_) ?_ ?_
            rotate_left
            ·simp only [putAll, Act.put, List.setIfInBounds_toArray, List.set_cons_zero, List.set_cons_succ]
             rfl
            refine one_ (i := 15) (N := some 30) #[true, true, true, true, true, true, true, true, true, true, true, true, true, true, true, true, false, false, false, false, false, false, false, false, false, false, false, false, false, false, false, false, false] rfl rfl (one_of HT_.out c12') c24' (fun K hK => ?_)
            refine goes_ Tryz.func15 c12' rfl #[.agg #[.slice Ao42 t172.length co42], .slice Ao23 y144.length co23, .int .i64 3] (by rfl) rfl rfl c7' ?_
            with_reducible refine (why_Blame.calls _ _ t172 _ _ y144 3 t175 _ ?side1 ?side2 ?side3 ?side4 A12.out).mono ?_
            (case side1 => repeat (first | exact (Kd.N_reads' HO174.out).2.2 | (with_reducible refine Kd.C_alloc ?_ _) | (with_reducible refine Kd.C_drewN ?_ _) | (with_reducible refine Kd.C_drew ?_)))
            (case side2 => exact (Kd.N_reads' HO174.out).2.1)
            (case side3 => repeat (first | exact (Kd.R_reads' HO146.out).2.2 | (with_reducible refine Kd.C_alloc ?_ _) | (with_reducible refine Kd.C_drewN ?_ _) | (with_reducible refine Kd.C_drew ?_)))
            (case side4 => exact (Kd.R_reads' HO146.out).2.1)
            rintro e w43 ⟨rfl, hb⟩
            refine ⟨_, rfl, ?_⟩
            have n0_ := Aside0.mk (Kd.R_below c1' hb)
            have n1_ := Aside0.mk (Kd.N_below c5' hb)
            have n2_ := Aside0.mk (Kd.N_below c6' hb)
            have n3_ := Aside0.mk (Kd.R_below c4' hb)
            have n4_ := Aside0.mk (Kd.R_below c3' hb)
            have n5_ := Aside0.mk (Kd.N_below c10' hb)
            have n6_ := Aside0.mk (Kd.R_below c9' hb)
            have n7_ := Aside0.mk (Kd.R_below c8' hb)
            have n8_ := Aside0.mk (Kd.N_below c11' hb)
            have n9_ := Aside0.mk (below_step c0' hb)
            clear HO146
            clear HO149
            clear HO154
            clear HO157
            clear HO160
            clear HO164
            clear HO167
            clear HO170
            clear HO174
            clear HB
            have HO146 := n0_
            have HO149 := n1_
            have HO154 := n2_
            have HO157 := n3_
            have HO160 := n4_
            have HO164 := n5_
            have HO167 := n6_
            have HO170 := n7_
            have HO174 := n8_
            have HB := n9_
            clear n0_ n1_ n2_ n3_ n4_ n5_ n6_ n7_ n8_ n9_
            (try clear hb)
            (try clear hb2)
            (try clear hk)
            (try clear hi)
            refine hK.out _ _ trivial (fun hHeld => ?_)
            clear hK K
            refine norm_ (a' := ?_) ?_ ?_
            rotate_left
            ·show Act.put _ (some 30) _ = _
             simp only [Act.put, List.setIfInBounds_toArray, List.set_cons_zero, List.set_cons_succ, i64_w, i32_w]
             rfl
            refine pure_ (i := 16) (N := some 31) (v := ?_) (a' := ?_) #[true, true, true, true, true, true, true, true, true, true, true, true, true, true, true, true, true, false, false, false, false, false, false, false, false, false, false, false, false, false, false, false, false] rfl rfl (any_of HT_.out c12') (fun _ _ _ h => h) (Or.inl ⟨by rfl, ?_⟩) ?_ ?_
            rotate_left
            ·intro w'
             go_simp
             with_reducible rfl
            rotate_left
            ·simp only [Act.put, List.setIfInBounds_toArray, List.set_cons_zero, List.set_cons_succ, i64_w, i32_w]
             rfl
            refine pure_ (i := 17) (N := some 32) (v := ?_) (a' := ?_) #[true, true, true, true, true, true, true, true, true, true, true, true, true, true, true, true, true, true, false, false, false, false, false, false, false, false, false, false, false, false, false, false, false] rfl rfl (any_of HT_.out c12') (fun _ _ _ h => h) (Or.inl ⟨by rfl, ?_⟩) ?_ ?_
            rotate_left
            ·intro w'
             go_simp
             with_reducible rfl
            rotate_left
            ·simp only [Act.put, List.setIfInBounds_toArray, List.set_cons_zero, List.set_cons_succ, i64_w, i32_w]
             rfl
            refine pure_ (i := 18) (N := some 33) (v := ?_) (a' := ?_) #[true, true, true, true, true, true, true, true, true, true, true, true, true, true, true, true, true, true, true, false, false, false, false, false, false, false, false, false, false, false, false, false, false] rfl rfl (any_of HT_.out c12') (fun _ _ _ h => h) (Or.inl ⟨by rfl, ?_⟩) ?_ ?_
            rotate_left
            ·intro w'
             go_simp
             with_reducible rfl
            rotate_left
            ·simp only [Act.put, List.setIfInBounds_toArray, List.set_cons_zero, List.set_cons_succ, i64_w, i32_w]
             rfl
            exact norm_ c2' (hJ0_2_3_4_6_8_9_10_13_15 (v153, v156, v159, v163, v166, v169, .slice Ao42 t172.length co42) _ ⟨c1', c5', c6', c4', c3', c10', c9', c8', c11', c0'⟩)
          ·skip
           rintro ⟨v153, v156, v159, v163, v166, v169, v173⟩ w43 ⟨h0_, h1_, h2_, h3_, h4_, h5_, h6_, h7_, h8_, h9_⟩
           have n0_ : Aside0 (Kd.R k50 50 w43 w.heap.size (fun _ => True) (.slice Ao23 y144.length co23) y144) := ⟨h0_⟩
           have n1_ : Aside0 (Kd.N k39 39 w43 w.heap.size (fun k_ => some k_ ≠ (.slice Ao23 y144.length co23 : Value).ownBlock ∧ some k_ ≠ (v153 : Value).ownBlock ∧ some k_ ≠ (v156 : Value).ownBlock ∧ some k_ ≠ (v159 : Value).ownBlock ∧ some k_ ≠ (v163 : Value).ownBlock ∧ some k_ ≠ (v166 : Value).ownBlock ∧ some k_ ≠ (v169 : Value).ownBlock ∧ some k_ ≠ (v173 : Value).ownBlock) (.slice Ao22 t147.length co22) t147) := ⟨h1_⟩
           have n2_ : Aside0 (Kd.N k39 39 w43 w.heap.size (fun k_ => some k_ ≠ (.slice Ao23 y144.length co23 : Value).ownBlock ∧ some k_ ≠ (.slice Ao22 t147.length co22 : Value).ownBlock ∧ some k_ ≠ (v156 : Value).ownBlock ∧ some k_ ≠ (v159 : Value).ownBlock ∧ some k_ ≠ (v163 : Value).ownBlock ∧ some k_ ≠ (v166 : Value).ownBlock ∧ some k_ ≠ (v169 : Value).ownBlock ∧ some k_ ≠ (v173 : Value).ownBlock) v153 t152) := ⟨h2_⟩
           have n3_ : Aside0 (Kd.R (Kd.int .i64) 3 w43 w.heap.size (fun k_ => some k_ ≠ (v159 : Value).ownBlock ∧ some k_ ≠ (v166 : Value).ownBlock ∧ some k_ ≠ (v169 : Value).ownBlock) v156 t155) := ⟨h3_⟩
           have n4_ : Aside0 (Kd.R (Kd.int .i64) 3 w43 w.heap.size (fun k_ => some k_ ≠ (v156 : Value).ownBlock ∧ some k_ ≠ (v166 : Value).ownBlock ∧ some k_ ≠ (v169 : Value).ownBlock) v159 y158) := ⟨h4_⟩
           have n5_ : Aside0 (Kd.N k39 39 w43 w.heap.size (fun k_ => some k_ ≠ (.slice Ao23 y144.length co23 : Value).ownBlock ∧ some k_ ≠ (.slice Ao22 t147.length co22 : Value).ownBlock ∧ some k_ ≠ (v153 : Value).ownBlock ∧ some k_ ≠ (v156 : Value).ownBlock ∧ some k_ ≠ (v159 : Value).ownBlock ∧ some k_ ≠ (v166 : Value).ownBlock ∧ some k_ ≠ (v169 : Value).ownBlock ∧ some k_ ≠ (v173 : Value).ownBlock) v163 t162) := ⟨h5_⟩
           have n6_ : Aside0 (Kd.R (Kd.int .i64) 3 w43 w.heap.size (fun k_ => some k_ ≠ (v156 : Value).ownBlock ∧ some k_ ≠ (v159 : Value).ownBlock ∧ some k_ ≠ (v169 : Value).ownBlock) v166 t165) := ⟨h6_⟩
           have n7_ : Aside0 (Kd.R (Kd.int .i64) 3 w43 w.heap.size (fun k_ => some k_ ≠ (v156 : Value).ownBlock ∧ some k_ ≠ (v159 : Value).ownBlock ∧ some k_ ≠ (v166 : Value).ownBlock) v169 y168) := ⟨h7_⟩
           have n8_ : Aside0 (Kd.N k39 39 w43 w.heap.size (fun k_ => some k_ ≠ (.slice Ao23 y144.length co23 : Value).ownBlock ∧ some k_ ≠ (.slice Ao22 t147.length co22 : Value).ownBlock ∧ some k_ ≠ (v153 : Value).ownBlock ∧ some k_ ≠ (v156 : Value).ownBlock ∧ some k_ ≠ (v159 : Value).ownBlock ∧ some k_ ≠ (v163 : Value).ownBlock ∧ some k_ ≠ (v166 : Value).ownBlock ∧ some k_ ≠ (v169 : Value).ownBlock) v173 t172) := ⟨h8_⟩
           have n9_ : Aside0 (Below w.heap.size w w43) := ⟨h9_⟩
           clear HO146
           clear HO149
           clear HB
           clear h0_ h1_ h2_ h3_ h4_ h5_ h6_ h7_ h8_ h9_
           have HO146 := n0_
           have HO149 := n1_
           have HO154 := n2_
           have HO157 := n3_
           have HO160 := n4_
           have HO164 := n5_
           have HO167 := n6_
           have HO170 := n7_
           have HO174 := n8_
           have HB := n9_
           clear n0_ n1_ n2_ n3_ n4_ n5_ n6_ n7_ n8_ n9_
           have hHeld := trivial
           refine norm_ (a' := ?_) ?_ ?_
           rotate_left
           ·simp only [putAll, Act.put, List.setIfInBounds_toArray, List.set_cons_zero, List.set_cons_succ]
            rfl
           refine two_ (i := 19) (j := 20) (Ni := some 34) (Nj := some 35) #[true, true, true, true, true, true, true, true, true, true, true, true, true, true, true, true, true, true, true, true, false, false, false, false, false, false, false, false, false, false, false, false, false] #[true, true, true, true, true, true, true, true, true, true, true, true, true, true, true, true, true, true, true, false, true, false, false, false, false, false, false, false, false, false, false, false, false] rfl rfl rfl rfl (two_of HT_.out c12') c24' c24' (fun K hK => ?_) (fun K hK => ?_)
           ·skip
            refine goes_ Tryz.func30 c12' rfl #[] (by rfl) rfl rfl c7' ?_
            with_reducible refine (argosylaw32_both.calls  t176 _ A14.out).mono ?_
            rintro e w44 ⟨v177, rfl, ho0, hb⟩
            refine ⟨_, rfl, ?_⟩
            have n0_ := Aside0.mk (Kd.R_below c1' hb)
            have n1_ := Aside0.mk (Kd.N_elder' c5' (Kd.N_base ho0) hb)
            have n2_ := Aside0.mk (Kd.N_elder' c6' (Kd.N_base ho0) hb)
            have n3_ := Aside0.mk (Kd.R_below c4' hb)
            have n4_ := Aside0.mk (Kd.R_below c3' hb)
            have n5_ := Aside0.mk (Kd.N_elder' c10' (Kd.N_base ho0) hb)
            have n6_ := Aside0.mk (Kd.R_below c9' hb)
            have n7_ := Aside0.mk (Kd.R_below c8' hb)
            have n8_ := Aside0.mk (Kd.N_elder' c11' (Kd.N_base ho0) hb)
            have n9_ := Aside0.mk (Kd.N_lower (Kd.N_mono (ok' := fun k_ => some k_ ≠ (.slice Ao23 y144.length co23 : Value).ownBlock ∧ some k_ ≠ (.slice Ao22 t147.length co22 : Value).ownBlock ∧ some k_ ≠ (v153 : Value).ownBlock ∧ some k_ ≠ (v156 : Value).ownBlock ∧ some k_ ≠ (v159 : Value).ownBlock ∧ some k_ ≠ (v163 : Value).ownBlock ∧ some k_ ≠ (v166 : Value).ownBlock ∧ some k_ ≠ (v169 : Value).ownBlock ∧ some k_ ≠ (v173 : Value).ownBlock) ho0 (fun k_ hk_ => ⟨(Kd.fresh' (Kd.R_lt c1') k_ hk_), (Kd.fresh' (Kd.N_lt c5') k_ hk_), (Kd.fresh' (Kd.N_lt c6') k_ hk_), (Kd.fresh' (Kd.R_lt c4') k_ hk_), (Kd.fresh' (Kd.R_lt c3') k_ hk_), (Kd.fresh' (Kd.N_lt c10') k_ hk_), (Kd.fresh' (Kd.R_lt c9') k_ hk_), (Kd.fresh' (Kd.R_lt c8') k_ hk_), (Kd.fresh' (Kd.N_lt c11') k_ hk_)⟩)) (below_size c0'))
            have n10_ := Aside0.mk (below_step c0' hb)
            clear HO146
            clear HO149
            clear HO154
            clear HO157
            clear HO160
            clear HO164
            clear HO167
            clear HO170
            clear HO174
            clear HB
            have HO146 := n0_
            have HO149 := n1_
            have HO154 := n2_
            have HO157 := n3_
            have HO160 := n4_
            have HO164 := n5_
            have HO167 := n6_
            have HO170 := n7_
            have HO174 := n8_
            have HO178 := n9_
            have HB := n10_
            clear n0_ n1_ n2_ n3_ n4_ n5_ n6_ n7_ n8_ n9_ n10_
            (try clear hb)
            (try clear hb2)
            (try clear hk)
            (try clear hi)
            (try clear ho0)
            refine hK.out _ _ trivial (fun hHeld => ?_)
            clear hK K
            refine norm_ (a' := ?_) ?_ ?_
            rotate_left
            ·show Act.put _ (some 34) _ = _
             simp only [Act.put, List.setIfInBounds_toArray, List.set_cons_zero, List.set_cons_succ, i64_w, i32_w]
             rfl
            exact norm_ c2' (hJ0_2_3_4_6_8_9_10_13_15_19 (v153, v156, v159, v163, v166, v169, v173, v177) _ ⟨c1', c18', c17', c4', c3', c16', c9', c8', c15', c14', c0'⟩)
           ·skip
            refine Kd.R_make_step k50 _ 50 (by rfl) (N := 35) rfl 25 _ _ rfl 4 rfl rfl Tryz.underlying25 (.agg #[(.int .i64 0), (.int .i64 0), (.int .i64 0), (.bool false)]) 32 info50 rfl c24' (by omega) z50 (ok := fun _ => True) (okp := fun _ => True) (k50_mkM _ _ _ z50 ) (fun _ hk => hk) trivial (by omega) (by omega) (Below.refl _ _) (Nat.le_refl _) ?_
            intro v180 w44 ho45 hb hg_ hnew_
            clear hg_ hnew_
            (first | rw [← Ny179.out] at ho45 | (simp only [Int.reduceToNat] at ho45; rw [← Ny179.out] at ho45))
            have n0_ := Aside0.mk (Kd.R_elder' c1' (Kd.R_base ho45) hb)
            have n1_ := Aside0.mk (Kd.N_elder' c5' (Kd.R_base ho45) hb)
            have n2_ := Aside0.mk (Kd.N_elder' c6' (Kd.R_base ho45) hb)
            have n3_ := Aside0.mk (Kd.R_below c4' hb)
            have n4_ := Aside0.mk (Kd.R_below c3' hb)
            have n5_ := Aside0.mk (Kd.N_elder' c10' (Kd.R_base ho45) hb)
            have n6_ := Aside0.mk (Kd.R_below c9' hb)
            have n7_ := Aside0.mk (Kd.R_below c8' hb)
            have n8_ := Aside0.mk (Kd.N_elder' c11' (Kd.R_base ho45) hb)
            have n9_ := Aside0.mk (Kd.R_lower (Kd.R_new' ho45 (Kd.R_lt c1')) (below_size c0'))
            have n10_ := Aside0.mk (below_step c0' hb)
            clear HO146
            clear HO149
            clear HO154
            clear HO157
            clear HO160
            clear HO164
            clear HO167
            clear HO170
            clear HO174
            clear HB
            have HO146 := n0_
            have HO149 := n1_
            have HO154 := n2_
            have HO157 := n3_
            have HO160 := n4_
            have HO164 := n5_
            have HO167 := n6_
            have HO170 := n7_
            have HO174 := n8_
            have HO181 := n9_
            have HB := n10_
            clear n0_ n1_ n2_ n3_ n4_ n5_ n6_ n7_ n8_ n9_ n10_
            clear hb ho45
            refine hK.out _ _ trivial (fun hHeld => ?_)
            clear hK K
            refine norm_ (a' := ?_) ?_ ?_
            rotate_left
            ·show Act.put _ (some 35) _ = _
             simp only [Act.put, List.setIfInBounds_toArray, List.set_cons_zero, List.set_cons_succ, i64_w, i32_w]
             rfl
            exact norm_ c2' (hJ0_2_3_4_6_8_9_10_13_15_20 (v153, v156, v159, v163, v166, v169, v173, v180) _ ⟨c31', c18', c17', c4', c3', c16', c9', c8', c15', c28', c0'⟩)
         ·skip
          rintro ⟨v153, v156, v159, v163, v166, v169, v173, v180⟩ w45 ⟨h0_, h1_, h2_, h3_, h4_, h5_, h6_, h7_, h8_, h9_, h10_⟩
          have n0_ : Aside0 (Kd.R k50 50 w45 w.heap.size (fun k_ => some k_ ≠ (v180 : Value).ownBlock) (.slice Ao23 y144.length co23) y144) := ⟨h0_⟩
          have n1_ : Aside0 (Kd.N k39 39 w45 w.heap.size (fun k_ => some k_ ≠ (.slice Ao23 y144.length co23 : Value).ownBlock ∧ some k_ ≠ (v153 : Value).ownBlock ∧ some k_ ≠ (v156 : Value).ownBlock ∧ some k_ ≠ (v159 : Value).ownBlock ∧ some k_ ≠ (v163 : Value).ownBlock ∧ some k_ ≠ (v166 : Value).ownBlock ∧ some k_ ≠ (v169 : Value).ownBlock ∧ some k_ ≠ (v173 : Value).ownBlock ∧ some k_ ≠ (v180 : Value).ownBlock) (.slice Ao22 t147.length co22) t147) := ⟨h1_⟩
          have n2_ : Aside0 (Kd.N k39 39 w45 w.heap.size (fun k_ => some k_ ≠ (.slice Ao23 y144.length co23 : Value).ownBlock ∧ some k_ ≠ (.slice Ao22 t147.length co22 : Value).ownBlock ∧ some k_ ≠ (v156 : Value).ownBlock ∧ some k_ ≠ (v159 : Value).ownBlock ∧ some k_ ≠ (v163 : Value).ownBlock ∧ some k_ ≠ (v166 : Value).ownBlock ∧ some k_ ≠ (v169 : Value).ownBlock ∧ some k_ ≠ (v173 : Value).ownBlock ∧ some k_ ≠ (v180 : Value).ownBlock) v153 t152) := ⟨h2_⟩
          have n3_ : Aside0 (Kd.R (Kd.int .i64) 3 w45 w.heap.size (fun k_ => some k_ ≠ (v159 : Value).ownBlock ∧ some k_ ≠ (v166 : Value).ownBlock ∧ some k_ ≠ (v169 : Value).ownBlock) v156 t155) := ⟨h3_⟩
          have n4_ : Aside0 (Kd.R (Kd.int .i64) 3 w45 w.heap.size (fun k_ => some k_ ≠ (v156 : Value).ownBlock ∧ some k_ ≠ (v166 : Value).ownBlock ∧ some k_ ≠ (v169 : Value).ownBlock) v159 y158) := ⟨h4_⟩
          have n5_ : Aside0 (Kd.N k39 39 w45 w.heap.size (fun k_ => some k_ ≠ (.slice Ao23 y144.length co23 : Value).ownBlock ∧ some k_ ≠ (.slice Ao22 t147.length co22 : Value).ownBlock ∧ some k_ ≠ (v153 : Value).ownBlock ∧ some k_ ≠ (v156 : Value).ownBlock ∧ some k_ ≠ (v159 : Value).ownBlock ∧ some k_ ≠ (v166 : Value).ownBlock ∧ some k_ ≠ (v169 : Value).ownBlock ∧ some k_ ≠ (v173 : Value).ownBlock ∧ some k_ ≠ (v180 : Value).ownBlock) v163 t162) := ⟨h5_⟩
          have n6_ : Aside0 (Kd.R (Kd.int .i64) 3 w45 w.heap.size (fun k_ => some k_ ≠ (v156 : Value).ownBlock ∧ some k_ ≠ (v159 : Value).ownBlock ∧ some k_ ≠ (v169 : Value).ownBlock) v166 t165) := ⟨h6_⟩
          have n7_ : Aside0 (Kd.R (Kd.int .i64) 3 w45 w.heap.size (fun k_ => some k_ ≠ (v156 : Value).ownBlock ∧ some k_ ≠ (v159 : Value).ownBlock ∧ some k_ ≠ (v166 : Value).ownBlock) v169 y168) := ⟨h7_⟩
          have n8_ : Aside0 (Kd.N k39 39 w45 w.heap.size (fun k_ => some k_ ≠ (.slice Ao23 y144.length co23 : Value).ownBlock ∧ some k_ ≠ (.slice Ao22 t147.length co22 : Value).ownBlock ∧ some k_ ≠ (v153 : Value).ownBlock ∧ some k_ ≠ (v156 : Value).ownBlock ∧ some k_ ≠ (v159 : Value).ownBlock ∧ some k_ ≠ (v163 : Value).ownBlock ∧ some k_ ≠ (v166 : Value).ownBlock ∧ some k_ ≠ (v169 : Value).ownBlock ∧ some k_ ≠ (v180 : Value).ownBlock) v173 t172) := ⟨h8_⟩
          have n9_ : Aside0 (Kd.R k50 50 w45 w.heap.size (fun k_ => some k_ ≠ (.slice Ao23 y144.length co23 : Value).ownBlock) v180 y179) := ⟨h9_⟩
          have n10_ : Aside0 (Below w.heap.size w w45) := ⟨h10_⟩
          clear HO146
          clear HO149
          clear HB
          clear h0_ h1_ h2_ h3_ h4_ h5_ h6_ h7_ h8_ h9_ h10_
          have HO146 := n0_
          have HO149 := n1_
          have HO154 := n2_
          have HO157 := n3_
          have HO160 := n4_
          have HO164 := n5_
          have HO167 := n6_
          have HO170 := n7_
          have HO174 := n8_
          have HO181 := n9_
          have HB := n10_
          clear n0_ n1_ n2_ n3_ n4_ n5_ n6_ n7_ n8_ n9_ n10_
          have hHeld := trivial
          refine norm_ (a' := ?_) ?_ ?_
          rotate_left
          ·simp only [putAll, Act.put, List.setIfInBounds_toArray, List.set_cons_zero, List.set_cons_succ]
           rfl
          refine one_ (i := 19) (N := some 34) #[true, true, true, true, true, true, true, true, true, true, true, true, true, true, true, true, true, true, true, true, true, false, false, false, false, false, false, false, false, false, false, false, false] rfl rfl (one_of HT_.out c12') c24' (fun K hK => ?_)
          refine goes_ Tryz.func30 c12' rfl #[] (by rfl) rfl rfl c7' ?_
          with_reducible refine (argosylaw32_both.calls  t176 _ A14.out).mono ?_
          rintro e w46 ⟨v177, rfl, ho0, hb⟩
          refine ⟨_, rfl, ?_⟩
          have n0_ := Aside0.mk (Kd.R_below c1' hb)
          have n1_ := Aside0.mk (Kd.N_elder' c5' (Kd.N_base ho0) hb)
          have n2_ := Aside0.mk (Kd.N_elder' c6' (Kd.N_base ho0) hb)
          have n3_ := Aside0.mk (Kd.R_below c4' hb)
          have n4_ := Aside0.mk (Kd.R_below c3' hb)
          have n5_ := Aside0.mk (Kd.N_elder' c10' (Kd.N_base ho0) hb)
          have n6_ := Aside0.mk (Kd.R_below c9' hb)
          have n7_ := Aside0.mk (Kd.R_below c8' hb)
          have n8_ := Aside0.mk (Kd.N_elder' c11' (Kd.N_base ho0) hb)
          have n9_ := Aside0.mk (Kd.R_below c13' hb)
          have n10_ := Aside0.mk (Kd.N_lower (Kd.N_mono (ok' := fun k_ => some k_ ≠ (.slice Ao23 y144.length co23 : Value).ownBlock ∧ some k_ ≠ (.slice Ao22 t147.length co22 : Value).ownBlock ∧ some k_ ≠ (v153 : Value).ownBlock ∧ some k_ ≠ (v156 : Value).ownBlock ∧ some k_ ≠ (v159 : Value).ownBlock ∧ some k_ ≠ (v163 : Value).ownBlock ∧ some k_ ≠ (v166 : Value).ownBlock ∧ some k_ ≠ (v169 : Value).ownBlock ∧ some k_ ≠ (v173 : Value).ownBlock ∧ some k_ ≠ (v180 : Value).ownBlock) ho0 (fun k_ hk_ => ⟨(Kd.fresh' (Kd.R_lt c1') k_ hk_), (Kd.fresh' (Kd.N_lt c5') k_ hk_), (Kd.fresh' (Kd.N_lt c6') k_ hk_), (Kd.fresh' (Kd.R_lt c4') k_ hk_), (Kd.fresh' (Kd.R_lt c3') k_ hk_), (Kd.fresh' (Kd.N_lt c10') k_ hk_), (Kd.fresh' (Kd.R_lt c9') k_ hk_), (Kd.fresh' (Kd.R_lt c8') k_ hk_), (Kd.fresh' (Kd.N_lt c11') k_ hk_), (Kd.fresh' (Kd.R_lt c13') k_ hk_)⟩)) (below_size c0'))
          have n11_ := Aside0.mk (below_step c0' hb)
          clear HO146
          clear HO149
          clear HO154
          clear HO157
          clear HO160
          clear HO164
          clear HO167
          clear HO170
          clear HO174
          clear HO181
          clear HB
          have HO146 := n0_
          have HO149 := n1_
          have HO154 := n2_
          have HO157 := n3_
          have HO160 := n4_
          have HO164 := n5_
          have HO167 := n6_
          have HO170 := n7_
          have HO174 := n8_
          have HO181 := n9_
          have HO178 := n10_
          have HB := n11_
          clear n0_ n1_ n2_ n3_ n4_ n5_ n6_ n7_ n8_ n9_ n10_ n11_
          (try clear hb)
          (try clear hb2)
          (try clear hk)
          (try clear hi)
          (try clear ho0)
          refine hK.out _ _ trivial (fun hHeld => ?_)
          clear hK K
          refine norm_ (a' := ?_) ?_ ?_
          rotate_left
          ·show Act.put _ (some 34) _ = _
           simp only [Act.put, List.setIfInBounds_toArray, List.set_cons_zero, List.set_cons_succ, i64_w, i32_w]
           rfl
          exact norm_ c2' (hJ0_2_3_4_6_8_9_10_13_15_19_20 (v153, v156, v159, v163, v166, v169, v173, v177, v180) _ ⟨c1', (by (with_reducible repeat (first | apply Kd.N_alloc | apply Kd.N_drewN | apply Kd.N_drew)); exact Kd.N_mono HO149.out (fun _ hk => ⟨hk.1.1, ⟨hk.1.2.1, ⟨hk.1.2.2.1, ⟨hk.1.2.2.2.1, ⟨hk.1.2.2.2.2.1, ⟨hk.1.2.2.2.2.2.1, ⟨hk.1.2.2.2.2.2.2.1, ⟨hk.1.2.2.2.2.2.2.2.1, ⟨hk.2, hk.1.2.2.2.2.2.2.2.2⟩⟩⟩⟩⟩⟩⟩⟩⟩)), (by (with_reducible repeat (first | apply Kd.N_alloc | apply Kd.N_drewN | apply Kd.N_drew)); exact Kd.N_mono HO154.out (fun _ hk => ⟨hk.1.1, ⟨hk.1.2.1, ⟨hk.1.2.2.1, ⟨hk.1.2.2.2.1, ⟨hk.1.2.2.2.2.1, ⟨hk.1.2.2.2.2.2.1, ⟨hk.1.2.2.2.2.2.2.1, ⟨hk.1.2.2.2.2.2.2.2.1, ⟨hk.2, hk.1.2.2.2.2.2.2.2.2⟩⟩⟩⟩⟩⟩⟩⟩⟩)), c4', c3', (by (with_reducible repeat (first | apply Kd.N_alloc | apply Kd.N_drewN | apply Kd.N_drew)); exact Kd.N_mono HO164.out (fun _ hk => ⟨hk.1.1, ⟨hk.1.2.1, ⟨hk.1.2.2.1, ⟨hk.1.2.2.2.1, ⟨hk.1.2.2.2.2.1, ⟨hk.1.2.2.2.2.2.1, ⟨hk.1.2.2.2.2.2.2.1, ⟨hk.1.2.2.2.2.2.2.2.1, ⟨hk.2, hk.1.2.2.2.2.2.2.2.2⟩⟩⟩⟩⟩⟩⟩⟩⟩)), c9', c8', (by (with_reducible repeat (first | apply Kd.N_alloc | apply Kd.N_drewN | apply Kd.N_drew)); exact Kd.N_mono HO174.out (fun _ hk => ⟨hk.1.1, ⟨hk.1.2.1, ⟨hk.1.2.2.1, ⟨hk.1.2.2.2.1, ⟨hk.1.2.2.2.2.1, ⟨hk.1.2.2.2.2.2.1, ⟨hk.1.2.2.2.2.2.2.1, ⟨hk.1.2.2.2.2.2.2.2.1, ⟨hk.2, hk.1.2.2.2.2.2.2.2.2⟩⟩⟩⟩⟩⟩⟩⟩⟩)), c14', c13', c0'⟩)
        ·skip
         rintro ⟨v153, v156, v159, v163, v166, v169, v173, v177⟩ w44 ⟨h0_, h1_, h2_, h3_, h4_, h5_, h6_, h7_, h8_, h9_, h10_⟩
         have n0_ : Aside0 (Kd.R k50 50 w44 w.heap.size (fun _ => True) (.slice Ao23 y144.length co23) y144) := ⟨h0_⟩
         have n1_ : Aside0 (Kd.N k39 39 w44 w.heap.size (fun k_ => some k_ ≠ (.slice Ao23 y144.length co23 : Value).ownBlock ∧ some k_ ≠ (v153 : Value).ownBlock ∧ some k_ ≠ (v156 : Value).ownBlock ∧ some k_ ≠ (v159 : Value).ownBlock ∧ some k_ ≠ (v163 : Value).ownBlock ∧ some k_ ≠ (v166 : Value).ownBlock ∧ some k_ ≠ (v169 : Value).ownBlock ∧ some k_ ≠ (v173 : Value).ownBlock ∧ some k_ ≠ (v177 : Value).ownBlock) (.slice Ao22 t147.length co22) t147) := ⟨h1_⟩
         have n2_ : Aside0 (Kd.N k39 39 w44 w.heap.size (fun k_ => some k_ ≠ (.slice Ao23 y144.length co23 : Value).ownBlock ∧ some k_ ≠ (.slice Ao22 t147.length co22 : Value).ownBlock ∧ some k_ ≠ (v156 : Value).ownBlock ∧ some k_ ≠ (v159 : Value).ownBlock ∧ some k_ ≠ (v163 : Value).ownBlock ∧ some k_ ≠ (v166 : Value).ownBlock ∧ some k_ ≠ (v169 : Value).ownBlock ∧ some k_ ≠ (v173 : Value).ownBlock ∧ some k_ ≠ (v177 : Value).ownBlock) v153 t152) := ⟨h2_⟩
         have n3_ : Aside0 (Kd.R (Kd.int .i64) 3 w44 w.heap.size (fun k_ => some k_ ≠ (v159 : Value).ownBlock ∧ some k_ ≠ (v166 : Value).ownBlock ∧ some k_ ≠ (v169 : Value).ownBlock) v156 t155) := ⟨h3_⟩
         have n4_ : Aside0 (Kd.R (Kd.int .i64) 3 w44 w.heap.size (fun k_ => some k_ ≠ (v156 : Value).ownBlock ∧ some k_ ≠ (v166 : Value).ownBlock ∧ some k_ ≠ (v169 : Value).ownBlock) v159 y158) := ⟨h4_⟩
         have n5_ : Aside0 (Kd.N k39 39 w44 w.heap.size (fun k_ => some k_ ≠ (.slice Ao23 y144.length co23 : Value).ownBlock ∧ some k_ ≠ (.slice Ao22 t147.length co22 : Value).ownBlock ∧ some k_ ≠ (v153 : Value).ownBlock ∧ some k_ ≠ (v156 : Value).ownBlock ∧ some k_ ≠ (v159 : Value).ownBlock ∧ some k_ ≠ (v166 : Value).ownBlock ∧ some k_ ≠ (v169 : Value).ownBlock ∧ some k_ ≠ (v173 : Value).ownBlock ∧ some k_ ≠ (v177 : Value).ownBlock) v163 t162) := ⟨h5_⟩
         have n6_ : Aside0 (Kd.R (Kd.int .i64) 3 w44 w.heap.size (fun k_ => some k_ ≠ (v156 : Value).ownBlock ∧ some k_ ≠ (v159 : Value).ownBlock ∧ some k_ ≠ (v169 : Value).ownBlock) v166 t165) := ⟨h6_⟩
         have n7_ : Aside0 (Kd.R (Kd.int .i64) 3 w44 w.heap.size (fun k_ => some k_ ≠ (v156 : Value).ownBlock ∧ some k_ ≠ (v159 : Value).ownBlock ∧ some k_ ≠ (v166 : Value).ownBlock) v169 y168) := ⟨h7_⟩
         have n8_ : Aside0 (Kd.N k39 39 w44 w.heap.size (fun k_ => some k_ ≠ (.slice Ao23 y144.length co23 : Value).ownBlock ∧ some k_ ≠ (.slice Ao22 t147.length co22 : Value).ownBlock ∧ some k_ ≠ (v153 : Value).ownBlock ∧ some k_ ≠ (v156 : Value).ownBlock ∧ some k_ ≠ (v159 : Value).ownBlock ∧ some k_ ≠ (v163 : Value).ownBlock ∧ some k_ ≠ (v166 : Value).ownBlock ∧ some k_ ≠ (v169 : Value).ownBlock ∧ some k_ ≠ (v177 : Value).ownBlock) v173 t172) := ⟨h8_⟩
         have n9_ : Aside0 (Kd.N k39 39 w44 w.heap.size (fun k_ => some k_ ≠ (.slice Ao23 y144.length co23 : Value).ownBlock ∧ some k_ ≠ (.slice Ao22 t147.length co22 : Value).ownBlock ∧ some k_ ≠ (v153 : Value).ownBlock ∧ some k_ ≠ (v156 : Value).ownBlock ∧ some k_ ≠ (v159 : Value).ownBlock ∧ some k_ ≠ (v163 : Value).ownBlock ∧ some k_ ≠ (v166 : Value).ownBlock ∧ some k_ ≠ (v169 : Value).ownBlock ∧ some k_ ≠ (v173 : Value).ownBlock) v177 t176) := ⟨h9_⟩
         have n10_ : Aside0 (Below w.heap.size w w44) := ⟨h10_⟩
         clear HO146
         clear HO149
         clear HB
         clear h0_ h1_ h2_ h3_ h4_ h5_ h6_ h7_ h8_ h9_ h10_
         have HO146 := n0_
         have HO149 := n1_
         have HO154 := n2_
         have HO157 := n3_
         have HO160 := n4_
         have HO164 := n5_
         have HO167 := n6_
         have HO170 := n7_
         have HO174 := n8_
         have HO178 := n9_
         have HB := n10_
         clear n0_ n1_ n2_ n3_ n4_ n5_ n6_ n7_ n8_ n9_ n10_
         have hHeld := trivial
         refine norm_ (a' := ?_) ?_ ?_
         rotate_left
         ·simp only [putAll, Act.put, List.setIfInBounds_toArray, List.set_cons_zero, List.set_cons_succ]
          rfl
         refine one_ (i := 20) (N := some 35) #[true, true, true, true, true, true, true, true, true, true, true, true, true, true, true, true, true, true, true, true, true, false, false, false, false, false, false, false, false, false, false, false, false] rfl rfl (one_of HT_.out c12') c24' (fun K hK => ?_)
         refine Kd.R_make_step k50 _ 50 (by rfl) (N := 35) rfl 25 _ _ rfl 4 rfl rfl Tryz.underlying25 (.agg #[(.int .i64 0), (.int .i64 0), (.int .i64 0), (.bool false)]) 32 info50 rfl c24' (by omega) z50 (ok := fun _ => True) (okp := fun _ => True) (k50_mkM _ _ _ z50 ) (fun _ hk => hk) trivial (by omega) (by omega) (Below.refl _ _) (Nat.le_refl _) ?_
         intro v180 w45 ho46 hb hg_ hnew_
         clear hg_ hnew_
         (first | rw [← Ny179.out] at ho46 | (simp only [Int.reduceToNat] at ho46; rw [← Ny179.out] at ho46))
         have n0_ := Aside0.mk (Kd.R_elder' c1' (Kd.R_base ho46) hb)
         have n1_ := Aside0.mk (Kd.N_elder' c5' (Kd.R_base ho46) hb)
         have n2_ := Aside0.mk (Kd.N_elder' c6' (Kd.R_base ho46) hb)
         have n3_ := Aside0.mk (Kd.R_below c4' hb)
         have n4_ := Aside0.mk (Kd.R_below c3' hb)
         have n5_ := Aside0.mk (Kd.N_elder' c10' (Kd.R_base ho46) hb)
         have n6_ := Aside0.mk (Kd.R_below c9' hb)
         have n7_ := Aside0.mk (Kd.R_below c8' hb)
         have n8_ := Aside0.mk (Kd.N_elder' c11' (Kd.R_base ho46) hb)
         have n9_ := Aside0.mk (Kd.N_elder' c14' (Kd.R_base ho46) hb)
         have n10_ := Aside0.mk (Kd.R_lower (Kd.R_new' ho46 (Kd.R_lt c1')) (below_size c0'))
         have n11_ := Aside0.mk (below_step c0' hb)
         clear HO146
         clear HO149
         clear HO154
         clear HO157
         clear HO160
         clear HO164
         clear HO167
         clear HO170
         clear HO174
         clear HO178
         clear HB
         have HO146 := n0_
         have HO149 := n1_
         have HO154 := n2_
         have HO157 := n3_
         have HO160 := n4_
         have HO164 := n5_
         have HO167 := n6_
         have HO170 := n7_
         have HO174 := n8_
         have HO178 := n9_
         have HO181 := n10_
         have HB := n11_
         clear n0_ n1_ n2_ n3_ n4_ n5_ n6_ n7_ n8_ n9_ n10_ n11_
         clear hb ho46
         refine hK.out _ _ trivial (fun hHeld => ?_)
         clear hK K
         refine norm_ (a' := ?_) ?_ ?_
         rotate_left
         ·show Act.put _ (some 35) _ = _
          simp only [Act.put, List.setIfInBounds_toArray, List.set_cons_zero, List.set_cons_succ, i64_w, i32_w]
          rfl
         exact norm_ c2' (hJ0_2_3_4_6_8_9_10_13_15_19_20 (v153, v156, v159, v163, v166, v169, v173, v177, v180) _ ⟨c31', (by (with_reducible repeat (first | apply Kd.N_alloc | apply Kd.N_drewN | apply Kd.N_drew)); exact Kd.N_mono HO149.out (fun _ hk => ⟨hk.1.1, ⟨hk.1.2.1, ⟨hk.1.2.2.1, ⟨hk.1.2.2.2.1, ⟨hk.1.2.2.2.2.1, ⟨hk.1.2.2.2.2.2.1, ⟨hk.1.2.2.2.2.2.2.1, ⟨hk.1.2.2.2.2.2.2.2.1, ⟨hk.1.2.2.2.2.2.2.2.2, hk.2⟩⟩⟩⟩⟩⟩⟩⟩⟩)), (by (with_reducible repeat (first | apply Kd.N_alloc | apply Kd.N_drewN | apply Kd.N_drew)); exact Kd.N_mono HO154.out (fun _ hk => ⟨hk.1.1, ⟨hk.1.2.1, ⟨hk.1.2.2.1, ⟨hk.1.2.2.2.1, ⟨hk.1.2.2.2.2.1, ⟨hk.1.2.2.2.2.2.1, ⟨hk.1.2.2.2.2.2.2.1, ⟨hk.1.2.2.2.2.2.2.2.1, ⟨hk.1.2.2.2.2.2.2.2.2, hk.2⟩⟩⟩⟩⟩⟩⟩⟩⟩)), c4', c3', (by (with_reducible repeat (first | apply Kd.N_alloc | apply Kd.N_drewN | apply Kd.N_drew)); exact Kd.N_mono HO164.out (fun _ hk => ⟨hk.1.1, ⟨hk.1.2.1, ⟨hk.1.2.2.1, ⟨hk.1.2.2.2.1, ⟨hk.1.2.2.2.2.1, ⟨hk.1.2.2.2.2.2.1, ⟨hk.1.2.2.2.2.2.2.1, ⟨hk.1.2.2.2.2.2.2.2.1, ⟨hk.1.2.2.2.2.2.2.2.2, hk.2⟩⟩⟩⟩⟩⟩⟩⟩⟩)), c9', c8', (by (with_reducible repeat (first | apply Kd.N_alloc | apply Kd.N_drewN | apply Kd.N_drew)); exact Kd.N_mono HO174.out (fun _ hk => ⟨hk.1.1, ⟨hk.1.2.1, ⟨hk.1.2.2.1, ⟨hk.1.2.2.2.1, ⟨hk.1.2.2.2.2.1, ⟨hk.1.2.2.2.2.2.1, ⟨hk.1.2.2.2.2.2.2.1, ⟨hk.1.2.2.2.2.2.2.2.1, ⟨hk.1.2.2.2.2.2.2.2.2, hk.2⟩⟩⟩⟩⟩⟩⟩⟩⟩)), (by (with_reducible repeat (first | apply Kd.N_alloc | apply Kd.N_drewN | apply Kd.N_drew)); exact Kd.N_mono HO178.out (fun _ hk => ⟨hk.1.1, ⟨hk.1.2.1, ⟨hk.1.2.2.1, ⟨hk.1.2.2.2.1, ⟨hk.1.2.2.2.2.1, ⟨hk.1.2.2.2.2.2.1, ⟨hk.1.2.2.2.2.2.2.1, ⟨hk.1.2.2.2.2.2.2.2.1, ⟨hk.1.2.2.2.2.2.2.2.2, hk.2⟩⟩⟩⟩⟩⟩⟩⟩⟩)), c28', c0'⟩)
       rintro ⟨v153, v156, v159, v163, v166, v169, v173, v177, v180⟩ w46 ⟨h0_, h1_, h2_, h3_, h4_, h5_, h6_, h7_, h8_, h9_, h10_, h11_⟩
       have n0_ : Aside0 (Kd.R k50 50 w46 w.heap.size (fun k_ => some k_ ≠ (v180 : Value).ownBlock) (.slice Ao23 y144.length co23) y144) := ⟨h0_⟩
       have n1_ : Aside0 (Kd.N k39 39 w46 w.heap.size (fun k_ => some k_ ≠ (.slice Ao23 y144.length co23 : Value).ownBlock ∧ some k_ ≠ (v153 : Value).ownBlock ∧ some k_ ≠ (v156 : Value).ownBlock ∧ some k_ ≠ (v159 : Value).ownBlock ∧ some k_ ≠ (v163 : Value).ownBlock ∧ some k_ ≠ (v166 : Value).ownBlock ∧ some k_ ≠ (v169 : Value).ownBlock ∧ some k_ ≠ (v173 : Value).ownBlock ∧ some k_ ≠ (v177 : Value).ownBlock ∧ some k_ ≠ (v180 : Value).ownBlock) (.slice Ao22 t147.length co22) t147) := ⟨h1_⟩
       have n2_ : Aside0 (Kd.N k39 39 w46 w.heap.size (fun k_ => some k_ ≠ (.slice Ao23 y144.length co23 : Value).ownBlock ∧ some k_ ≠ (.slice Ao22 t147.length co22 : Value).ownBlock ∧ some k_ ≠ (v156 : Value).ownBlock ∧ some k_ ≠ (v159 : Value).ownBlock ∧ some k_ ≠ (v163 : Value).ownBlock ∧ some k_ ≠ (v166 : Value).ownBlock ∧ some k_ ≠ (v169 : Value).ownBlock ∧ some k_ ≠ (v173 : Value).ownBlock ∧ some k_ ≠ (v177 : Value).ownBlock ∧ some k_ ≠ (v180 : Value).ownBlock) v153 t152) := ⟨h2_⟩
       have n3_ : Aside0 (Kd.R (Kd.int .i64) 3 w46 w.heap.size (fun k_ => some k_ ≠ (v159 : Value).ownBlock ∧ some k_ ≠ (v166 : Value).ownBlock ∧ some k_ ≠ (v169 : Value).ownBlock) v156 t155) := ⟨h3_⟩
       have n4_ : Aside0 (Kd.R (Kd.int .i64) 3 w46 w.heap.size (fun k_ => some k_ ≠ (v156 : Value).ownBlock ∧ some k_ ≠ (v166 : Value).ownBlock ∧ some k_ ≠ (v169 : Value).ownBlock) v159 y158) := ⟨h4_⟩
       have n5_ : Aside0 (Kd.N k39 39 w46 w.heap.size (fun k_ => some k_ ≠ (.slice Ao23 y144.length co23 : Value).ownBlock ∧ some k_ ≠ (.slice Ao22 t147.length co22 : Value).ownBlock ∧ some k_ ≠ (v153 : Value).ownBlock ∧ some k_ ≠ (v156 : Value).ownBlock ∧ some k_ ≠ (v159 : Value).ownBlock ∧ some k_ ≠ (v166 : Value).ownBlock ∧ some k_ ≠ (v169 : Value).ownBlock ∧ some k_ ≠ (v173 : Value).ownBlock ∧ some k_ ≠ (v177 : Value).ownBlock ∧ some k_ ≠ (v180 : Value).ownBlock) v163 t162) := ⟨h5_⟩
       have n6_ : Aside0 (Kd.R (Kd.int .i64) 3 w46 w.heap.size (fun k_ => some k_ ≠ (v156 : Value).ownBlock ∧ some k_ ≠ (v159 : Value).ownBlock ∧ some k_ ≠ (v169 : Value).ownBlock) v166 t165) := ⟨h6_⟩
       have n7_ : Aside0 (Kd.R (Kd.int .i64) 3 w46 w.heap.size (fun k_ => some k_ ≠ (v156 : Value).ownBlock ∧ some k_ ≠ (v159 : Value).ownBlock ∧ some k_ ≠ (v166 : Value).ownBlock) v169 y168) := ⟨h7_⟩
       have n8_ : Aside0 (Kd.N k39 39 w46 w.heap.size (fun k_ => some k_ ≠ (.slice Ao23 y144.length co23 : Value).ownBlock ∧ some k_ ≠ (.slice Ao22 t147.length co22 : Value).ownBlock ∧ some k_ ≠ (v153 : Value).ownBlock ∧ some k_ ≠ (v156 : Value).ownBlock ∧ some k_ ≠ (v159 : Value).ownBlock ∧ some k_ ≠ (v163 : Value).ownBlock ∧ some k_ ≠ (v166 : Value).ownBlock ∧ some k_ ≠ (v169 : Value).ownBlock ∧ some k_ ≠ (v177 : Value).ownBlock ∧ some k_ ≠ (v180 : Value).ownBlock) v173 t172) := ⟨h8_⟩
       have n9_ : Aside0 (Kd.N k39 39 w46 w.heap.size (fun k_ => some k_ ≠ (.slice Ao23 y144.length co23 : Value).ownBlock ∧ some k_ ≠ (.slice Ao22 t147.length co22 : Value).ownBlock ∧ some k_ ≠ (v153 : Value).ownBlock ∧ some k_ ≠ (v156 : Value).ownBlock ∧ some k_ ≠ (v159 : Value).ownBlock ∧ some k_ ≠ (v163 : Value).ownBlock ∧ some k_ ≠ (v166 : Value).ownBlock ∧ some k_ ≠ (v169 : Value).ownBlock ∧ some k_ ≠ (v173 : Value).ownBlock ∧ some k_ ≠ (v180 : Value).ownBlock) v177 t176) := ⟨h9_⟩
       have n10_ : Aside0 (Kd.R k50 50 w46 w.heap.size (fun k_ => some k_ ≠ (.slice Ao23 y144.length co23 : Value).ownBlock) v180 y179) := ⟨h10_⟩
       have n11_ : Aside0 (Below w.heap.size w w46) := ⟨h11_⟩
       clear HO146
       clear HO149
       clear HB
       clear h0_ h1_ h2_ h3_ h4_ h5_ h6_ h7_ h8_ h9_ h10_ h11_
       have HO146 := n0_
       have HO149 := n1_
       have HO154 := n2_
       have HO157 := n3_
       have HO160 := n4_
       have HO164 := n5_
       have HO167 := n6_
       have HO170 := n7_
       have HO174 := n8_
       have HO178 := n9_
       have HO181 := n10_
       have HB := n11_
       clear n0_ n1_ n2_ n3_ n4_ n5_ n6_ n7_ n8_ n9_ n10_ n11_
       have hHeld := trivial
       obtain ⟨Ao47, co47, eo47⟩ := Kd.N_slice HO178.out
       (first | subst eo47 | (injection eo47 with f1_ f2_ f3_; have f4_ := f1_.symm; have f5_ := f3_.symm; clear f1_ f2_ f3_; subst f4_; subst f5_))
       obtain ⟨Ao48, co48, eo48⟩ := Kd.R_slice HO181.out
       (first | subst eo48 | (injection eo48 with f1_ f2_ f3_; have f4_ := f1_.symm; have f5_ := f3_.symm; clear f1_ f2_ f3_; subst f4_; subst f5_))
       refine norm_ (a' := ?_) ?_ ?_
       rotate_left
       ·simp only [putAll, Act.put, List.setIfInBounds_toArray, List.set_cons_zero, List.set_cons_succ]
        rfl
       refine one_ (i := 21) (N := some 36) #[true, true, true, true, true, true, true, true, true, true, true, true, true, true, true, true, true, true, true, true, true, true, false, false, false, false, false, false, false, false, false, false, false] rfl rfl (one_of HT_.out c12') c24' (fun K hK => ?_)
       refine goes_ Tryz.func15 c12' rfl #[.agg #[.slice Ao47 t176.length co47], .slice Ao48 y179.length co48, .int .i64 3] (by rfl) rfl rfl c7' ?_
       with_reducible refine (why_Blame.calls _ _ t176 _ _ y179 3 t182 _ ?side1 ?side2 ?side3 ?side4 A16.out).mono ?_
       (case side1 => repeat (first | exact (Kd.N_reads' HO178.out).2.2 | (with_reducible refine Kd.C_alloc ?_ _) | (with_reducible refine Kd.C_drewN ?_ _) | (with_reducible refine Kd.C_drew ?_)))
       (case side2 => exact (Kd.N_reads' HO178.out).2.1)
       (case side3 => repeat (first | exact (Kd.R_reads' HO181.out).2.2 | (with_reducible refine Kd.C_alloc ?_ _) | (with_reducible refine Kd.C_drewN ?_ _) | (with_reducible refine Kd.C_drew ?_)))
       (case side4 => exact (Kd.R_reads' HO181.out).2.1)
       rintro e w49 ⟨rfl, hb⟩
       refine ⟨_, rfl, ?_⟩
       have n0_ := Aside0.mk (Kd.R_below c1' hb)
       have n1_ := Aside0.mk (Kd.N_below c5' hb)
       have n2_ := Aside0.mk (Kd.N_below c6' hb)
       have n3_ := Aside0.mk (Kd.R_below c4' hb)
       have n4_ := Aside0.mk (Kd.R_below c3' hb)
       have n5_ := Aside0.mk (Kd.N_below c10' hb)
       have n6_ := Aside0.mk (Kd.R_below c9' hb)
       have n7_ := Aside0.mk (Kd.R_below c8' hb)
       have n8_ := Aside0.mk (Kd.N_below c11' hb)
       have n9_ := Aside0.mk (Kd.N_below c14' hb)
       have n10_ := Aside0.mk (Kd.R_below c13' hb)
       have n11_ := Aside0.mk (below_step c0' hb)
       clear HO146
       clear HO149
       clear HO154
       clear HO157
       clear HO160
       clear HO164
       clear HO167
       clear HO170
       clear HO174
       clear HO178
       clear HO181
       clear HB
       have HO146 := n0_
       have HO149 := n1_
       have HO154 := n2_
       have HO157 := n3_
       have HO160 := n4_
       have HO164 := n5_
       have HO167 := n6_
       have HO170 := n7_
       have HO174 := n8_
       have HO178 := n9_
       have HO181 := n10_
       have HB := n11_
       clear n0_ n1_ n2_ n3_ n4_ n5_ n6_ n7_ n8_ n9_ n10_ n11_
       (try clear hb)
       (try clear hb2)
       (try clear hk)
       (try clear hi)
       refine hK.out _ _ trivial (fun hHeld => ?_)
       clear hK K
       refine norm_ (a' := ?_) ?_ ?_
       rotate_left
       ·show Act.put _ (some 36) _ = _
        simp only [Act.put, List.setIfInBounds_toArray, List.set_cons_zero, List.set_cons_succ, i64_w, i32_w]
        rfl
       refine pure_ (i := 22) (N := some 37) (v := ?_) (a' := ?_) #[true, true, true, true, true, true, true, true, true, true, true, true, true, true, true, true, true, true, true, true, true, true, true, false, false, false, false, false, false, false, false, false, false] rfl rfl (any_of HT_.out c12') (fun _ _ _ h => h) (Or.inl ⟨by rfl, ?_⟩) ?_ ?_
       rotate_left
       ·intro w'
        go_simp
        with_reducible rfl
       rotate_left
       ·simp only [Act.put, List.setIfInBounds_toArray, List.set_cons_zero, List.set_cons_succ, i64_w, i32_w]
        rfl
       refine pure_ (i := 23) (N := some 38) (v := ?_) (a' := ?_) #[true, true, true, true, true, true, true, true, true, true, true, true, true, true, true, true, true, true, true, true, true, true, true, true, false, false, false, false, false, false, false, false, false] rfl rfl (any_of HT_.out c12') (fun _ _ _ h => h) (Or.inl ⟨by rfl, ?_⟩) ?_ ?_
       rotate_left
       ·intro w'
        go_simp
        with_reducible rfl
       rotate_left
       ·simp only [Act.put, List.setIfInBounds_toArray, List.set_cons_zero, List.set_cons_succ, i64_w, i32_w]
        rfl
       refine pure_ (i := 24) (N := some 39) (v := ?_) (a' := ?_) #[true, true, true, true, true, true, true, true, true, true, true, true, true, true, true, true, true, true, true, true, true, true, true, true, true, false, false, false, false, false, false, false, false] rfl rfl (any_of HT_.out c12') (fun _ _ _ h => h) (Or.inl ⟨by rfl, ?_⟩) ?_ ?_
       rotate_left
       ·intro w'
        go_simp
        with_reducible rfl
       rotate_left
       ·simp only [Act.put, List.setIfInBounds_toArray, List.set_cons_zero, List.set_cons_succ, i64_w, i32_w]
        rfl
       refine pure_ (i := 25) (N := some 40) (v := ?_) (a' := ?_) #[true, true, true, true, true, true, true, true, true, true, true, true, true, true, true, true, true, true, true, true, true, true, true, true, true, true, false, false, false, false, false, false, false] rfl rfl (any_of HT_.out c12') (fun _ _ _ h => h) (Or.inl ⟨by rfl, ?_⟩) ?_ ?_
       rotate_left
       ·intro w'
        go_simp
        with_reducible rfl
       rotate_left
       ·simp only [Act.put, List.setIfInBounds_toArray, List.set_cons_zero, List.set_cons_succ, i64_w, i32_w]
        rfl
       refine pure_ (i := 26) (N := some 41) (v := ?_) (a' := ?_) #[true, true, true, true, true, true, true, true, true, true, true, true, true, true, true, true, true, true, true, true, true, true, true, true, true, true, true, false, false, false, false, false, false] rfl rfl (any_of HT_.out c12') (fun _ _ _ h => h) (Or.inl ⟨by rfl, ?_⟩) ?_ ?_
       rotate_left
       ·intro w'
        go_simp
        with_reducible rfl
       rotate_left
       ·simp only [Act.put, List.setIfInBounds_toArray, List.set_cons_zero, List.set_cons_succ, i64_w, i32_w]
        rfl
       refine pure_ (i := 27) (N := some 42) (v := ?_) (a' := ?_) #[true, true, true, true, true, true, true, true, true, true, true, true, true, true, true, true, true, true, true, true, true, true, true, true, true, true, true, true, false, false, false, false, false] rfl rfl (any_of HT_.out c12') (fun _ _ _ h => h) (Or.inl ⟨by rfl, ?_⟩) ?_ ?_
       rotate_left
       ·intro w'
        go_simp
        with_reducible rfl
       rotate_left
       ·simp only [Act.put, List.setIfInBounds_toArray, List.set_cons_zero, List.set_cons_succ, i64_w, i32_w]
        rfl
       refine pure_ (i := 28) (N := some 43) (v := ?_) (a' := ?_) #[true, true, true, true, true, true, true, true, true, true, true, true, true, true, true, true, true, true, true, true, true, true, true, true, true, true, true, true, true, false, false, false, false] rfl rfl (any_of HT_.out c12') (fun _ _ _ h => h) (Or.inl ⟨by rfl, ?_⟩) ?_ ?_
       rotate_left
       ·intro w'
        go_simp
        with_reducible rfl
       rotate_left
       ·simp only [Act.put, List.setIfInBounds_toArray, List.set_cons_zero, List.set_cons_succ, i64_w, i32_w]
        rfl
       refine pure_ (i := 29) (N := some 44) (v := ?_) (a' := ?_) #[true, true, true, true, true, true, true, true, true, true, true, true, true, true, true, true, true, true, true, true, true, true, true, true, true, true, true, true, true, true, false, false, false] rfl rfl (any_of HT_.out c12') (fun _ _ _ h => h) (Or.inl ⟨by rfl, ?_⟩) ?_ ?_
       rotate_left
       ·intro w'
        go_simp
        with_reducible rfl
       rotate_left
       ·simp only [Act.put, List.setIfInBounds_toArray, List.set_cons_zero, List.set_cons_succ, i64_w, i32_w]
        rfl
       refine pure_ (i := 30) (N := some 45) (v := ?_) (a' := ?_) #[true, true, true, true, true, true, true, true, true, true, true, true, true, true, true, true, true, true, true, true, true, true, true, true, true, true, true, true, true, true, true, false, false] rfl rfl (any_of HT_.out c12') (fun _ _ _ h => h) (Or.inl ⟨by rfl, ?_⟩) ?_ ?_
       rotate_left
       ·intro w'
        go_simp
        with_reducible rfl
       rotate_left
       ·simp only [Act.put, List.setIfInBounds_toArray, List.set_cons_zero, List.set_cons_succ, i64_w, i32_w]
        rfl
       refine pure_ (i := 31) (N := some 46) (v := ?_) (a' := ?_) #[true, true, true, true, true, true, true, true, true, true, true, true, true, true, true, true, true, true, true, true, true, true, true, true, true, true, true, true, true, true, true, true, false] rfl rfl (any_of HT_.out c12') (fun _ _ _ h => h) (Or.inl ⟨by rfl, ?_⟩) ?_ ?_
       rotate_left
       ·intro w'
        go_simp
        with_reducible rfl
       rotate_left
       ·simp only [Act.put, List.setIfInBounds_toArray, List.set_cons_zero, List.set_cons_succ, i64_w, i32_w]
        rfl
       refine pure_ (i := 32) (N := some 0) (v := ?_) (a' := ?_) #[true, true, true, true, true, true, true, true, true, true, true, true, true, true, true, true, true, true, true, true, true, true, true, true, true, true, true, true, true, true, true, true, true] rfl rfl (any_of HT_.out c12') (fun _ _ _ h => h) (Or.inl ⟨by rfl, ?_⟩) ?_ ?_
       rotate_left
       ·intro w'
        go_simp
        with_reducible rfl
       rotate_left
       ·simp only [Act.put, List.setIfInBounds_toArray, List.set_cons_zero, List.set_cons_succ, i64_w, i32_w]
        rfl
       refine done_ (done_of HT_.out c12') ?_
       try go_wp2
       go_ret
       exact ⟨by first | rfl | (simp [errW_none, errW_some] <;> rfl) | (simp [*, errW_none, errW_some] <;> rfl), by repeat (first | (with_reducible first | exact HB.out | apply below_alloc | apply pw_below_drewN | apply below_drew1) | exact HB.out)⟩
      ·rw [if_neg c18] at H
       have c18b0 : (t150.toList == ([97, 10, 115, 10, 32, 32, 98, 10] : List UInt8)) = false := beq_eq_false_iff_ne.mpr c18
       have c18b1 : (t150.toList != ([97, 10, 115, 10, 32, 32, 98, 10] : List UInt8)) = true := bne_iff_ne.mpr c18
       obtain rfl := Option.some.inj H
       exact absurd HR0.out c24'
     ·rw [if_neg c17] at H
      have c17b0 : (t182 == (-1)) = false := beq_eq_false_iff_ne.mpr c17
      have c17b1 : (t182 != (-1)) = true := bne_iff_ne.mpr c17
      obtain rfl := Option.some.inj H
      exact absurd HR0.out c24'
    ·rw [if_neg c15] at H
     exact absurd H (by simp)
   ·rw [if_neg c13] at H
    have c13b0 : (t175 == 3) = false := beq_eq_false_iff_ne.mpr c13
    have c13b1 : (t175 != 3) = true := bne_iff_ne.mpr c13
    obtain rfl := Option.some.inj H
    exact absurd HR0.out c24'
  ·replace c10 := Bool.eq_false_iff.mpr c10
   subst c10
   have H1 : (some false) = some r := by rw [if_neg (show ¬ (false = true) by decide)] at H; exact H
   clear H
   have H := H1
   clear H1
   obtain rfl := Option.some.inj H
   exact absurd HR0.out c24'
 ·replace c6 := Bool.eq_false_iff.mpr c6
  subst c6
  have H1 : (some false) = some r := by rw [if_neg (show ¬ (false = true) by decide)] at H; exact H
  clear H
  have H := H1
  clear H1
  obtain rfl := Option.some.inj H
  exact absurd HR0.out c24'
theorem argosylaw32_lives.at_ : argosylaw32_lives.f 80 = some true := by decide +kernel
theorem argosylaw32_lives.up_ : ∀ (m k : Nat) (r : Bool), argosylaw32_lives.f k = some r → argosylaw32_lives.f (k + m) = some r
 | 0, _, _, h => h
 | m + 1, k, r, h => argosylaw32_lives.mono _ _ (argosylaw32_lives.up_ m k r h)
theorem argosylaw32_lives.only_ {k : Nat} {r : Bool} (h : argosylaw32_lives.f k = some r) : r = true := by
 have a := argosylaw32_lives.up_ 80 k r h
 have b := argosylaw32_lives.up_ k 80 true argosylaw32_lives.at_
 rw [Nat.add_comm] at b
 exact Option.some.inj (a.symm.trans b)
theorem argosylaw32_lives.calls (k : Nat)  (r : Bool) (w : World) (h : argosylaw32_lives.f k  = some r) :
  Calls Tryz.prog 9 #[] w fun e w' => e = .returned (.bool r) ∧ Below w.heap.size w w' := argosylaw32_lives.calls_ k r w (argosylaw32_lives.only_ h) h
end Go.Proofs.YtloijngccppfgaaGreat.F
end
