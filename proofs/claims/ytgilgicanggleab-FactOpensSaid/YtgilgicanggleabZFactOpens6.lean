-- Texts of this seat's, joined.
import Derived.Test.YtgilgicanggleabZFactOpens1
import Derived.Test.YtgilgicanggleabZFactOpens5
import Derived.Test.YtgilgicanggleabZFactOpens2
import Derived.Test.YtgilgicanggleabProg
import Derived.Below
import Derived.Deep.Draws
import Derived.Deep.AppendLies
import Derived.Maps.AppendAt
import Derived.OwnWalk
import Derived.Laws.BytesArg
import Derived.Laws.MakeOwn
import Derived.Laws.OwnMore
import Derived.Deep.OwnRows
import Derived.Tactics
import Derived.Lib.ConvBytes
import Derived.Laws.Slices
import Derived.WalkKit
import Derived.KernelRfl
import Derived.RowKit3
import Derived.Deep.LoopGhost
import Derived.Deep.QuietTactic
import Derived.BigQuiet
import Derived.WideLaws
import Derived.Deep.DeepCutAuto
import Derived.Deep.CutBlock
import Derived.Deep.RegionHeld3
import Derived.Laws.Rows
import Derived.Lib.AppendStr
import Derived.ArgAppend
import Derived.Laws.IdiomCopy
import Derived.OrdersHeld
import Derived.Laws.BitsLemmas
import Derived.RowKit
import Derived.Deep.Slices
section
namespace Go.Proofs.Ytgilgicanggleab.F
open Go.RowKit Go.Proofs.YtgilgicanggleabW.PrintWords Go.Proofs.YtgilgicanggleabW.PrintLast Go.Proofs.YtgilgicanggleabW.PrintMore
attribute [local go_sem] max2_int min2_int max_two min_two max_three min_three max_four min_four
set_option linter.unusedVariables false
set_option linter.unusedSimpArgs false
def argosylaw13_lives.f (k : Nat)  : Option (Bool) := (argosylaw13_one.f).bind fun t177 => ((argosylaw13_ev.f 1 0).bind fun bt181 => ((argosylaw13_ev.f 2 0).bind fun bt187 => ((argosylaw13_ev.f 4 0).bind fun bt193 => ((fact_All.f t177 (([(⟨bt181.1, bt181.2.1, bt181.2.2.1, bt181.2.2.2⟩ : S29), (⟨bt187.1, bt187.2.1, bt187.2.2.1, bt187.2.2.2⟩ : S29), (⟨bt193.1, bt193.2.1, bt193.2.2.1, bt193.2.2.2⟩ : S29)] : List (S29)))).bind fun bt202 => ((argosylaw13_ev.f 6 0).bind fun bt207 => ((fact_Apply.f t177 bt202.1 bt207.1 bt207.2.1 bt207.2.2.1 bt207.2.2.2).bind fun bt213 => ((argosylaw13_ev.f 4 0).bind fun bt217 => ((fact_Apply.f t177 bt213.1 bt217.1 bt217.2.1 bt217.2.2.1 bt217.2.2.2).bind fun bt223 => ((argosyref13_Same.f k bt202.1 (([(⟨0, 0, 0, false⟩ : S52), (⟨2, 1, 0, false⟩ : S52)] : List (S52)))).bind fun t230 => (if t230 = true then (if bt202.2.1 = 3 then (if bt202.2.2 = 0 then ((fact_Open.f k t177 bt202.1).bind fun t231 => ((argosyref13_SameKeys.f k t231 (([(⟨1, true, 0⟩ : S40)] : List (S40)))).bind fun t237 => (if t237 = true then ((argosyref13_Same.f k bt213.1 (([(⟨0, 0, 0, false⟩ : S52), (⟨2, 1, 1, false⟩ : S52)] : List (S52)))).bind fun t241 => (if t241 = true then (if bt213.2 = 0 then (some (bt223.2 == 14)) else (some false)) else (some false))) else (some false)))) else (some false)) else (some false)) else (some false)))))))))))
theorem argosylaw13_lives.mono : ∀ k, LeO (argosylaw13_lives.f k ) (argosylaw13_lives.f (k + 1) ) := by
 intro  k
 unfold argosylaw13_lives.f
 repeat' first
   | (with_reducible exact argosyref13_Same.mono _ _ _)
   | (with_reducible exact argosyref13_SameKeys.mono _ _ _)
   | (with_reducible exact fact_Open.mono _ _ _)
   | (with_reducible exact LeO.refl _)
   | (with_reducible exact LeO.none _)
   | (with_reducible refine LeO.ite ?_ ?_)
   | (with_reducible refine LeO.bind ?_ (fun _ => ?_))
   | exact argosyref13_Same.mono _ _ _
   | exact argosyref13_SameKeys.mono _ _ _
   | exact fact_Open.mono _ _ _
   | exact LeO.none _
   | refine LeO.ite ?_ ?_
   | refine LeO.bind ?_ (fun _ => ?_)
def argosylaw13_lives.T2 : Bool × List (List Nat × List Nat) := (true, [([], []), ([], []), ([1], []), ([2], []), ([1, 2, 3], [1, 2, 3]), ([0, 4, 3], [0, 4]), ([5], [5]), ([6], [6]), ([6], [6]), ([6], [6]), ([7, 5, 0, 1, 2, 3, 4, 5, 6, 7], [7]), ([8, 10, 0, 1, 2, 3, 4, 5, 6, 7, 8, 10], [8]), ([9, 11, 0, 1, 2, 3, 4, 5, 6, 7, 8, 9, 10, 11], [9])])
def argosylaw13_lives.B2 : List Nat := [0, 0, 2, 6, 14, 31, 63, 127, 127, 127, 255, 1535, 4095]
theorem argosylaw13_lives.tab2 : rtab .any (opsOf Try.f6 2) = argosylaw13_lives.T2 := by kernel_rfl
theorem argosylaw13_lives.bits2 : waitsOk argosylaw13_lives.T2.2 argosylaw13_lives.B2 = true := by kernel_rfl
def argosylaw13_lives.T3 : Bool × List (List Nat × List Nat) := (true, [([], []), ([], []), ([], []), ([0, 1, 2, 2], [0, 1, 2]), ([3], [3]), ([4], [4]), ([4], [4]), ([5, 3, 0, 1, 2, 3, 4, 5], [5]), ([6, 7, 0, 1, 2, 3, 4, 5, 6, 7], [6])])
def argosylaw13_lives.B3 : List Nat := [0, 0, 0, 7, 15, 31, 31, 63, 255]
theorem argosylaw13_lives.tab3 : rtab .any (opsOf Try.f6 3) = argosylaw13_lives.T3 := by kernel_rfl
theorem argosylaw13_lives.bits3 : waitsOk argosylaw13_lives.T3.2 argosylaw13_lives.B3 = true := by kernel_rfl
def argosylaw13_lives.T4 : Bool × List (List Nat × List Nat) := (true, [([], []), ([], []), ([], []), ([0, 1, 2, 2], [0, 1, 2]), ([3], [3]), ([4], [4]), ([4], [4]), ([5, 3, 0, 1, 2, 3, 4, 5], [5]), ([6, 7, 0, 1, 2, 3, 4, 5, 6, 7], [6])])
def argosylaw13_lives.B4 : List Nat := [0, 0, 0, 7, 15, 31, 31, 63, 255]
theorem argosylaw13_lives.tab4 : rtab .any (opsOf Try.f6 4) = argosylaw13_lives.T4 := by kernel_rfl
theorem argosylaw13_lives.bits4 : waitsOk argosylaw13_lives.T4.2 argosylaw13_lives.B4 = true := by kernel_rfl
set_option maxHeartbeats 8000000 in
set_option maxRecDepth 100000 in
theorem argosylaw13_lives.calls_ (k : Nat)  (r : Bool) (w : World) (hr0 : r = true) (h : argosylaw13_lives.f k  = some r) :
  Calls Try.prog 6 #[] w fun e w' => e = .returned (.bool r) ∧ Below w.heap.size w w' := by
 have HR0 := Aside0.mk hr0
 clear hr0
 have hu24 := Try.underlying24
 have hu52 := Try.underlying52
 have hu40 := Try.underlying40
 have HB := Aside0.mk (Below.refl w.heap.size w)
 have H : ((argosylaw13_one.f).bind fun t177 => ((argosylaw13_ev.f 1 0).bind fun bt181 => ((argosylaw13_ev.f 2 0).bind fun bt187 => ((argosylaw13_ev.f 4 0).bind fun bt193 => ((fact_All.f t177 (([(⟨bt181.1, bt181.2.1, bt181.2.2.1, bt181.2.2.2⟩ : S29), (⟨bt187.1, bt187.2.1, bt187.2.2.1, bt187.2.2.2⟩ : S29), (⟨bt193.1, bt193.2.1, bt193.2.2.1, bt193.2.2.2⟩ : S29)] : List (S29)))).bind fun bt202 => ((argosylaw13_ev.f 6 0).bind fun bt207 => ((fact_Apply.f t177 bt202.1 bt207.1 bt207.2.1 bt207.2.2.1 bt207.2.2.2).bind fun bt213 => ((argosylaw13_ev.f 4 0).bind fun bt217 => ((fact_Apply.f t177 bt213.1 bt217.1 bt217.2.1 bt217.2.2.1 bt217.2.2.2).bind fun bt223 => ((argosyref13_Same.f k bt202.1 (([(⟨0, 0, 0, false⟩ : S52), (⟨2, 1, 0, false⟩ : S52)] : List (S52)))).bind fun t230 => (if t230 = true then (if bt202.2.1 = 3 then (if bt202.2.2 = 0 then ((fact_Open.f k t177 bt202.1).bind fun t231 => ((argosyref13_SameKeys.f k t231 (([(⟨1, true, 0⟩ : S40)] : List (S40)))).bind fun t237 => (if t237 = true then ((argosyref13_Same.f k bt213.1 (([(⟨0, 0, 0, false⟩ : S52), (⟨2, 1, 1, false⟩ : S52)] : List (S52)))).bind fun t241 => (if t241 = true then (if bt213.2 = 0 then (some (bt223.2 == 14)) else (some false)) else (some false))) else (some false)))) else (some false)) else (some false)) else (some false)))))))))))) = some r := h
 clear h
 replace H := Option.bind_eq_some_iff.mp H
 obtain ⟨t177, A10, H⟩ := H
 replace H : ((argosylaw13_ev.f 1 0).bind fun bt181 => ((argosylaw13_ev.f 2 0).bind fun bt187 => ((argosylaw13_ev.f 4 0).bind fun bt193 => ((fact_All.f t177 (([(⟨bt181.1, bt181.2.1, bt181.2.2.1, bt181.2.2.2⟩ : S29), (⟨bt187.1, bt187.2.1, bt187.2.2.1, bt187.2.2.2⟩ : S29), (⟨bt193.1, bt193.2.1, bt193.2.2.1, bt193.2.2.2⟩ : S29)] : List (S29)))).bind fun bt202 => ((argosylaw13_ev.f 6 0).bind fun bt207 => ((fact_Apply.f t177 bt202.1 bt207.1 bt207.2.1 bt207.2.2.1 bt207.2.2.2).bind fun bt213 => ((argosylaw13_ev.f 4 0).bind fun bt217 => ((fact_Apply.f t177 bt213.1 bt217.1 bt217.2.1 bt217.2.2.1 bt217.2.2.2).bind fun bt223 => ((argosyref13_Same.f k bt202.1 (([(⟨0, 0, 0, false⟩ : S52), (⟨2, 1, 0, false⟩ : S52)] : List (S52)))).bind fun t230 => (if t230 = true then (if bt202.2.1 = 3 then (if bt202.2.2 = 0 then ((fact_Open.f k t177 bt202.1).bind fun t231 => ((argosyref13_SameKeys.f k t231 (([(⟨1, true, 0⟩ : S40)] : List (S40)))).bind fun t237 => (if t237 = true then ((argosyref13_Same.f k bt213.1 (([(⟨0, 0, 0, false⟩ : S52), (⟨2, 1, 1, false⟩ : S52)] : List (S52)))).bind fun t241 => (if t241 = true then (if bt213.2 = 0 then (some (bt223.2 == 14)) else (some false)) else (some false))) else (some false)))) else (some false)) else (some false)) else (some false))))))))))) = some r := H
 have A1 := Aside0.mk A10
 clear A10
 replace H := Option.bind_eq_some_iff.mp H
 obtain ⟨⟨t181, t182, t183, t184⟩, A20, H⟩ := H
 replace H : ((argosylaw13_ev.f 2 0).bind fun bt187 => ((argosylaw13_ev.f 4 0).bind fun bt193 => ((fact_All.f t177 (([(⟨t181, t182, t183, t184⟩ : S29), (⟨bt187.1, bt187.2.1, bt187.2.2.1, bt187.2.2.2⟩ : S29), (⟨bt193.1, bt193.2.1, bt193.2.2.1, bt193.2.2.2⟩ : S29)] : List (S29)))).bind fun bt202 => ((argosylaw13_ev.f 6 0).bind fun bt207 => ((fact_Apply.f t177 bt202.1 bt207.1 bt207.2.1 bt207.2.2.1 bt207.2.2.2).bind fun bt213 => ((argosylaw13_ev.f 4 0).bind fun bt217 => ((fact_Apply.f t177 bt213.1 bt217.1 bt217.2.1 bt217.2.2.1 bt217.2.2.2).bind fun bt223 => ((argosyref13_Same.f k bt202.1 (([(⟨0, 0, 0, false⟩ : S52), (⟨2, 1, 0, false⟩ : S52)] : List (S52)))).bind fun t230 => (if t230 = true then (if bt202.2.1 = 3 then (if bt202.2.2 = 0 then ((fact_Open.f k t177 bt202.1).bind fun t231 => ((argosyref13_SameKeys.f k t231 (([(⟨1, true, 0⟩ : S40)] : List (S40)))).bind fun t237 => (if t237 = true then ((argosyref13_Same.f k bt213.1 (([(⟨0, 0, 0, false⟩ : S52), (⟨2, 1, 1, false⟩ : S52)] : List (S52)))).bind fun t241 => (if t241 = true then (if bt213.2 = 0 then (some (bt223.2 == 14)) else (some false)) else (some false))) else (some false)))) else (some false)) else (some false)) else (some false)))))))))) = some r := H
 have A2 := Aside0.mk A20
 clear A20
 replace H := Option.bind_eq_some_iff.mp H
 obtain ⟨⟨t187, t188, t189, t190⟩, A30, H⟩ := H
 replace H : ((argosylaw13_ev.f 4 0).bind fun bt193 => ((fact_All.f t177 (([(⟨t181, t182, t183, t184⟩ : S29), (⟨t187, t188, t189, t190⟩ : S29), (⟨bt193.1, bt193.2.1, bt193.2.2.1, bt193.2.2.2⟩ : S29)] : List (S29)))).bind fun bt202 => ((argosylaw13_ev.f 6 0).bind fun bt207 => ((fact_Apply.f t177 bt202.1 bt207.1 bt207.2.1 bt207.2.2.1 bt207.2.2.2).bind fun bt213 => ((argosylaw13_ev.f 4 0).bind fun bt217 => ((fact_Apply.f t177 bt213.1 bt217.1 bt217.2.1 bt217.2.2.1 bt217.2.2.2).bind fun bt223 => ((argosyref13_Same.f k bt202.1 (([(⟨0, 0, 0, false⟩ : S52), (⟨2, 1, 0, false⟩ : S52)] : List (S52)))).bind fun t230 => (if t230 = true then (if bt202.2.1 = 3 then (if bt202.2.2 = 0 then ((fact_Open.f k t177 bt202.1).bind fun t231 => ((argosyref13_SameKeys.f k t231 (([(⟨1, true, 0⟩ : S40)] : List (S40)))).bind fun t237 => (if t237 = true then ((argosyref13_Same.f k bt213.1 (([(⟨0, 0, 0, false⟩ : S52), (⟨2, 1, 1, false⟩ : S52)] : List (S52)))).bind fun t241 => (if t241 = true then (if bt213.2 = 0 then (some (bt223.2 == 14)) else (some false)) else (some false))) else (some false)))) else (some false)) else (some false)) else (some false))))))))) = some r := H
 have A3 := Aside0.mk A30
 clear A30
 replace H := Option.bind_eq_some_iff.mp H
 obtain ⟨⟨t193, t194, t195, t196⟩, A40, H⟩ := H
 replace H : ((fact_All.f t177 (([(⟨t181, t182, t183, t184⟩ : S29), (⟨t187, t188, t189, t190⟩ : S29), (⟨t193, t194, t195, t196⟩ : S29)] : List (S29)))).bind fun bt202 => ((argosylaw13_ev.f 6 0).bind fun bt207 => ((fact_Apply.f t177 bt202.1 bt207.1 bt207.2.1 bt207.2.2.1 bt207.2.2.2).bind fun bt213 => ((argosylaw13_ev.f 4 0).bind fun bt217 => ((fact_Apply.f t177 bt213.1 bt217.1 bt217.2.1 bt217.2.2.1 bt217.2.2.2).bind fun bt223 => ((argosyref13_Same.f k bt202.1 (([(⟨0, 0, 0, false⟩ : S52), (⟨2, 1, 0, false⟩ : S52)] : List (S52)))).bind fun t230 => (if t230 = true then (if bt202.2.1 = 3 then (if bt202.2.2 = 0 then ((fact_Open.f k t177 bt202.1).bind fun t231 => ((argosyref13_SameKeys.f k t231 (([(⟨1, true, 0⟩ : S40)] : List (S40)))).bind fun t237 => (if t237 = true then ((argosyref13_Same.f k bt213.1 (([(⟨0, 0, 0, false⟩ : S52), (⟨2, 1, 1, false⟩ : S52)] : List (S52)))).bind fun t241 => (if t241 = true then (if bt213.2 = 0 then (some (bt223.2 == 14)) else (some false)) else (some false))) else (some false)))) else (some false)) else (some false)) else (some false)))))))) = some r := H
 have A4 := Aside0.mk A40
 clear A40
 obtain ⟨y199, hy199⟩ : ∃ y_ : List (S29), y_ = (([(⟨t181, t182, t183, t184⟩ : S29), (⟨t187, t188, t189, t190⟩ : S29), (⟨t193, t194, t195, t196⟩ : S29)] : List (S29))) := ⟨_, rfl⟩
 replace H : ((fact_All.f t177 y199).bind fun bt202 => ((argosylaw13_ev.f 6 0).bind fun bt207 => ((fact_Apply.f t177 bt202.1 bt207.1 bt207.2.1 bt207.2.2.1 bt207.2.2.2).bind fun bt213 => ((argosylaw13_ev.f 4 0).bind fun bt217 => ((fact_Apply.f t177 bt213.1 bt217.1 bt217.2.1 bt217.2.2.1 bt217.2.2.2).bind fun bt223 => ((argosyref13_Same.f k bt202.1 (([(⟨0, 0, 0, false⟩ : S52), (⟨2, 1, 0, false⟩ : S52)] : List (S52)))).bind fun t230 => (if t230 = true then (if bt202.2.1 = 3 then (if bt202.2.2 = 0 then ((fact_Open.f k t177 bt202.1).bind fun t231 => ((argosyref13_SameKeys.f k t231 (([(⟨1, true, 0⟩ : S40)] : List (S40)))).bind fun t237 => (if t237 = true then ((argosyref13_Same.f k bt213.1 (([(⟨0, 0, 0, false⟩ : S52), (⟨2, 1, 1, false⟩ : S52)] : List (S52)))).bind fun t241 => (if t241 = true then (if bt213.2 = 0 then (some (bt223.2 == 14)) else (some false)) else (some false))) else (some false)))) else (some false)) else (some false)) else (some false)))))))) = some r := by first | (rw [hy199]; with_reducible exact H) | (have H2_ := (Option.bind_some _ _).symm.trans H; rw [hy199]; with_reducible exact H2_) | (have H2_ := (Option.bind_some _ _).symm.trans H; with_reducible exact H2_) | with_reducible exact H | (rw [hy199]; exact H) | exact H
 have Ny199 := Aside0.mk hy199
 clear hy199
 replace H := Option.bind_eq_some_iff.mp H
 obtain ⟨⟨t202, t205, t206⟩, A50, H⟩ := H
 replace H : ((argosylaw13_ev.f 6 0).bind fun bt207 => ((fact_Apply.f t177 t202 bt207.1 bt207.2.1 bt207.2.2.1 bt207.2.2.2).bind fun bt213 => ((argosylaw13_ev.f 4 0).bind fun bt217 => ((fact_Apply.f t177 bt213.1 bt217.1 bt217.2.1 bt217.2.2.1 bt217.2.2.2).bind fun bt223 => ((argosyref13_Same.f k t202 (([(⟨0, 0, 0, false⟩ : S52), (⟨2, 1, 0, false⟩ : S52)] : List (S52)))).bind fun t230 => (if t230 = true then (if t205 = 3 then (if t206 = 0 then ((fact_Open.f k t177 t202).bind fun t231 => ((argosyref13_SameKeys.f k t231 (([(⟨1, true, 0⟩ : S40)] : List (S40)))).bind fun t237 => (if t237 = true then ((argosyref13_Same.f k bt213.1 (([(⟨0, 0, 0, false⟩ : S52), (⟨2, 1, 1, false⟩ : S52)] : List (S52)))).bind fun t241 => (if t241 = true then (if bt213.2 = 0 then (some (bt223.2 == 14)) else (some false)) else (some false))) else (some false)))) else (some false)) else (some false)) else (some false))))))) = some r := H
 have A5 := Aside0.mk A50
 clear A50
 replace H := Option.bind_eq_some_iff.mp H
 obtain ⟨⟨t207, t208, t209, t210⟩, A60, H⟩ := H
 replace H : ((fact_Apply.f t177 t202 t207 t208 t209 t210).bind fun bt213 => ((argosylaw13_ev.f 4 0).bind fun bt217 => ((fact_Apply.f t177 bt213.1 bt217.1 bt217.2.1 bt217.2.2.1 bt217.2.2.2).bind fun bt223 => ((argosyref13_Same.f k t202 (([(⟨0, 0, 0, false⟩ : S52), (⟨2, 1, 0, false⟩ : S52)] : List (S52)))).bind fun t230 => (if t230 = true then (if t205 = 3 then (if t206 = 0 then ((fact_Open.f k t177 t202).bind fun t231 => ((argosyref13_SameKeys.f k t231 (([(⟨1, true, 0⟩ : S40)] : List (S40)))).bind fun t237 => (if t237 = true then ((argosyref13_Same.f k bt213.1 (([(⟨0, 0, 0, false⟩ : S52), (⟨2, 1, 1, false⟩ : S52)] : List (S52)))).bind fun t241 => (if t241 = true then (if bt213.2 = 0 then (some (bt223.2 == 14)) else (some false)) else (some false))) else (some false)))) else (some false)) else (some false)) else (some false)))))) = some r := H
 have A6 := Aside0.mk A60
 clear A60
 replace H := Option.bind_eq_some_iff.mp H
 obtain ⟨⟨t213, t216⟩, A70, H⟩ := H
 replace H : ((argosylaw13_ev.f 4 0).bind fun bt217 => ((fact_Apply.f t177 t213 bt217.1 bt217.2.1 bt217.2.2.1 bt217.2.2.2).bind fun bt223 => ((argosyref13_Same.f k t202 (([(⟨0, 0, 0, false⟩ : S52), (⟨2, 1, 0, false⟩ : S52)] : List (S52)))).bind fun t230 => (if t230 = true then (if t205 = 3 then (if t206 = 0 then ((fact_Open.f k t177 t202).bind fun t231 => ((argosyref13_SameKeys.f k t231 (([(⟨1, true, 0⟩ : S40)] : List (S40)))).bind fun t237 => (if t237 = true then ((argosyref13_Same.f k t213 (([(⟨0, 0, 0, false⟩ : S52), (⟨2, 1, 1, false⟩ : S52)] : List (S52)))).bind fun t241 => (if t241 = true then (if t216 = 0 then (some (bt223.2 == 14)) else (some false)) else (some false))) else (some false)))) else (some false)) else (some false)) else (some false))))) = some r := H
 have A7 := Aside0.mk A70
 clear A70
 replace H := Option.bind_eq_some_iff.mp H
 obtain ⟨⟨t217, t218, t219, t220⟩, A80, H⟩ := H
 replace H : ((fact_Apply.f t177 t213 t217 t218 t219 t220).bind fun bt223 => ((argosyref13_Same.f k t202 (([(⟨0, 0, 0, false⟩ : S52), (⟨2, 1, 0, false⟩ : S52)] : List (S52)))).bind fun t230 => (if t230 = true then (if t205 = 3 then (if t206 = 0 then ((fact_Open.f k t177 t202).bind fun t231 => ((argosyref13_SameKeys.f k t231 (([(⟨1, true, 0⟩ : S40)] : List (S40)))).bind fun t237 => (if t237 = true then ((argosyref13_Same.f k t213 (([(⟨0, 0, 0, false⟩ : S52), (⟨2, 1, 1, false⟩ : S52)] : List (S52)))).bind fun t241 => (if t241 = true then (if t216 = 0 then (some (bt223.2 == 14)) else (some false)) else (some false))) else (some false)))) else (some false)) else (some false)) else (some false)))) = some r := H
 have A8 := Aside0.mk A80
 clear A80
 replace H := Option.bind_eq_some_iff.mp H
 obtain ⟨⟨t223, t226⟩, A90, H⟩ := H
 replace H : ((argosyref13_Same.f k t202 (([(⟨0, 0, 0, false⟩ : S52), (⟨2, 1, 0, false⟩ : S52)] : List (S52)))).bind fun t230 => (if t230 = true then (if t205 = 3 then (if t206 = 0 then ((fact_Open.f k t177 t202).bind fun t231 => ((argosyref13_SameKeys.f k t231 (([(⟨1, true, 0⟩ : S40)] : List (S40)))).bind fun t237 => (if t237 = true then ((argosyref13_Same.f k t213 (([(⟨0, 0, 0, false⟩ : S52), (⟨2, 1, 1, false⟩ : S52)] : List (S52)))).bind fun t241 => (if t241 = true then (if t216 = 0 then (some (t226 == 14)) else (some false)) else (some false))) else (some false)))) else (some false)) else (some false)) else (some false))) = some r := H
 have A9 := Aside0.mk A90
 clear A90
 obtain ⟨y227, hy227⟩ : ∃ y_ : List (S52), y_ = (([(⟨0, 0, 0, false⟩ : S52), (⟨2, 1, 0, false⟩ : S52)] : List (S52))) := ⟨_, rfl⟩
 replace H : ((argosyref13_Same.f k t202 y227).bind fun t230 => (if t230 = true then (if t205 = 3 then (if t206 = 0 then ((fact_Open.f k t177 t202).bind fun t231 => ((argosyref13_SameKeys.f k t231 (([(⟨1, true, 0⟩ : S40)] : List (S40)))).bind fun t237 => (if t237 = true then ((argosyref13_Same.f k t213 (([(⟨0, 0, 0, false⟩ : S52), (⟨2, 1, 1, false⟩ : S52)] : List (S52)))).bind fun t241 => (if t241 = true then (if t216 = 0 then (some (t226 == 14)) else (some false)) else (some false))) else (some false)))) else (some false)) else (some false)) else (some false))) = some r := by first | (rw [hy227]; with_reducible exact H) | (have H2_ := (Option.bind_some _ _).symm.trans H; rw [hy227]; with_reducible exact H2_) | (have H2_ := (Option.bind_some _ _).symm.trans H; with_reducible exact H2_) | with_reducible exact H | (rw [hy227]; exact H) | exact H
 have Ny227 := Aside0.mk hy227
 clear hy227
 replace H := Option.bind_eq_some_iff.mp H
 obtain ⟨t230, A100, H⟩ := H
 replace H : (if t230 = true then (if t205 = 3 then (if t206 = 0 then ((fact_Open.f k t177 t202).bind fun t231 => ((argosyref13_SameKeys.f k t231 (([(⟨1, true, 0⟩ : S40)] : List (S40)))).bind fun t237 => (if t237 = true then ((argosyref13_Same.f k t213 (([(⟨0, 0, 0, false⟩ : S52), (⟨2, 1, 1, false⟩ : S52)] : List (S52)))).bind fun t241 => (if t241 = true then (if t216 = 0 then (some (t226 == 14)) else (some false)) else (some false))) else (some false)))) else (some false)) else (some false)) else (some false)) = some r := H
 have A10 := Aside0.mk A100
 clear A100
 by_cases c11 : t230 = true
 ·subst c11
  have H1 : (if t205 = 3 then (if t206 = 0 then ((fact_Open.f k t177 t202).bind fun t231 => ((argosyref13_SameKeys.f k t231 (([(⟨1, true, 0⟩ : S40)] : List (S40)))).bind fun t237 => (if t237 = true then ((argosyref13_Same.f k t213 (([(⟨0, 0, 0, false⟩ : S52), (⟨2, 1, 1, false⟩ : S52)] : List (S52)))).bind fun t241 => (if t241 = true then (if t216 = 0 then (some (t226 == 14)) else (some false)) else (some false))) else (some false)))) else (some false)) else (some false)) = some r := by rw [if_pos rfl] at H; exact H
  clear H
  have H := H1
  clear H1
  by_cases c12 : t205 = 3
  ·rw [if_pos c12] at H
   have c12b0 : (t205 == 3) = true := beq_iff_eq.mpr c12
   have c12b1 : (t205 != 3) = false := bne_eq_false_iff_eq.mpr c12
   clear c12
   by_cases c13 : t206 = 0
   ·rw [if_pos c13] at H
    have c13b0 : (t206 == 0) = true := beq_iff_eq.mpr c13
    have c13b1 : (t206 != 0) = false := bne_eq_false_iff_eq.mpr c13
    clear c13
    replace H := Option.bind_eq_some_iff.mp H
    obtain ⟨t231, A140, H⟩ := H
    replace H : ((argosyref13_SameKeys.f k t231 (([(⟨1, true, 0⟩ : S40)] : List (S40)))).bind fun t237 => (if t237 = true then ((argosyref13_Same.f k t213 (([(⟨0, 0, 0, false⟩ : S52), (⟨2, 1, 1, false⟩ : S52)] : List (S52)))).bind fun t241 => (if t241 = true then (if t216 = 0 then (some (t226 == 14)) else (some false)) else (some false))) else (some false))) = some r := H
    have A14 := Aside0.mk A140
    clear A140
    obtain ⟨y234, hy234⟩ : ∃ y_ : List (S40), y_ = (([(⟨1, true, 0⟩ : S40)] : List (S40))) := ⟨_, rfl⟩
    replace H : ((argosyref13_SameKeys.f k t231 y234).bind fun t237 => (if t237 = true then ((argosyref13_Same.f k t213 (([(⟨0, 0, 0, false⟩ : S52), (⟨2, 1, 1, false⟩ : S52)] : List (S52)))).bind fun t241 => (if t241 = true then (if t216 = 0 then (some (t226 == 14)) else (some false)) else (some false))) else (some false))) = some r := by first | (rw [hy234]; with_reducible exact H) | (have H2_ := (Option.bind_some _ _).symm.trans H; rw [hy234]; with_reducible exact H2_) | (have H2_ := (Option.bind_some _ _).symm.trans H; with_reducible exact H2_) | with_reducible exact H | (rw [hy234]; exact H) | exact H
    have Ny234 := Aside0.mk hy234
    clear hy234
    replace H := Option.bind_eq_some_iff.mp H
    obtain ⟨t237, A150, H⟩ := H
    replace H : (if t237 = true then ((argosyref13_Same.f k t213 (([(⟨0, 0, 0, false⟩ : S52), (⟨2, 1, 1, false⟩ : S52)] : List (S52)))).bind fun t241 => (if t241 = true then (if t216 = 0 then (some (t226 == 14)) else (some false)) else (some false))) else (some false)) = some r := H
    have A15 := Aside0.mk A150
    clear A150
    by_cases c16 : t237 = true
    ·subst c16
     have H1 : ((argosyref13_Same.f k t213 (([(⟨0, 0, 0, false⟩ : S52), (⟨2, 1, 1, false⟩ : S52)] : List (S52)))).bind fun t241 => (if t241 = true then (if t216 = 0 then (some (t226 == 14)) else (some false)) else (some false))) = some r := by rw [if_pos rfl] at H; exact H
     clear H
     have H := H1
     clear H1
     obtain ⟨y238, hy238⟩ : ∃ y_ : List (S52), y_ = (([(⟨0, 0, 0, false⟩ : S52), (⟨2, 1, 1, false⟩ : S52)] : List (S52))) := ⟨_, rfl⟩
     replace H : ((argosyref13_Same.f k t213 y238).bind fun t241 => (if t241 = true then (if t216 = 0 then (some (t226 == 14)) else (some false)) else (some false))) = some r := by first | (rw [hy238]; with_reducible exact H) | (have H2_ := (Option.bind_some _ _).symm.trans H; rw [hy238]; with_reducible exact H2_) | (have H2_ := (Option.bind_some _ _).symm.trans H; with_reducible exact H2_) | with_reducible exact H | (rw [hy238]; exact H) | exact H
     have Ny238 := Aside0.mk hy238
     clear hy238
     replace H := Option.bind_eq_some_iff.mp H
     obtain ⟨t241, A170, H⟩ := H
     replace H : (if t241 = true then (if t216 = 0 then (some (t226 == 14)) else (some false)) else (some false)) = some r := H
     have A17 := Aside0.mk A170
     clear A170
     by_cases c18 : t241 = true
     ·subst c18
      have H1 : (if t216 = 0 then (some (t226 == 14)) else (some false)) = some r := by rw [if_pos rfl] at H; exact H
      clear H
      have H := H1
      clear H1
      by_cases c19 : t216 = 0
      ·rw [if_pos c19] at H
       have c19b0 : (t216 == 0) = true := beq_iff_eq.mpr c19
       have c19b1 : (t216 != 0) = false := bne_eq_false_iff_eq.mpr c19
       clear c19
       obtain rfl := Option.some.inj H
       go_enter Try.func6, Try.ntmps6
       try go_wp2_with (first | ((with_reducible refine gate_callee (f := 10) rfl ?_); refine goesL_ (some 9) rfl rfl Try.func10 (by kernel_rfl) rfl #[] rfl (by (try simp only [List.map_toArray, List.map_cons, List.map_nil]); first | done | rfl | (simp only [List.length_drop, List.length_take]; rfl)) ?_; (with_reducible refine (argosylaw13_one.calls  t177 _ A1.out).mono ?_); rintro e w20 ⟨v178, rfl, ho0, hb⟩; refine ⟨_, rfl, ?_⟩; have n0_ := Aside0.mk (Kd.N_lower (Kd.N_mono (ok' := fun k_ => True) ho0 (fun k_ hk_ => trivial)) (below_size (by repeat (first | (with_reducible first | exact HB.out | apply below_alloc | apply pw_below_drewN | apply below_drew1) | exact HB.out)))); have n1_ := Aside0.mk (below_step (by repeat (first | (with_reducible first | exact HB.out | apply below_alloc | apply pw_below_drewN | apply below_drew1) | exact HB.out)) hb); clear HB; have HO179 := n0_; have HB := n1_; clear n0_ n1_; (try clear hb); (try clear hb2); (try clear hk); (try clear hi); (try clear ho0)) | ((with_reducible refine gate_dst (N := 1) rfl ?_); (try (refine gate_guard (by rfl) ?_; dsimp only)); refine box_event ?hg (N := 1) ?hd (cs := #[.slice none 0 0]) (t := 24) ?hr ?_; (case hd => rfl); (case hg => rfl); (case hr => first | (go_simp; done) | (go_simp; rfl)); intro gb180 hg w21 hbox hb; have n0_ := Aside0.mk (Kd.N_below (Kd.N_elderB (by (with_reducible repeat (first | apply Kd.N_alloc | apply Kd.N_drewN | apply Kd.N_drew)); exact HO179.out) gb180 (Nat.le_of_eq hg.symm)) hb); have n1_ := Aside0.mk (below_step (by repeat (first | (with_reducible first | exact HB.out | apply below_alloc | apply pw_below_drewN | apply below_drew1) | exact HB.out)) hb); have n2_ := Aside0.mk (hbox); have n3_ := Aside0.mk ((by rw [hg]; exact (below_size (by repeat (first | (with_reducible first | exact HB.out | apply below_alloc | apply pw_below_drewN | apply below_drew1) | exact HB.out))) : w.heap.size ≤ gb180)); have n4_ := Aside0.mk ((by rw [hg]; exact (below_size (by repeat (first | (with_reducible first | exact HB.out | apply below_alloc | apply pw_below_drewN | apply below_drew1) | exact HB.out))) : w.heap.size ≤ gb180)); clear HO179; clear HB; have HO179 := n0_; have HB := n1_; have BK180 := n2_; have GW180 := n3_; have GE180 := n4_; clear n0_ n1_ n2_ n3_ n4_; clear hb hbox hg; obtain ⟨Ao22, co22, eo22⟩ := Kd.N_slice HO179.out; subst eo22; have hcz23_0 : w21.cell? ⟨gb180, 0, none⟩ = some (.slice none 0 0) := (blk_cell BK180.out 0).trans rfl; have hfz23_0 := blk_frozen BK180.out 0))
       have n0_ : Aside0 (Kd.N k44 44 (w21.setCell ⟨gb180, 0, none⟩ (.slice Ao22 t177.length co22)) w.heap.size (fun k_ => k_ ≠ gb180) (.slice Ao22 t177.length co22) t177) := ⟨by (with_reducible repeat (first | apply Kd.N_alloc | apply Kd.N_drewN | apply Kd.N_drew)); exact Kd.N_mono (Kd.N_far (p := ⟨gb180, 0, none⟩) (Kd.N_mono HO179.out (fun k_ hk => (⟨hk, hk.2⟩ : _ ∧ k_ ≠ gb180))) (fun _ hk => hk.2) (.slice Ao22 t177.length co22)) (fun _ hk => hk.1.2)⟩
       have n1_ : Aside0 ((w21.setCell ⟨gb180, 0, none⟩ (.slice Ao22 t177.length co22)).heap[gb180]? = some (.cells #[.slice Ao22 t177.length co22] 24 (0, 0))) := ⟨by (with_reducible repeat (first | refine blk_drewN ?_ _ | refine blk_drew ?_ | refine blk_alloc ?_ _)); refine blk_put (cs := #[.slice none 0 0]) ?_ 0 _ rfl; (with_reducible repeat (first | refine blk_drewN ?_ _ | refine blk_drew ?_ | refine blk_alloc ?_ _)); exact BK180.out⟩
       have n2_ : Aside0 (Below w.heap.size w (w21.setCell ⟨gb180, 0, none⟩ (.slice Ao22 t177.length co22))) := ⟨by repeat (first | (with_reducible first | exact HB.out | apply below_alloc | apply pw_below_drewN | apply below_drew1 | refine below_set ?_ GE180.out) | exact HB.out)⟩
       (try clear HO179)
       (try clear BK180)
       (try clear HB)
       generalize (w21.setCell ⟨gb180, 0, none⟩ (.slice Ao22 t177.length co22)) = w24 at n0_ n1_ n2_ ⊢
       have HO179 := n0_
       have BK180 := n1_
       have HB := n2_
       clear n0_ n1_ n2_
       have n0_ := Aside0.mk (Kd.N_drew HO179.out)
       have n1_ := Aside0.mk (blk_drew BK180.out)
       have n2_ := Aside0.mk (below_drew1 HB.out)
       clear HO179
       clear BK180
       clear HB
       have HO179 := n0_
       have BK180 := n1_
       have HB := n2_
       clear n0_ n1_ n2_
       refine start_ (n := 13) (S := fun w' => w'.cell? ⟨gb180, 0, none⟩ = some (.slice Ao22 t177.length co22)) (ds := []) #[false, false, false, false, false, false, false, false, false, false, false, false, false] (by kernel_rfl) rfl rfl ((blk_cell BK180.out 0).trans rfl) (fun hHeld => ?_); refine with_tabW argosylaw13_lives.tab2 argosylaw13_lives.bits2 (fun HT_ HW_ => ?_)
       generalize w24.drew = w25 at HO179 BK180 HB hHeld ⊢
       refine take_ (i := 0) (N := some 11) (v := ?_) (a' := ?_) #[true, false, false, false, false, false, false, false, false, false, false, false, false] rfl rfl (take_ofW HT_.out HW_.out (by kernel_rfl)) (fun _ _ _ h => h) (Or.inl ⟨by rfl, ?_⟩) hHeld ?_ ?_
       rotate_left
       ·intro w' s0
        go_simp
        with_reducible rfl
       rotate_left
       ·simp only [Act.put, List.setIfInBounds_toArray, List.set_cons_zero, List.set_cons_succ, i64_w, i32_w]
        rfl
       refine one_ (i := 1) (N := some 12) #[true, true, false, false, false, false, false, false, false, false, false, false, false] rfl rfl (one_of HT_.out (by kernel_rfl)) (by decide) (fun K hK => ?_)
       refine goes_ Try.func12 (by kernel_rfl) rfl #[.int .i64 1, .int .i64 0] (by rfl) rfl rfl (by (try simp only [List.map_toArray, List.map_cons, List.map_nil]); first | done | rfl | (simp only [List.length_drop, List.length_take]; rfl)) ?_
       with_reducible refine (argosylaw13_ev.calls 1 0 t181 t182 t183 t184 _ A2.out).mono ?_
       rintro e w26 ⟨v185, rfl, ho0, hb⟩
       refine ⟨_, rfl, ?_⟩
       have n0_ := Aside0.mk (Kd.N_elder' (by (with_reducible repeat (first | apply Kd.N_alloc | apply Kd.N_drewN | apply Kd.N_drew)); exact HO179.out) (Kd.R_base ho0) hb)
       have n1_ := Aside0.mk (Kd.R_lower ho0 (below_size (by repeat (first | (with_reducible first | exact HB.out | apply below_alloc | apply pw_below_drewN | apply below_drew1 | refine below_set ?_ GE180.out) | exact HB.out))))
       have n2_ := Aside0.mk (blk_below (g := gb180) (o := .cells #[.slice Ao22 t177.length co22] 24 (0, 0)) (by (with_reducible repeat (first | refine blk_drewN ?_ _ | refine blk_drew ?_ | refine blk_alloc ?_ _)); exact BK180.out) hb)
       have n3_ := Aside0.mk (below_step (by repeat (first | (with_reducible first | exact HB.out | apply below_alloc | apply pw_below_drewN | apply below_drew1 | refine below_set ?_ GE180.out) | exact HB.out)) hb)
       clear HO179
       clear BK180
       clear HB
       have HO179 := n0_
       have HO186 := n1_
       have BK180 := n2_
       have HB := n3_
       clear n0_ n1_ n2_ n3_
       (try clear hb)
       (try clear hb2)
       (try clear hk)
       (try clear hi)
       (try clear ho0)
       refine hK.out _ _ ((blk_cell BK180.out 0).trans rfl) (fun hHeld => ?_)
       clear hK K
       refine norm_ (a' := ?_) ?_ ?_
       rotate_left
       ·show Act.put _ (some 12) _ = _
        simp only [Act.put, List.setIfInBounds_toArray, List.set_cons_zero, List.set_cons_succ, i64_w, i32_w]
        rfl
       refine one_ (i := 2) (N := some 13) #[true, true, true, false, false, false, false, false, false, false, false, false, false] rfl rfl (one_of HT_.out (by kernel_rfl)) (by decide) (fun K hK => ?_)
       refine goes_ Try.func12 (by kernel_rfl) rfl #[.int .i64 2, .int .i64 0] (by rfl) rfl rfl (by (try simp only [List.map_toArray, List.map_cons, List.map_nil]); first | done | rfl | (simp only [List.length_drop, List.length_take]; rfl)) ?_
       with_reducible refine (argosylaw13_ev.calls 2 0 t187 t188 t189 t190 _ A3.out).mono ?_
       rintro e w27 ⟨v191, rfl, ho0, hb⟩
       refine ⟨_, rfl, ?_⟩
       have n0_ := Aside0.mk (Kd.N_elder' (by (with_reducible repeat (first | apply Kd.N_alloc | apply Kd.N_drewN | apply Kd.N_drew)); exact HO179.out) (Kd.R_base ho0) hb)
       have n1_ := Aside0.mk (Kd.R_elder' (by (with_reducible repeat (first | apply Kd.R_alloc | apply Kd.R_drewN | apply Kd.R_drew)); exact HO186.out) (Kd.R_base ho0) hb)
       have n2_ := Aside0.mk (Kd.R_lower (Kd.R_new' ho0 (Kd.R_lt (by (with_reducible repeat (first | apply Kd.R_alloc | apply Kd.R_drewN | apply Kd.R_drew)); exact HO186.out))) (below_size (by repeat (first | (with_reducible first | exact HB.out | apply below_alloc | apply pw_below_drewN | apply below_drew1 | refine below_set ?_ GE180.out) | exact HB.out))))
       have n3_ := Aside0.mk (blk_below (g := gb180) (o := .cells #[.slice Ao22 t177.length co22] 24 (0, 0)) (by (with_reducible repeat (first | refine blk_drewN ?_ _ | refine blk_drew ?_ | refine blk_alloc ?_ _)); exact BK180.out) hb)
       have n4_ := Aside0.mk (below_step (by repeat (first | (with_reducible first | exact HB.out | apply below_alloc | apply pw_below_drewN | apply below_drew1 | refine below_set ?_ GE180.out) | exact HB.out)) hb)
       clear HO179
       clear HO186
       clear BK180
       clear HB
       have HO179 := n0_
       have HO186 := n1_
       have HO192 := n2_
       have BK180 := n3_
       have HB := n4_
       clear n0_ n1_ n2_ n3_ n4_
       (try clear hb)
       (try clear hb2)
       (try clear hk)
       (try clear hi)
       (try clear ho0)
       refine hK.out _ _ ((blk_cell BK180.out 0).trans rfl) (fun hHeld => ?_)
       clear hK K
       refine norm_ (a' := ?_) ?_ ?_
       rotate_left
       ·show Act.put _ (some 13) _ = _
        simp only [Act.put, List.setIfInBounds_toArray, List.set_cons_zero, List.set_cons_succ, i64_w, i32_w]
        rfl
       refine one_ (i := 3) (N := some 14) #[true, true, true, true, false, false, false, false, false, false, false, false, false] rfl rfl (one_of HT_.out (by kernel_rfl)) (by decide) (fun K hK => ?_)
       refine goes_ Try.func12 (by kernel_rfl) rfl #[.int .i64 4, .int .i64 0] (by rfl) rfl rfl (by (try simp only [List.map_toArray, List.map_cons, List.map_nil]); first | done | rfl | (simp only [List.length_drop, List.length_take]; rfl)) ?_
       with_reducible refine (argosylaw13_ev.calls 4 0 t193 t194 t195 t196 _ A4.out).mono ?_
       rintro e w28 ⟨v197, rfl, ho0, hb⟩
       refine ⟨_, rfl, ?_⟩
       have n0_ := Aside0.mk (Kd.N_elder' (by (with_reducible repeat (first | apply Kd.N_alloc | apply Kd.N_drewN | apply Kd.N_drew)); exact HO179.out) (Kd.R_base ho0) hb)
       have n1_ := Aside0.mk (Kd.R_elder' (by (with_reducible repeat (first | apply Kd.R_alloc | apply Kd.R_drewN | apply Kd.R_drew)); exact HO186.out) (Kd.R_base ho0) hb)
       have n2_ := Aside0.mk (Kd.R_elder' (by (with_reducible repeat (first | apply Kd.R_alloc | apply Kd.R_drewN | apply Kd.R_drew)); exact HO192.out) (Kd.R_base ho0) hb)
       have n3_ := Aside0.mk (Kd.R_lower (Kd.R_new' (Kd.R_new' ho0 (Kd.R_lt (by (with_reducible repeat (first | apply Kd.R_alloc | apply Kd.R_drewN | apply Kd.R_drew)); exact HO186.out))) (Kd.R_lt (by (with_reducible repeat (first | apply Kd.R_alloc | apply Kd.R_drewN | apply Kd.R_drew)); exact HO192.out))) (below_size (by repeat (first | (with_reducible first | exact HB.out | apply below_alloc | apply pw_below_drewN | apply below_drew1 | refine below_set ?_ GE180.out) | exact HB.out))))
       have n4_ := Aside0.mk (blk_below (g := gb180) (o := .cells #[.slice Ao22 t177.length co22] 24 (0, 0)) (by (with_reducible repeat (first | refine blk_drewN ?_ _ | refine blk_drew ?_ | refine blk_alloc ?_ _)); exact BK180.out) hb)
       have n5_ := Aside0.mk (below_step (by repeat (first | (with_reducible first | exact HB.out | apply below_alloc | apply pw_below_drewN | apply below_drew1 | refine below_set ?_ GE180.out) | exact HB.out)) hb)
       clear HO179
       clear HO186
       clear HO192
       clear BK180
       clear HB
       have HO179 := n0_
       have HO186 := n1_
       have HO192 := n2_
       have HO198 := n3_
       have BK180 := n4_
       have HB := n5_
       clear n0_ n1_ n2_ n3_ n4_ n5_
       (try clear hb)
       (try clear hb2)
       (try clear hk)
       (try clear hi)
       (try clear ho0)
       obtain ⟨Ao29, co29, eo29⟩ := Kd.R_slice HO186.out
       (first | subst eo29 | (injection eo29 with f1_ f2_ f3_; have f4_ := f1_.symm; have f5_ := f3_.symm; clear f1_ f2_ f3_; subst f4_; subst f5_))
       obtain ⟨Ao30, co30, eo30⟩ := Kd.R_slice HO192.out
       (first | subst eo30 | (injection eo30 with f1_ f2_ f3_; have f4_ := f1_.symm; have f5_ := f3_.symm; clear f1_ f2_ f3_; subst f4_; subst f5_))
       obtain ⟨Ao31, co31, eo31⟩ := Kd.R_slice HO198.out
       (first | subst eo31 | (injection eo31 with f1_ f2_ f3_; have f4_ := f1_.symm; have f5_ := f3_.symm; clear f1_ f2_ f3_; subst f4_; subst f5_))
       refine hK.out _ _ ((blk_cell BK180.out 0).trans rfl) (fun hHeld => ?_)
       clear hK K
       refine norm_ (a' := ?_) ?_ ?_
       rotate_left
       ·show Act.put _ (some 14) _ = _
        simp only [Act.put, List.setIfInBounds_toArray, List.set_cons_zero, List.set_cons_succ, i64_w, i32_w]
        rfl
       refine one_ (i := 4) (N := some 15) #[true, true, true, true, true, false, false, false, false, false, false, false, false] rfl rfl (one_of HT_.out (by kernel_rfl)) (by decide) (fun K hK => ?_)
       refine Kd.N_lit_step k29 _ 29 ?hg (N' := 15) ?hd (xs := ([(⟨t181, t182, t183, t184⟩ : S29), (⟨t187, t188, t189, t190⟩ : S29), (⟨t193, t194, t195, t196⟩ : S29)] : List (S29))) (inner := [.int .i64 t181, .int .i64 t182, .int .i64 t183, .slice Ao29 t184.length co29, .int .i64 t187, .int .i64 t188, .int .i64 t189, .slice Ao30 t190.length co30, .int .i64 t193, .int .i64 t194, .int .i64 t195, .slice Ao31 t196.length co31]) (ok := (fun k_ => some k_ ≠ (.slice Ao22 t177.length co22 : Value).ownBlock ∧ k_ ≠ gb180)) (okp := (fun k_ => some k_ ≠ (.slice Ao22 t177.length co22 : Value).ownBlock ∧ k_ ≠ gb180)) ?hr ?hp (fun _ hk => hk) ((show ∀ k_, w28.heap.size ≤ k_ → (fun k_ => some k_ ≠ (.slice Ao22 t177.length co22 : Value).ownBlock ∧ k_ ≠ gb180) k_ from fun k_ hk => ⟨Kd.fresh' (Kd.N_lt (by (with_reducible repeat (first | apply Kd.N_alloc | apply Kd.N_drewN | apply Kd.N_drew)); exact HO179.out)) k_ hk, Kd.freshB (g := gb180) (o := .cells #[.slice Ao22 t177.length co22] 24 (0, 0)) (by (with_reducible repeat (first | refine blk_drewN ?_ _ | refine blk_drew ?_ | refine blk_alloc ?_ _)); exact BK180.out) k_ hk⟩) _ (Nat.le_refl _)) (Below.refl _ _) (Nat.le_refl _) (by simp) ?_; (case hd => rfl); (case hg => rfl); (case hr => first | (go_simp; done) | (go_simp; rfl)); (case hp => exact (Reps.c4 (show Kd.FK k29 _ _ (⟨t181, t182, t183, t184⟩ : S29) [.int .i64 t181, .int .i64 t182, .int .i64 t183, .slice Ao29 t184.length co29] from (k29_mkF _ _ (⟨t181, t182, t183, t184⟩ : S29) (Kd.R_reads' (Kd.R_mono (ok' := (fun k_ => some k_ ≠ (.slice Ao22 t177.length co22 : Value).ownBlock ∧ k_ ≠ gb180)) (Kd.R_types (Kd.R_apart' (HO186.out) (Kd.N_typed HO179.out) (by decide)) BK180.out (by decide)) (fun k_ hk => ⟨hk.1.2, hk.2⟩))).2.1 (Kd.R_F (Kd.R_mono (ok' := (fun k_ => some k_ ≠ (.slice Ao22 t177.length co22 : Value).ownBlock ∧ k_ ≠ gb180)) (Kd.R_types (Kd.R_apart' (HO186.out) (Kd.N_typed HO179.out) (by decide)) BK180.out (by decide)) (fun k_ hk => ⟨hk.1.2, hk.2⟩))))) (Reps.c4 (show Kd.FK k29 _ _ (⟨t187, t188, t189, t190⟩ : S29) [.int .i64 t187, .int .i64 t188, .int .i64 t189, .slice Ao30 t190.length co30] from (k29_mkF _ _ (⟨t187, t188, t189, t190⟩ : S29) (Kd.R_reads' (Kd.R_mono (ok' := (fun k_ => some k_ ≠ (.slice Ao22 t177.length co22 : Value).ownBlock ∧ k_ ≠ gb180)) (Kd.R_types (Kd.R_apart' (HO192.out) (Kd.N_typed HO179.out) (by decide)) BK180.out (by decide)) (fun k_ hk => ⟨hk.1.2, hk.2⟩))).2.1 (Kd.R_F (Kd.R_mono (ok' := (fun k_ => some k_ ≠ (.slice Ao22 t177.length co22 : Value).ownBlock ∧ k_ ≠ gb180)) (Kd.R_types (Kd.R_apart' (HO192.out) (Kd.N_typed HO179.out) (by decide)) BK180.out (by decide)) (fun k_ hk => ⟨hk.1.2, hk.2⟩))))) (Reps.c4 (show Kd.FK k29 _ _ (⟨t193, t194, t195, t196⟩ : S29) [.int .i64 t193, .int .i64 t194, .int .i64 t195, .slice Ao31 t196.length co31] from (k29_mkF _ _ (⟨t193, t194, t195, t196⟩ : S29) (Kd.R_reads' (Kd.R_mono (ok' := (fun k_ => some k_ ≠ (.slice Ao22 t177.length co22 : Value).ownBlock ∧ k_ ≠ gb180)) (Kd.R_types (Kd.R_apart' (HO198.out) (Kd.N_typed HO179.out) (by decide)) BK180.out (by decide)) (fun k_ hk => ⟨hk.1.2, hk.2⟩))).2.1 (Kd.R_F (Kd.R_mono (ok' := (fun k_ => some k_ ≠ (.slice Ao22 t177.length co22 : Value).ownBlock ∧ k_ ≠ gb180)) (Kd.R_types (Kd.R_apart' (HO198.out) (Kd.N_typed HO179.out) (by decide)) BK180.out (by decide)) (fun k_ hk => ⟨hk.1.2, hk.2⟩))))) (Reps.none _ _)))))
       intro v200 w32 ho33 hb hg_ hnew_
       clear hg_ hnew_
       (first | rw [← Ny199.out] at ho33 | (simp only [Int.reduceToNat] at ho33; rw [← Ny199.out] at ho33))
       have n0_ := Aside0.mk (Kd.N_elder' (by (with_reducible repeat (first | apply Kd.N_alloc | apply Kd.N_drewN | apply Kd.N_drew)); exact HO179.out) (Kd.N_base ho33) hb)
       have n1_ := Aside0.mk (Kd.N_lower ho33 (below_size (by repeat (first | (with_reducible first | exact HB.out | apply below_alloc | apply pw_below_drewN | apply below_drew1 | refine below_set ?_ GE180.out) | exact HB.out))))
       have n2_ := Aside0.mk (blk_below (g := gb180) (o := .cells #[.slice Ao22 t177.length co22] 24 (0, 0)) (by (with_reducible repeat (first | refine blk_drewN ?_ _ | refine blk_drew ?_ | refine blk_alloc ?_ _)); exact BK180.out) hb)
       have n3_ := Aside0.mk (below_step (by repeat (first | (with_reducible first | exact HB.out | apply below_alloc | apply pw_below_drewN | apply below_drew1 | refine below_set ?_ GE180.out) | exact HB.out)) hb)
       clear HO179
       clear BK180
       clear HB
       clear HO186
       clear HO192
       clear HO198
       have HO179 := n0_
       have HO201 := n1_
       have BK180 := n2_
       have HB := n3_
       clear n0_ n1_ n2_ n3_
       clear hb ho33
       obtain ⟨Ao34, co34, eo34⟩ := Kd.N_slice HO201.out
       (first | subst eo34 | (injection eo34 with f1_ f2_ f3_; have f4_ := f1_.symm; have f5_ := f3_.symm; clear f1_ f2_ f3_; subst f4_; subst f5_))
       refine hK.out _ _ ((blk_cell BK180.out 0).trans rfl) (fun hHeld => ?_)
       clear hK K
       refine norm_ (a' := ?_) ?_ ?_
       rotate_left
       ·show Act.put _ (some 15) _ = _
        simp only [Act.put, List.setIfInBounds_toArray, List.set_cons_zero, List.set_cons_succ, i64_w, i32_w]
        rfl
       refine one_ (i := 5) (N := some 16) #[true, true, true, true, true, true, false, false, false, false, false, false, false] rfl rfl (one_of HT_.out (by kernel_rfl)) (by decide) (fun K hK => ?_)
       refine goes_ Try.func11 (by kernel_rfl) rfl #[.agg #[.slice Ao22 t177.length co22], .slice Ao34 y199.length co34] (by rfl) rfl rfl (by (try simp only [List.map_toArray, List.map_cons, List.map_nil]); first | done | rfl | (simp only [List.length_drop, List.length_take]; rfl)) ?_
       with_reducible refine (fact_All.calls _ _ t177 _ _ y199 t202 t205 t206 _ ?side1 ?side2 ?side3 ?side4 A5.out).mono ?_
       (case side1 => repeat (first | exact (Kd.N_reads' HO179.out).2.2 | (with_reducible refine Kd.C_alloc ?_ _) | (with_reducible refine Kd.C_drewN ?_ _) | (with_reducible refine Kd.C_drew ?_)))
       (case side2 => exact (Kd.N_reads' HO179.out).2.1)
       (case side3 => repeat (first | exact (Kd.N_reads' HO201.out).2.2 | (with_reducible refine Kd.C_alloc ?_ _) | (with_reducible refine Kd.C_drewN ?_ _) | (with_reducible refine Kd.C_drew ?_)))
       (case side4 => exact (Kd.N_reads' HO201.out).2.1)
       rintro e w35 ⟨v203, rfl, ho0, hb⟩
       refine ⟨_, rfl, ?_⟩
       have n0_ := Aside0.mk (Kd.N_elder' (by (with_reducible repeat (first | apply Kd.N_alloc | apply Kd.N_drewN | apply Kd.N_drew)); exact HO179.out) (Kd.R_base ho0) hb)
       have n1_ := Aside0.mk (Kd.N_elder' (by (with_reducible repeat (first | apply Kd.N_alloc | apply Kd.N_drewN | apply Kd.N_drew)); exact HO201.out) (Kd.R_base ho0) hb)
       have n2_ := Aside0.mk (Kd.R_lower ho0 (below_size (by repeat (first | (with_reducible first | exact HB.out | apply below_alloc | apply pw_below_drewN | apply below_drew1 | refine below_set ?_ GE180.out) | exact HB.out))))
       have n3_ := Aside0.mk (blk_below (g := gb180) (o := .cells #[.slice Ao22 t177.length co22] 24 (0, 0)) (by (with_reducible repeat (first | refine blk_drewN ?_ _ | refine blk_drew ?_ | refine blk_alloc ?_ _)); exact BK180.out) hb)
       have n4_ := Aside0.mk (below_step (by repeat (first | (with_reducible first | exact HB.out | apply below_alloc | apply pw_below_drewN | apply below_drew1 | refine below_set ?_ GE180.out) | exact HB.out)) hb)
       clear HO179
       clear HO201
       clear BK180
       clear HB
       have HO179 := n0_
       have HO201 := n1_
       have HO204 := n2_
       have BK180 := n3_
       have HB := n4_
       clear n0_ n1_ n2_ n3_ n4_
       (try clear hb)
       (try clear hb2)
       (try clear hk)
       (try clear hi)
       (try clear ho0)
       refine hK.out _ _ ((blk_cell BK180.out 0).trans rfl) (fun hHeld => ?_)
       clear hK K
       refine norm_ (a' := ?_) ?_ ?_
       rotate_left
       ·show Act.put _ (some 16) _ = _
        simp only [Act.put, List.setIfInBounds_toArray, List.set_cons_zero, List.set_cons_succ, i64_w, i32_w]
        rfl
       refine pure_ (i := 6) (N := some 10) (v := ?_) (a' := ?_) #[true, true, true, true, true, true, true, false, false, false, false, false, false] rfl rfl (any_of HT_.out (by kernel_rfl)) (fun _ _ _ h => h) (Or.inl ⟨by rfl, ?_⟩) ?_ ?_
       rotate_left
       ·intro w'
        go_simp
        with_reducible rfl
       rotate_left
       ·simp only [Act.put, List.setIfInBounds_toArray, List.set_cons_zero, List.set_cons_succ, i64_w, i32_w]
        rfl
       refine pure_ (i := 7) (N := some 17) (v := ?_) (a' := ?_) #[true, true, true, true, true, true, true, true, false, false, false, false, false] rfl rfl (any_of HT_.out (by kernel_rfl)) (fun _ _ _ h => h) (Or.inl ⟨by rfl, ?_⟩) ?_ ?_
       rotate_left
       ·intro w'
        go_simp
        with_reducible rfl
       rotate_left
       ·simp only [Act.put, List.setIfInBounds_toArray, List.set_cons_zero, List.set_cons_succ, i64_w, i32_w]
        rfl
       refine pure_ (i := 8) (N := some 18) (v := ?_) (a' := ?_) #[true, true, true, true, true, true, true, true, true, false, false, false, false] rfl rfl (any_of HT_.out (by kernel_rfl)) (fun _ _ _ h => h) (Or.inl ⟨by rfl, ?_⟩) ?_ ?_
       rotate_left
       ·intro w'
        go_simp
        with_reducible rfl
       rotate_left
       ·simp only [Act.put, List.setIfInBounds_toArray, List.set_cons_zero, List.set_cons_succ, i64_w, i32_w]
        rfl
       refine pure_ (i := 9) (N := some 19) (v := ?_) (a' := ?_) #[true, true, true, true, true, true, true, true, true, true, false, false, false] rfl rfl (any_of HT_.out (by kernel_rfl)) (fun _ _ _ h => h) (Or.inl ⟨by rfl, ?_⟩) ?_ ?_
       rotate_left
       ·intro w'
        go_simp
        with_reducible rfl
       rotate_left
       ·simp only [Act.put, List.setIfInBounds_toArray, List.set_cons_zero, List.set_cons_succ, i64_w, i32_w]
        rfl
       refine pure_ (i := 10) (N := some 2) (v := ?_) (a' := ?_) #[true, true, true, true, true, true, true, true, true, true, true, false, false] rfl rfl (any_of HT_.out (by kernel_rfl)) (fun _ _ _ h => h) (Or.inl ⟨by rfl, ?_⟩) ?_ ?_
       rotate_left
       ·intro w'
        go_simp
        with_reducible rfl
       rotate_left
       ·simp only [Act.put, List.setIfInBounds_toArray, List.set_cons_zero, List.set_cons_succ, i64_w, i32_w]
        rfl
       refine pure_ (i := 11) (N := some 3) (v := ?_) (a' := ?_) #[true, true, true, true, true, true, true, true, true, true, true, true, false] rfl rfl (any_of HT_.out (by kernel_rfl)) (fun _ _ _ h => h) (Or.inl ⟨by rfl, ?_⟩) ?_ ?_
       rotate_left
       ·intro w'
        go_simp
        with_reducible rfl
       rotate_left
       ·simp only [Act.put, List.setIfInBounds_toArray, List.set_cons_zero, List.set_cons_succ, i64_w, i32_w]
        rfl
       refine pure_ (i := 12) (N := some 4) (v := ?_) (a' := ?_) #[true, true, true, true, true, true, true, true, true, true, true, true, true] rfl rfl (any_of HT_.out (by kernel_rfl)) (fun _ _ _ h => h) (Or.inl ⟨by rfl, ?_⟩) ?_ ?_
       rotate_left
       ·intro w'
        go_simp
        with_reducible rfl
       rotate_left
       ·simp only [Act.put, List.setIfInBounds_toArray, List.set_cons_zero, List.set_cons_succ, i64_w, i32_w]
        rfl
       refine done_ (done_of HT_.out (by kernel_rfl)) ?_
       try go_wp2
       have n0_ := Aside0.mk (Kd.N_drew HO179.out)
       have n1_ := Aside0.mk (Kd.N_drew HO201.out)
       have n2_ := Aside0.mk (Kd.R_drew HO204.out)
       have n3_ := Aside0.mk (blk_drew BK180.out)
       have n4_ := Aside0.mk (below_drew1 HB.out)
       clear HO179
       clear HO201
       clear HO204
       clear BK180
       clear HB
       have HO179 := n0_
       have HO201 := n1_
       have HO204 := n2_
       have BK180 := n3_
       have HB := n4_
       clear n0_ n1_ n2_ n3_ n4_
       refine start_ (n := 9) (S := fun w' => w'.cell? ⟨gb180, 0, none⟩ = some (.slice Ao22 t177.length co22)) (ds := []) #[false, false, false, false, false, false, false, false, false] (by kernel_rfl) rfl rfl ((blk_cell BK180.out 0).trans rfl) (fun hHeld => ?_); refine with_tabW argosylaw13_lives.tab3 argosylaw13_lives.bits3 (fun HT_ HW_ => ?_)
       generalize w35.drew = w36 at HO179 HO201 HO204 BK180 HB hHeld ⊢
       refine pure_ (i := 1) (N := some 22) (v := ?_) (a' := ?_) #[false, true, false, false, false, false, false, false, false] rfl rfl (any_of HT_.out (by kernel_rfl)) (fun _ _ _ h => h) (Or.inl ⟨by rfl, ?_⟩) ?_ ?_
       rotate_left
       ·intro w'
        go_simp
        with_reducible rfl
       rotate_left
       ·simp only [Act.put, List.setIfInBounds_toArray, List.set_cons_zero, List.set_cons_succ, i64_w, i32_w]
        rfl
       refine take_ (i := 0) (N := some 21) (v := ?_) (a' := ?_) #[true, true, false, false, false, false, false, false, false] rfl rfl (take_ofW HT_.out HW_.out (by kernel_rfl)) (fun _ _ _ h => h) (Or.inl ⟨by rfl, ?_⟩) hHeld ?_ ?_
       rotate_left
       ·intro w' s0
        go_simp
        with_reducible rfl
       rotate_left
       ·simp only [Act.put, List.setIfInBounds_toArray, List.set_cons_zero, List.set_cons_succ, i64_w, i32_w]
        rfl
       refine one_ (i := 2) (N := some 23) #[true, true, true, false, false, false, false, false, false] rfl rfl (one_of HT_.out (by kernel_rfl)) (by decide) (fun K hK => ?_)
       refine goes_ Try.func12 (by kernel_rfl) rfl #[.int .i64 6, .int .i64 0] (by rfl) rfl rfl (by (try simp only [List.map_toArray, List.map_cons, List.map_nil]); first | done | rfl | (simp only [List.length_drop, List.length_take]; rfl)) ?_
       with_reducible refine (argosylaw13_ev.calls 6 0 t207 t208 t209 t210 _ A6.out).mono ?_
       rintro e w37 ⟨v211, rfl, ho0, hb⟩
       refine ⟨_, rfl, ?_⟩
       have n0_ := Aside0.mk (Kd.N_elder' (by (with_reducible repeat (first | apply Kd.N_alloc | apply Kd.N_drewN | apply Kd.N_drew)); exact HO179.out) (Kd.R_base ho0) hb)
       have n1_ := Aside0.mk (Kd.N_elder' (by (with_reducible repeat (first | apply Kd.N_alloc | apply Kd.N_drewN | apply Kd.N_drew)); exact HO201.out) (Kd.R_base ho0) hb)
       have n2_ := Aside0.mk (Kd.R_below (by (with_reducible repeat (first | apply Kd.R_alloc | apply Kd.R_drewN | apply Kd.R_drew)); exact HO204.out) hb)
       have n3_ := Aside0.mk (Kd.R_lower ho0 (below_size (by repeat (first | (with_reducible first | exact HB.out | apply below_alloc | apply pw_below_drewN | apply below_drew1 | refine below_set ?_ GE180.out) | exact HB.out))))
       have n4_ := Aside0.mk (blk_below (g := gb180) (o := .cells #[.slice Ao22 t177.length co22] 24 (0, 0)) (by (with_reducible repeat (first | refine blk_drewN ?_ _ | refine blk_drew ?_ | refine blk_alloc ?_ _)); exact BK180.out) hb)
       have n5_ := Aside0.mk (below_step (by repeat (first | (with_reducible first | exact HB.out | apply below_alloc | apply pw_below_drewN | apply below_drew1 | refine below_set ?_ GE180.out) | exact HB.out)) hb)
       clear HO179
       clear HO201
       clear HO204
       clear BK180
       clear HB
       have HO179 := n0_
       have HO201 := n1_
       have HO204 := n2_
       have HO212 := n3_
       have BK180 := n4_
       have HB := n5_
       clear n0_ n1_ n2_ n3_ n4_ n5_
       (try clear hb)
       (try clear hb2)
       (try clear hk)
       (try clear hi)
       (try clear ho0)
       obtain ⟨Ao38, co38, eo38⟩ := Kd.R_slice HO204.out
       (first | subst eo38 | (injection eo38 with f1_ f2_ f3_; have f4_ := f1_.symm; have f5_ := f3_.symm; clear f1_ f2_ f3_; subst f4_; subst f5_))
       obtain ⟨Ao39, co39, eo39⟩ := Kd.R_slice HO212.out
       (first | subst eo39 | (injection eo39 with f1_ f2_ f3_; have f4_ := f1_.symm; have f5_ := f3_.symm; clear f1_ f2_ f3_; subst f4_; subst f5_))
       refine hK.out _ _ ((blk_cell BK180.out 0).trans rfl) (fun hHeld => ?_)
       clear hK K
       refine norm_ (a' := ?_) ?_ ?_
       rotate_left
       ·show Act.put _ (some 23) _ = _
        simp only [Act.put, List.setIfInBounds_toArray, List.set_cons_zero, List.set_cons_succ, i64_w, i32_w]
        rfl
       refine one_ (i := 3) (N := some 24) #[true, true, true, true, false, false, false, false, false] rfl rfl (one_of HT_.out (by kernel_rfl)) (by decide) (fun K hK => ?_)
       refine goes_ Try.func7 (by kernel_rfl) rfl #[.agg #[.slice Ao22 t177.length co22], .slice Ao38 t202.length co38, .agg #[.int .i64 t207, .int .i64 t208, .int .i64 t209, .slice Ao39 t210.length co39]] (by rfl) rfl rfl (by (try simp only [List.map_toArray, List.map_cons, List.map_nil]); first | done | rfl | (simp only [List.length_drop, List.length_take]; rfl)) ?_
       with_reducible refine (fact_Apply.calls _ _ t177 _ _ t202 t207 t208 t209 _ _ t210 t213 t216 _ ?side1 ?side2 ?side3 ?side4 ?side5 ?side6 A7.out).mono ?_
       (case side1 => repeat (first | exact (Kd.N_reads' HO179.out).2.2 | (with_reducible refine Kd.C_alloc ?_ _) | (with_reducible refine Kd.C_drewN ?_ _) | (with_reducible refine Kd.C_drew ?_)))
       (case side2 => exact (Kd.N_reads' HO179.out).2.1)
       (case side3 => repeat (first | exact (Kd.R_reads' HO204.out).2.2 | (with_reducible refine Kd.C_alloc ?_ _) | (with_reducible refine Kd.C_drewN ?_ _) | (with_reducible refine Kd.C_drew ?_)))
       (case side4 => exact (Kd.R_reads' HO204.out).2.1)
       (case side5 => repeat (first | exact (Kd.R_reads' HO212.out).2.2 | (with_reducible refine Kd.C_alloc ?_ _) | (with_reducible refine Kd.C_drewN ?_ _) | (with_reducible refine Kd.C_drew ?_)))
       (case side6 => exact (Kd.R_reads' HO212.out).2.1)
       rintro e w40 ⟨v214, rfl, ho0, hb⟩
       refine ⟨_, rfl, ?_⟩
       have n0_ := Aside0.mk (Kd.N_elder' (by (with_reducible repeat (first | apply Kd.N_alloc | apply Kd.N_drewN | apply Kd.N_drew)); exact HO179.out) (Kd.R_base ho0) hb)
       have n1_ := Aside0.mk (Kd.N_elder' (by (with_reducible repeat (first | apply Kd.N_alloc | apply Kd.N_drewN | apply Kd.N_drew)); exact HO201.out) (Kd.R_base ho0) hb)
       have n2_ := Aside0.mk (Kd.R_elder' (by (with_reducible repeat (first | apply Kd.R_alloc | apply Kd.R_drewN | apply Kd.R_drew)); exact HO204.out) (Kd.R_base ho0) hb)
       have n3_ := Aside0.mk (Kd.R_below (by (with_reducible repeat (first | apply Kd.R_alloc | apply Kd.R_drewN | apply Kd.R_drew)); exact HO212.out) hb)
       have n4_ := Aside0.mk (Kd.R_lower (Kd.R_new' ho0 (Kd.R_lt (by (with_reducible repeat (first | apply Kd.R_alloc | apply Kd.R_drewN | apply Kd.R_drew)); exact HO204.out))) (below_size (by repeat (first | (with_reducible first | exact HB.out | apply below_alloc | apply pw_below_drewN | apply below_drew1 | refine below_set ?_ GE180.out) | exact HB.out))))
       have n5_ := Aside0.mk (blk_below (g := gb180) (o := .cells #[.slice Ao22 t177.length co22] 24 (0, 0)) (by (with_reducible repeat (first | refine blk_drewN ?_ _ | refine blk_drew ?_ | refine blk_alloc ?_ _)); exact BK180.out) hb)
       have n6_ := Aside0.mk (below_step (by repeat (first | (with_reducible first | exact HB.out | apply below_alloc | apply pw_below_drewN | apply below_drew1 | refine below_set ?_ GE180.out) | exact HB.out)) hb)
       clear HO179
       clear HO201
       clear HO204
       clear HO212
       clear BK180
       clear HB
       have HO179 := n0_
       have HO201 := n1_
       have HO204 := n2_
       have HO212 := n3_
       have HO215 := n4_
       have BK180 := n5_
       have HB := n6_
       clear n0_ n1_ n2_ n3_ n4_ n5_ n6_
       (try clear hb)
       (try clear hb2)
       (try clear hk)
       (try clear hi)
       (try clear ho0)
       refine hK.out _ _ ((blk_cell BK180.out 0).trans rfl) (fun hHeld => ?_)
       clear hK K
       refine norm_ (a' := ?_) ?_ ?_
       rotate_left
       ·show Act.put _ (some 24) _ = _
        simp only [Act.put, List.setIfInBounds_toArray, List.set_cons_zero, List.set_cons_succ, i64_w, i32_w]
        rfl
       refine pure_ (i := 4) (N := some 20) (v := ?_) (a' := ?_) #[true, true, true, true, true, false, false, false, false] rfl rfl (any_of HT_.out (by kernel_rfl)) (fun _ _ _ h => h) (Or.inl ⟨by rfl, ?_⟩) ?_ ?_
       rotate_left
       ·intro w'
        go_simp
        with_reducible rfl
       rotate_left
       ·simp only [Act.put, List.setIfInBounds_toArray, List.set_cons_zero, List.set_cons_succ, i64_w, i32_w]
        rfl
       refine pure_ (i := 5) (N := some 25) (v := ?_) (a' := ?_) #[true, true, true, true, true, true, false, false, false] rfl rfl (any_of HT_.out (by kernel_rfl)) (fun _ _ _ h => h) (Or.inl ⟨by rfl, ?_⟩) ?_ ?_
       rotate_left
       ·intro w'
        go_simp
        with_reducible rfl
       rotate_left
       ·simp only [Act.put, List.setIfInBounds_toArray, List.set_cons_zero, List.set_cons_succ, i64_w, i32_w]
        rfl
       refine pure_ (i := 6) (N := some 26) (v := ?_) (a' := ?_) #[true, true, true, true, true, true, true, false, false] rfl rfl (any_of HT_.out (by kernel_rfl)) (fun _ _ _ h => h) (Or.inl ⟨by rfl, ?_⟩) ?_ ?_
       rotate_left
       ·intro w'
        go_simp
        with_reducible rfl
       rotate_left
       ·simp only [Act.put, List.setIfInBounds_toArray, List.set_cons_zero, List.set_cons_succ, i64_w, i32_w]
        rfl
       refine pure_ (i := 7) (N := some 5) (v := ?_) (a' := ?_) #[true, true, true, true, true, true, true, true, false] rfl rfl (any_of HT_.out (by kernel_rfl)) (fun _ _ _ h => h) (Or.inl ⟨by rfl, ?_⟩) ?_ ?_
       rotate_left
       ·intro w'
        go_simp
        with_reducible rfl
       rotate_left
       ·simp only [Act.put, List.setIfInBounds_toArray, List.set_cons_zero, List.set_cons_succ, i64_w, i32_w]
        rfl
       refine pure_ (i := 8) (N := some 6) (v := ?_) (a' := ?_) #[true, true, true, true, true, true, true, true, true] rfl rfl (any_of HT_.out (by kernel_rfl)) (fun _ _ _ h => h) (Or.inl ⟨by rfl, ?_⟩) ?_ ?_
       rotate_left
       ·intro w'
        go_simp
        with_reducible rfl
       rotate_left
       ·simp only [Act.put, List.setIfInBounds_toArray, List.set_cons_zero, List.set_cons_succ, i64_w, i32_w]
        rfl
       refine done_ (done_of HT_.out (by kernel_rfl)) ?_
       try go_wp2
       have n0_ := Aside0.mk (Kd.N_drew HO179.out)
       have n1_ := Aside0.mk (Kd.N_drew HO201.out)
       have n2_ := Aside0.mk (Kd.R_drew HO204.out)
       have n3_ := Aside0.mk (Kd.R_drew HO212.out)
       have n4_ := Aside0.mk (Kd.R_drew HO215.out)
       have n5_ := Aside0.mk (blk_drew BK180.out)
       have n6_ := Aside0.mk (below_drew1 HB.out)
       clear HO179
       clear HO201
       clear HO204
       clear HO212
       clear HO215
       clear BK180
       clear HB
       have HO179 := n0_
       have HO201 := n1_
       have HO204 := n2_
       have HO212 := n3_
       have HO215 := n4_
       have BK180 := n5_
       have HB := n6_
       clear n0_ n1_ n2_ n3_ n4_ n5_ n6_
       refine start_ (n := 9) (S := fun w' => w'.cell? ⟨gb180, 0, none⟩ = some (.slice Ao22 t177.length co22)) (ds := []) #[false, false, false, false, false, false, false, false, false] (by kernel_rfl) rfl rfl ((blk_cell BK180.out 0).trans rfl) (fun hHeld => ?_); refine with_tabW argosylaw13_lives.tab4 argosylaw13_lives.bits4 (fun HT_ HW_ => ?_)
       generalize w40.drew = w41 at HO179 HO201 HO204 HO212 HO215 BK180 HB hHeld ⊢
       refine pure_ (i := 1) (N := some 29) (v := ?_) (a' := ?_) #[false, true, false, false, false, false, false, false, false] rfl rfl (any_of HT_.out (by kernel_rfl)) (fun _ _ _ h => h) (Or.inl ⟨by rfl, ?_⟩) ?_ ?_
       rotate_left
       ·intro w'
        go_simp
        with_reducible rfl
       rotate_left
       ·simp only [Act.put, List.setIfInBounds_toArray, List.set_cons_zero, List.set_cons_succ, i64_w, i32_w]
        rfl
       refine take_ (i := 0) (N := some 28) (v := ?_) (a' := ?_) #[true, true, false, false, false, false, false, false, false] rfl rfl (take_ofW HT_.out HW_.out (by kernel_rfl)) (fun _ _ _ h => h) (Or.inl ⟨by rfl, ?_⟩) hHeld ?_ ?_
       rotate_left
       ·intro w' s0
        go_simp
        with_reducible rfl
       rotate_left
       ·simp only [Act.put, List.setIfInBounds_toArray, List.set_cons_zero, List.set_cons_succ, i64_w, i32_w]
        rfl
       refine one_ (i := 2) (N := some 30) #[true, true, true, false, false, false, false, false, false] rfl rfl (one_of HT_.out (by kernel_rfl)) (by decide) (fun K hK => ?_)
       refine goes_ Try.func12 (by kernel_rfl) rfl #[.int .i64 4, .int .i64 0] (by rfl) rfl rfl (by (try simp only [List.map_toArray, List.map_cons, List.map_nil]); first | done | rfl | (simp only [List.length_drop, List.length_take]; rfl)) ?_
       with_reducible refine (argosylaw13_ev.calls 4 0 t217 t218 t219 t220 _ A8.out).mono ?_
       rintro e w42 ⟨v221, rfl, ho0, hb⟩
       refine ⟨_, rfl, ?_⟩
       have n0_ := Aside0.mk (Kd.N_elder' (by (with_reducible repeat (first | apply Kd.N_alloc | apply Kd.N_drewN | apply Kd.N_drew)); exact HO179.out) (Kd.R_base ho0) hb)
       have n1_ := Aside0.mk (Kd.N_elder' (by (with_reducible repeat (first | apply Kd.N_alloc | apply Kd.N_drewN | apply Kd.N_drew)); exact HO201.out) (Kd.R_base ho0) hb)
       have n2_ := Aside0.mk (Kd.R_below (by (with_reducible repeat (first | apply Kd.R_alloc | apply Kd.R_drewN | apply Kd.R_drew)); exact HO204.out) hb)
       have n3_ := Aside0.mk (Kd.R_elder' (by (with_reducible repeat (first | apply Kd.R_alloc | apply Kd.R_drewN | apply Kd.R_drew)); exact HO212.out) (Kd.R_base ho0) hb)
       have n4_ := Aside0.mk (Kd.R_below (by (with_reducible repeat (first | apply Kd.R_alloc | apply Kd.R_drewN | apply Kd.R_drew)); exact HO215.out) hb)
       have n5_ := Aside0.mk (Kd.R_lower (Kd.R_new' ho0 (Kd.R_lt (by (with_reducible repeat (first | apply Kd.R_alloc | apply Kd.R_drewN | apply Kd.R_drew)); exact HO212.out))) (below_size (by repeat (first | (with_reducible first | exact HB.out | apply below_alloc | apply pw_below_drewN | apply below_drew1 | refine below_set ?_ GE180.out) | exact HB.out))))
       have n6_ := Aside0.mk (blk_below (g := gb180) (o := .cells #[.slice Ao22 t177.length co22] 24 (0, 0)) (by (with_reducible repeat (first | refine blk_drewN ?_ _ | refine blk_drew ?_ | refine blk_alloc ?_ _)); exact BK180.out) hb)
       have n7_ := Aside0.mk (below_step (by repeat (first | (with_reducible first | exact HB.out | apply below_alloc | apply pw_below_drewN | apply below_drew1 | refine below_set ?_ GE180.out) | exact HB.out)) hb)
       clear HO179
       clear HO201
       clear HO204
       clear HO212
       clear HO215
       clear BK180
       clear HB
       have HO179 := n0_
       have HO201 := n1_
       have HO204 := n2_
       have HO212 := n3_
       have HO215 := n4_
       have HO222 := n5_
       have BK180 := n6_
       have HB := n7_
       clear n0_ n1_ n2_ n3_ n4_ n5_ n6_ n7_
       (try clear hb)
       (try clear hb2)
       (try clear hk)
       (try clear hi)
       (try clear ho0)
       obtain ⟨Ao43, co43, eo43⟩ := Kd.R_slice HO215.out
       (first | subst eo43 | (injection eo43 with f1_ f2_ f3_; have f4_ := f1_.symm; have f5_ := f3_.symm; clear f1_ f2_ f3_; subst f4_; subst f5_))
       obtain ⟨Ao44, co44, eo44⟩ := Kd.R_slice HO222.out
       (first | subst eo44 | (injection eo44 with f1_ f2_ f3_; have f4_ := f1_.symm; have f5_ := f3_.symm; clear f1_ f2_ f3_; subst f4_; subst f5_))
       refine hK.out _ _ ((blk_cell BK180.out 0).trans rfl) (fun hHeld => ?_)
       clear hK K
       refine norm_ (a' := ?_) ?_ ?_
       rotate_left
       ·show Act.put _ (some 30) _ = _
        simp only [Act.put, List.setIfInBounds_toArray, List.set_cons_zero, List.set_cons_succ, i64_w, i32_w]
        rfl
       refine one_ (i := 3) (N := some 31) #[true, true, true, true, false, false, false, false, false] rfl rfl (one_of HT_.out (by kernel_rfl)) (by decide) (fun K hK => ?_)
       refine goes_ Try.func7 (by kernel_rfl) rfl #[.agg #[.slice Ao22 t177.length co22], .slice Ao43 t213.length co43, .agg #[.int .i64 t217, .int .i64 t218, .int .i64 t219, .slice Ao44 t220.length co44]] (by rfl) rfl rfl (by (try simp only [List.map_toArray, List.map_cons, List.map_nil]); first | done | rfl | (simp only [List.length_drop, List.length_take]; rfl)) ?_
       with_reducible refine (fact_Apply.calls _ _ t177 _ _ t213 t217 t218 t219 _ _ t220 t223 t226 _ ?side1 ?side2 ?side3 ?side4 ?side5 ?side6 A9.out).mono ?_
       (case side1 => repeat (first | exact (Kd.N_reads' HO179.out).2.2 | (with_reducible refine Kd.C_alloc ?_ _) | (with_reducible refine Kd.C_drewN ?_ _) | (with_reducible refine Kd.C_drew ?_)))
       (case side2 => exact (Kd.N_reads' HO179.out).2.1)
       (case side3 => repeat (first | exact (Kd.R_reads' HO215.out).2.2 | (with_reducible refine Kd.C_alloc ?_ _) | (with_reducible refine Kd.C_drewN ?_ _) | (with_reducible refine Kd.C_drew ?_)))
       (case side4 => exact (Kd.R_reads' HO215.out).2.1)
       (case side5 => repeat (first | exact (Kd.R_reads' HO222.out).2.2 | (with_reducible refine Kd.C_alloc ?_ _) | (with_reducible refine Kd.C_drewN ?_ _) | (with_reducible refine Kd.C_drew ?_)))
       (case side6 => exact (Kd.R_reads' HO222.out).2.1)
       rintro e w45 ⟨v224, rfl, ho0, hb⟩
       refine ⟨_, rfl, ?_⟩
       have n0_ := Aside0.mk (Kd.N_elder' (by (with_reducible repeat (first | apply Kd.N_alloc | apply Kd.N_drewN | apply Kd.N_drew)); exact HO179.out) (Kd.R_base ho0) hb)
       have n1_ := Aside0.mk (Kd.N_elder' (by (with_reducible repeat (first | apply Kd.N_alloc | apply Kd.N_drewN | apply Kd.N_drew)); exact HO201.out) (Kd.R_base ho0) hb)
       have n2_ := Aside0.mk (Kd.R_elder' (by (with_reducible repeat (first | apply Kd.R_alloc | apply Kd.R_drewN | apply Kd.R_drew)); exact HO204.out) (Kd.R_base ho0) hb)
       have n3_ := Aside0.mk (Kd.R_below (by (with_reducible repeat (first | apply Kd.R_alloc | apply Kd.R_drewN | apply Kd.R_drew)); exact HO212.out) hb)
       have n4_ := Aside0.mk (Kd.R_elder' (by (with_reducible repeat (first | apply Kd.R_alloc | apply Kd.R_drewN | apply Kd.R_drew)); exact HO215.out) (Kd.R_base ho0) hb)
       have n5_ := Aside0.mk (Kd.R_below (by (with_reducible repeat (first | apply Kd.R_alloc | apply Kd.R_drewN | apply Kd.R_drew)); exact HO222.out) hb)
       have n6_ := Aside0.mk (Kd.R_lower (Kd.R_new' (Kd.R_new' ho0 (Kd.R_lt (by (with_reducible repeat (first | apply Kd.R_alloc | apply Kd.R_drewN | apply Kd.R_drew)); exact HO204.out))) (Kd.R_lt (by (with_reducible repeat (first | apply Kd.R_alloc | apply Kd.R_drewN | apply Kd.R_drew)); exact HO215.out))) (below_size (by repeat (first | (with_reducible first | exact HB.out | apply below_alloc | apply pw_below_drewN | apply below_drew1 | refine below_set ?_ GE180.out) | exact HB.out))))
       have n7_ := Aside0.mk (blk_below (g := gb180) (o := .cells #[.slice Ao22 t177.length co22] 24 (0, 0)) (by (with_reducible repeat (first | refine blk_drewN ?_ _ | refine blk_drew ?_ | refine blk_alloc ?_ _)); exact BK180.out) hb)
       have n8_ := Aside0.mk (below_step (by repeat (first | (with_reducible first | exact HB.out | apply below_alloc | apply pw_below_drewN | apply below_drew1 | refine below_set ?_ GE180.out) | exact HB.out)) hb)
       clear HO179
       clear HO201
       clear HO204
       clear HO212
       clear HO215
       clear HO222
       clear BK180
       clear HB
       have HO179 := n0_
       have HO201 := n1_
       have HO204 := n2_
       have HO212 := n3_
       have HO215 := n4_
       have HO222 := n5_
       have HO225 := n6_
       have BK180 := n7_
       have HB := n8_
       clear n0_ n1_ n2_ n3_ n4_ n5_ n6_ n7_ n8_
       (try clear hb)
       (try clear hb2)
       (try clear hk)
       (try clear hi)
       (try clear ho0)
       refine hK.out _ _ ((blk_cell BK180.out 0).trans rfl) (fun hHeld => ?_)
       clear hK K
       refine norm_ (a' := ?_) ?_ ?_
       rotate_left
       ·show Act.put _ (some 31) _ = _
        simp only [Act.put, List.setIfInBounds_toArray, List.set_cons_zero, List.set_cons_succ, i64_w, i32_w]
        rfl
       refine pure_ (i := 4) (N := some 27) (v := ?_) (a' := ?_) #[true, true, true, true, true, false, false, false, false] rfl rfl (any_of HT_.out (by kernel_rfl)) (fun _ _ _ h => h) (Or.inl ⟨by rfl, ?_⟩) ?_ ?_
       rotate_left
       ·intro w'
        go_simp
        with_reducible rfl
       rotate_left
       ·simp only [Act.put, List.setIfInBounds_toArray, List.set_cons_zero, List.set_cons_succ, i64_w, i32_w]
        rfl
       refine pure_ (i := 5) (N := some 32) (v := ?_) (a' := ?_) #[true, true, true, true, true, true, false, false, false] rfl rfl (any_of HT_.out (by kernel_rfl)) (fun _ _ _ h => h) (Or.inl ⟨by rfl, ?_⟩) ?_ ?_
       rotate_left
       ·intro w'
        go_simp
        with_reducible rfl
       rotate_left
       ·simp only [Act.put, List.setIfInBounds_toArray, List.set_cons_zero, List.set_cons_succ, i64_w, i32_w]
        rfl
       refine pure_ (i := 6) (N := some 33) (v := ?_) (a' := ?_) #[true, true, true, true, true, true, true, false, false] rfl rfl (any_of HT_.out (by kernel_rfl)) (fun _ _ _ h => h) (Or.inl ⟨by rfl, ?_⟩) ?_ ?_
       rotate_left
       ·intro w'
        go_simp
        with_reducible rfl
       rotate_left
       ·simp only [Act.put, List.setIfInBounds_toArray, List.set_cons_zero, List.set_cons_succ, i64_w, i32_w]
        rfl
       refine pure_ (i := 7) (N := some 7) (v := ?_) (a' := ?_) #[true, true, true, true, true, true, true, true, false] rfl rfl (any_of HT_.out (by kernel_rfl)) (fun _ _ _ h => h) (Or.inl ⟨by rfl, ?_⟩) ?_ ?_
       rotate_left
       ·intro w'
        go_simp
        with_reducible rfl
       rotate_left
       ·simp only [Act.put, List.setIfInBounds_toArray, List.set_cons_zero, List.set_cons_succ, i64_w, i32_w]
        rfl
       refine pure_ (i := 8) (N := some 8) (v := ?_) (a' := ?_) #[true, true, true, true, true, true, true, true, true] rfl rfl (any_of HT_.out (by kernel_rfl)) (fun _ _ _ h => h) (Or.inl ⟨by rfl, ?_⟩) ?_ ?_
       rotate_left
       ·intro w'
        go_simp
        with_reducible rfl
       rotate_left
       ·simp only [Act.put, List.setIfInBounds_toArray, List.set_cons_zero, List.set_cons_succ, i64_w, i32_w]
        rfl
       refine done_ (done_of HT_.out (by kernel_rfl)) ?_
       try go_wp2_with (first | ((with_reducible refine gate_dst (N := 37) rfl ?_); (try (refine gate_guard (by rfl) ?_; dsimp only)); refine Kd.R_lit k52 _ 52 ?hg (N := 37) ?hd (xs := ([(⟨0, 0, 0, false⟩ : S52), (⟨2, 1, 0, false⟩ : S52)] : List (S52))) (inner := [.int .i64 0, .int .i64 0, .int .i64 0, .bool false, .int .i64 2, .int .i64 1, .int .i64 0, .bool false]) (ok := fun _ => True) (okp := fun _ => True) ?hr ?hp (fun _ hk => hk) trivial (Below.refl _ _) (Nat.le_refl _) (by simp) ?_; (case hd => rfl); (case hg => rfl); (case hr => first | (go_simp; done) | (go_simp; rfl)); (case hp => exact (Reps.c4 (show Kd.M k52 _ _ _ (⟨0, 0, 0, false⟩ : S52) [.int .i64 0, .int .i64 0, .int .i64 0, .bool false] from (k52_mkM _ _ _ (⟨0, 0, 0, false⟩ : S52) )) (Reps.c4 (show Kd.M k52 _ _ _ (⟨2, 1, 0, false⟩ : S52) [.int .i64 2, .int .i64 1, .int .i64 0, .bool false] from (k52_mkM _ _ _ (⟨2, 1, 0, false⟩ : S52) )) (Reps.none _ _)))); intro v228 w46 ho47 hb hg_ hnew_; clear hg_ hnew_; (first | rw [← Ny227.out] at ho47 | (simp only [Int.reduceToNat] at ho47; rw [← Ny227.out] at ho47)); have n0_ := Aside0.mk (Kd.N_elder' (by (with_reducible repeat (first | apply Kd.N_alloc | apply Kd.N_drewN | apply Kd.N_drew)); exact HO179.out) (Kd.R_base ho47) hb); have n1_ := Aside0.mk (Kd.N_elder' (by (with_reducible repeat (first | apply Kd.N_alloc | apply Kd.N_drewN | apply Kd.N_drew)); exact HO201.out) (Kd.R_base ho47) hb); have n2_ := Aside0.mk (Kd.R_elder' (by (with_reducible repeat (first | apply Kd.R_alloc | apply Kd.R_drewN | apply Kd.R_drew)); exact HO204.out) (Kd.R_base ho47) hb); have n3_ := Aside0.mk (Kd.R_below (by (with_reducible repeat (first | apply Kd.R_alloc | apply Kd.R_drewN | apply Kd.R_drew)); exact HO212.out) hb); have n4_ := Aside0.mk (Kd.R_elder' (by (with_reducible repeat (first | apply Kd.R_alloc | apply Kd.R_drewN | apply Kd.R_drew)); exact HO215.out) (Kd.R_base ho47) hb); have n5_ := Aside0.mk (Kd.R_below (by (with_reducible repeat (first | apply Kd.R_alloc | apply Kd.R_drewN | apply Kd.R_drew)); exact HO222.out) hb); have n6_ := Aside0.mk (Kd.R_elder' (by (with_reducible repeat (first | apply Kd.R_alloc | apply Kd.R_drewN | apply Kd.R_drew)); exact HO225.out) (Kd.R_base ho47) hb); have n7_ := Aside0.mk (Kd.R_lower (Kd.R_new' (Kd.R_new' (Kd.R_new' ho47 (Kd.R_lt (by (with_reducible repeat (first | apply Kd.R_alloc | apply Kd.R_drewN | apply Kd.R_drew)); exact HO204.out))) (Kd.R_lt (by (with_reducible repeat (first | apply Kd.R_alloc | apply Kd.R_drewN | apply Kd.R_drew)); exact HO215.out))) (Kd.R_lt (by (with_reducible repeat (first | apply Kd.R_alloc | apply Kd.R_drewN | apply Kd.R_drew)); exact HO225.out))) (below_size (by repeat (first | (with_reducible first | exact HB.out | apply below_alloc | apply pw_below_drewN | apply below_drew1 | refine below_set ?_ GE180.out) | exact HB.out)))); have n8_ := Aside0.mk (blk_below (g := gb180) (o := .cells #[.slice Ao22 t177.length co22] 24 (0, 0)) (by (with_reducible repeat (first | refine blk_drewN ?_ _ | refine blk_drew ?_ | refine blk_alloc ?_ _)); exact BK180.out) hb); have n9_ := Aside0.mk (below_step (by repeat (first | (with_reducible first | exact HB.out | apply below_alloc | apply pw_below_drewN | apply below_drew1 | refine below_set ?_ GE180.out) | exact HB.out)) hb); clear HO179; clear HO201; clear HO204; clear HO212; clear HO215; clear HO222; clear HO225; clear BK180; clear HB; have HO179 := n0_; have HO201 := n1_; have HO204 := n2_; have HO212 := n3_; have HO215 := n4_; have HO222 := n5_; have HO225 := n6_; have HO229 := n7_; have BK180 := n8_; have HB := n9_; clear n0_ n1_ n2_ n3_ n4_ n5_ n6_ n7_ n8_ n9_; clear hb ho47; obtain ⟨Ao48, co48, eo48⟩ := Kd.R_slice HO229.out; subst eo48) | ((with_reducible refine gate_callee (f := 8) rfl ?_); refine goesL_ (some 38) rfl rfl Try.func8 (by kernel_rfl) rfl #[.slice Ao38 t202.length co38, .slice Ao48 y227.length co48] rfl (by (try simp only [List.map_toArray, List.map_cons, List.map_nil]); first | done | rfl | (simp only [List.length_drop, List.length_take]; rfl)) ?_; (with_reducible refine (argosyref13_Same.calls k _ _ t202 _ _ y227 true _ ?side1 ?side2 ?side3 ?side4 A10.out).mono ?_); (case side1 => repeat (first | exact (Kd.R_reads' HO204.out).2.2 | (with_reducible refine Kd.C_alloc ?_ _) | (with_reducible refine Kd.C_drewN ?_ _) | (with_reducible refine Kd.C_drew ?_))); (case side2 => exact (Kd.R_reads' HO204.out).2.1); (case side3 => repeat (first | exact (Kd.R_reads' HO229.out).2.2 | (with_reducible refine Kd.C_alloc ?_ _) | (with_reducible refine Kd.C_drewN ?_ _) | (with_reducible refine Kd.C_drew ?_))); (case side4 => exact (Kd.R_reads' HO229.out).2.1); rintro e w' ⟨rfl, ⟨nd, rfl⟩⟩; refine ⟨_, rfl, ?_⟩; have hcz49_0 : w46.cell? ⟨gb180, 0, none⟩ = some (.slice Ao22 t177.length co22) := (blk_cell BK180.out 0).trans rfl; have hfz49_0 := blk_frozen BK180.out 0) | (go_at_call 9; (with_reducible refine (fact_Open.calls k _ _ t177 _ _ t202 t231 _ ?side1 ?side2 ?side3 ?side4 A14.out).mono ?_); (case side1 => repeat (first | exact (Kd.N_reads' HO179.out).2.2 | (with_reducible refine Kd.C_alloc ?_ _) | (with_reducible refine Kd.C_drewN ?_ _) | (with_reducible refine Kd.C_drew ?_))); (case side2 => exact (Kd.N_reads' HO179.out).2.1); (case side3 => repeat (first | exact (Kd.R_reads' HO204.out).2.2 | (with_reducible refine Kd.C_alloc ?_ _) | (with_reducible refine Kd.C_drewN ?_ _) | (with_reducible refine Kd.C_drew ?_))); (case side4 => exact (Kd.R_reads' HO204.out).2.1); rintro e w50 ⟨v232, rfl, ho0, hb⟩; have n0_ := Aside0.mk (Kd.N_elder' (by (with_reducible repeat (first | apply Kd.N_alloc | apply Kd.N_drewN | apply Kd.N_drew)); exact HO179.out) (Kd.R_base ho0) hb); have n1_ := Aside0.mk (Kd.N_elder' (by (with_reducible repeat (first | apply Kd.N_alloc | apply Kd.N_drewN | apply Kd.N_drew)); exact HO201.out) (Kd.R_base ho0) hb); have n2_ := Aside0.mk (Kd.R_below (by (with_reducible repeat (first | apply Kd.R_alloc | apply Kd.R_drewN | apply Kd.R_drew)); exact HO204.out) hb); have n3_ := Aside0.mk (Kd.R_below (by (with_reducible repeat (first | apply Kd.R_alloc | apply Kd.R_drewN | apply Kd.R_drew)); exact HO212.out) hb); have n4_ := Aside0.mk (Kd.R_below (by (with_reducible repeat (first | apply Kd.R_alloc | apply Kd.R_drewN | apply Kd.R_drew)); exact HO215.out) hb); have n5_ := Aside0.mk (Kd.R_below (by (with_reducible repeat (first | apply Kd.R_alloc | apply Kd.R_drewN | apply Kd.R_drew)); exact HO222.out) hb); have n6_ := Aside0.mk (Kd.R_below (by (with_reducible repeat (first | apply Kd.R_alloc | apply Kd.R_drewN | apply Kd.R_drew)); exact HO225.out) hb); have n7_ := Aside0.mk (Kd.R_below (by (with_reducible repeat (first | apply Kd.R_alloc | apply Kd.R_drewN | apply Kd.R_drew)); exact HO229.out) hb); have n8_ := Aside0.mk (Kd.R_lower ho0 (below_size (by repeat (first | (with_reducible first | exact HB.out | apply below_alloc | apply pw_below_drewN | apply below_drew1 | refine below_set ?_ GE180.out) | exact HB.out)))); have n9_ := Aside0.mk (blk_below (g := gb180) (o := .cells #[.slice Ao22 t177.length co22] 24 (0, 0)) (by (with_reducible repeat (first | refine blk_drewN ?_ _ | refine blk_drew ?_ | refine blk_alloc ?_ _)); exact BK180.out) hb); have n10_ := Aside0.mk (below_step (by repeat (first | (with_reducible first | exact HB.out | apply below_alloc | apply pw_below_drewN | apply below_drew1 | refine below_set ?_ GE180.out) | exact HB.out)) hb); clear HO179; clear HO201; clear HO204; clear HO212; clear HO215; clear HO222; clear HO225; clear HO229; clear BK180; clear HB; have HO179 := n0_; have HO201 := n1_; have HO204 := n2_; have HO212 := n3_; have HO215 := n4_; have HO222 := n5_; have HO225 := n6_; have HO229 := n7_; have HO233 := n8_; have BK180 := n9_; have HB := n10_; clear n0_ n1_ n2_ n3_ n4_ n5_ n6_ n7_ n8_ n9_ n10_; (try clear hb); (try clear hb2); (try clear hk); (try clear hi); (try clear ho0)) | ((with_reducible refine gate_dst (N := 52) rfl ?_); (try (refine gate_guard (by rfl) ?_; dsimp only)); refine Kd.R_lit k40 _ 40 ?hg (N := 52) ?hd (xs := ([(⟨1, true, 0⟩ : S40)] : List (S40))) (inner := [.int .i64 1, .bool true, .int .i64 0]) (ok := fun _ => True) (okp := fun _ => True) ?hr ?hp (fun _ hk => hk) trivial (Below.refl _ _) (Nat.le_refl _) (by simp) ?_; (case hd => rfl); (case hg => rfl); (case hr => first | (go_simp; done) | (go_simp; rfl)); (case hp => exact (Reps.c3 (show Kd.M k40 _ _ _ (⟨1, true, 0⟩ : S40) [.int .i64 1, .bool true, .int .i64 0] from (k40_mkM _ _ _ (⟨1, true, 0⟩ : S40) )) (Reps.none _ _))); intro v235 w51 ho52 hb hg_ hnew_; clear hg_ hnew_; (first | rw [← Ny234.out] at ho52 | (simp only [Int.reduceToNat] at ho52; rw [← Ny234.out] at ho52)); have n0_ := Aside0.mk (Kd.N_elder' (by (with_reducible repeat (first | apply Kd.N_alloc | apply Kd.N_drewN | apply Kd.N_drew)); exact HO179.out) (Kd.R_base ho52) hb); have n1_ := Aside0.mk (Kd.N_elder' (by (with_reducible repeat (first | apply Kd.N_alloc | apply Kd.N_drewN | apply Kd.N_drew)); exact HO201.out) (Kd.R_base ho52) hb); have n2_ := Aside0.mk (Kd.R_below (by (with_reducible repeat (first | apply Kd.R_alloc | apply Kd.R_drewN | apply Kd.R_drew)); exact HO204.out) hb); have n3_ := Aside0.mk (Kd.R_below (by (with_reducible repeat (first | apply Kd.R_alloc | apply Kd.R_drewN | apply Kd.R_drew)); exact HO212.out) hb); have n4_ := Aside0.mk (Kd.R_below (by (with_reducible repeat (first | apply Kd.R_alloc | apply Kd.R_drewN | apply Kd.R_drew)); exact HO215.out) hb); have n5_ := Aside0.mk (Kd.R_below (by (with_reducible repeat (first | apply Kd.R_alloc | apply Kd.R_drewN | apply Kd.R_drew)); exact HO222.out) hb); have n6_ := Aside0.mk (Kd.R_below (by (with_reducible repeat (first | apply Kd.R_alloc | apply Kd.R_drewN | apply Kd.R_drew)); exact HO225.out) hb); have n7_ := Aside0.mk (Kd.R_below (by (with_reducible repeat (first | apply Kd.R_alloc | apply Kd.R_drewN | apply Kd.R_drew)); exact HO229.out) hb); have n8_ := Aside0.mk (Kd.R_elder' (by (with_reducible repeat (first | apply Kd.R_alloc | apply Kd.R_drewN | apply Kd.R_drew)); exact HO233.out) (Kd.R_base ho52) hb); have n9_ := Aside0.mk (Kd.R_lower (Kd.R_new' ho52 (Kd.R_lt (by (with_reducible repeat (first | apply Kd.R_alloc | apply Kd.R_drewN | apply Kd.R_drew)); exact HO233.out))) (below_size (by repeat (first | (with_reducible first | exact HB.out | apply below_alloc | apply pw_below_drewN | apply below_drew1 | refine below_set ?_ GE180.out) | exact HB.out)))); have n10_ := Aside0.mk (blk_below (g := gb180) (o := .cells #[.slice Ao22 t177.length co22] 24 (0, 0)) (by (with_reducible repeat (first | refine blk_drewN ?_ _ | refine blk_drew ?_ | refine blk_alloc ?_ _)); exact BK180.out) hb); have n11_ := Aside0.mk (below_step (by repeat (first | (with_reducible first | exact HB.out | apply below_alloc | apply pw_below_drewN | apply below_drew1 | refine below_set ?_ GE180.out) | exact HB.out)) hb); clear HO179; clear HO201; clear HO204; clear HO212; clear HO215; clear HO222; clear HO225; clear HO229; clear HO233; clear BK180; clear HB; have HO179 := n0_; have HO201 := n1_; have HO204 := n2_; have HO212 := n3_; have HO215 := n4_; have HO222 := n5_; have HO225 := n6_; have HO229 := n7_; have HO233 := n8_; have HO236 := n9_; have BK180 := n10_; have HB := n11_; clear n0_ n1_ n2_ n3_ n4_ n5_ n6_ n7_ n8_ n9_ n10_ n11_; clear hb ho52; obtain ⟨Ao53, co53, eo53⟩ := Kd.R_slice HO233.out; subst eo53; obtain ⟨Ao54, co54, eo54⟩ := Kd.R_slice HO236.out; subst eo54) | (go_at_call 13; (with_reducible refine (argosyref13_SameKeys.calls k _ _ t231 _ _ y234 true _ ?side1 ?side2 ?side3 ?side4 A15.out).mono ?_); (case side1 => repeat (first | exact (Kd.R_reads' HO233.out).2.2 | (with_reducible refine Kd.C_alloc ?_ _) | (with_reducible refine Kd.C_drewN ?_ _) | (with_reducible refine Kd.C_drew ?_))); (case side2 => exact (Kd.R_reads' HO233.out).2.1); (case side3 => repeat (first | exact (Kd.R_reads' HO236.out).2.2 | (with_reducible refine Kd.C_alloc ?_ _) | (with_reducible refine Kd.C_drewN ?_ _) | (with_reducible refine Kd.C_drew ?_))); (case side4 => exact (Kd.R_reads' HO236.out).2.1); rintro e w' ⟨rfl, ⟨nd, rfl⟩⟩) | ((with_reducible refine gate_dst (N := 59) rfl ?_); (try (refine gate_guard (by rfl) ?_; dsimp only)); refine Kd.R_lit k52 _ 52 ?hg (N := 59) ?hd (xs := ([(⟨0, 0, 0, false⟩ : S52), (⟨2, 1, 1, false⟩ : S52)] : List (S52))) (inner := [.int .i64 0, .int .i64 0, .int .i64 0, .bool false, .int .i64 2, .int .i64 1, .int .i64 1, .bool false]) (ok := fun _ => True) (okp := fun _ => True) ?hr ?hp (fun _ hk => hk) trivial (Below.refl _ _) (Nat.le_refl _) (by simp) ?_; (case hd => rfl); (case hg => rfl); (case hr => first | (go_simp; done) | (go_simp; rfl)); (case hp => exact (Reps.c4 (show Kd.M k52 _ _ _ (⟨0, 0, 0, false⟩ : S52) [.int .i64 0, .int .i64 0, .int .i64 0, .bool false] from (k52_mkM _ _ _ (⟨0, 0, 0, false⟩ : S52) )) (Reps.c4 (show Kd.M k52 _ _ _ (⟨2, 1, 1, false⟩ : S52) [.int .i64 2, .int .i64 1, .int .i64 1, .bool false] from (k52_mkM _ _ _ (⟨2, 1, 1, false⟩ : S52) )) (Reps.none _ _)))); intro v239 w55 ho56 hb hg_ hnew_; clear hg_ hnew_; (first | rw [← Ny238.out] at ho56 | (simp only [Int.reduceToNat] at ho56; rw [← Ny238.out] at ho56)); have n0_ := Aside0.mk (Kd.N_elder' (by (with_reducible repeat (first | apply Kd.N_alloc | apply Kd.N_drewN | apply Kd.N_drew)); exact HO179.out) (Kd.R_base ho56) hb); have n1_ := Aside0.mk (Kd.N_elder' (by (with_reducible repeat (first | apply Kd.N_alloc | apply Kd.N_drewN | apply Kd.N_drew)); exact HO201.out) (Kd.R_base ho56) hb); have n2_ := Aside0.mk (Kd.R_elder' (by (with_reducible repeat (first | apply Kd.R_alloc | apply Kd.R_drewN | apply Kd.R_drew)); exact HO204.out) (Kd.R_base ho56) hb); have n3_ := Aside0.mk (Kd.R_below (by (with_reducible repeat (first | apply Kd.R_alloc | apply Kd.R_drewN | apply Kd.R_drew)); exact HO212.out) hb); have n4_ := Aside0.mk (Kd.R_elder' (by (with_reducible repeat (first | apply Kd.R_alloc | apply Kd.R_drewN | apply Kd.R_drew)); exact HO215.out) (Kd.R_base ho56) hb); have n5_ := Aside0.mk (Kd.R_below (by (with_reducible repeat (first | apply Kd.R_alloc | apply Kd.R_drewN | apply Kd.R_drew)); exact HO222.out) hb); have n6_ := Aside0.mk (Kd.R_elder' (by (with_reducible repeat (first | apply Kd.R_alloc | apply Kd.R_drewN | apply Kd.R_drew)); exact HO225.out) (Kd.R_base ho56) hb); have n7_ := Aside0.mk (Kd.R_elder' (by (with_reducible repeat (first | apply Kd.R_alloc | apply Kd.R_drewN | apply Kd.R_drew)); exact HO229.out) (Kd.R_base ho56) hb); have n8_ := Aside0.mk (Kd.R_below (by (with_reducible repeat (first | apply Kd.R_alloc | apply Kd.R_drewN | apply Kd.R_drew)); exact HO233.out) hb); have n9_ := Aside0.mk (Kd.R_below (by (with_reducible repeat (first | apply Kd.R_alloc | apply Kd.R_drewN | apply Kd.R_drew)); exact HO236.out) hb); have n10_ := Aside0.mk (Kd.R_lower (Kd.R_new' (Kd.R_new' (Kd.R_new' (Kd.R_new' ho56 (Kd.R_lt (by (with_reducible repeat (first | apply Kd.R_alloc | apply Kd.R_drewN | apply Kd.R_drew)); exact HO204.out))) (Kd.R_lt (by (with_reducible repeat (first | apply Kd.R_alloc | apply Kd.R_drewN | apply Kd.R_drew)); exact HO215.out))) (Kd.R_lt (by (with_reducible repeat (first | apply Kd.R_alloc | apply Kd.R_drewN | apply Kd.R_drew)); exact HO225.out))) (Kd.R_lt (by (with_reducible repeat (first | apply Kd.R_alloc | apply Kd.R_drewN | apply Kd.R_drew)); exact HO229.out))) (below_size (by repeat (first | (with_reducible first | exact HB.out | apply below_alloc | apply pw_below_drewN | apply below_drew1 | refine below_set ?_ GE180.out) | exact HB.out)))); have n11_ := Aside0.mk (blk_below (g := gb180) (o := .cells #[.slice Ao22 t177.length co22] 24 (0, 0)) (by (with_reducible repeat (first | refine blk_drewN ?_ _ | refine blk_drew ?_ | refine blk_alloc ?_ _)); exact BK180.out) hb); have n12_ := Aside0.mk (below_step (by repeat (first | (with_reducible first | exact HB.out | apply below_alloc | apply pw_below_drewN | apply below_drew1 | refine below_set ?_ GE180.out) | exact HB.out)) hb); clear HO179; clear HO201; clear HO204; clear HO212; clear HO215; clear HO222; clear HO225; clear HO229; clear HO233; clear HO236; clear BK180; clear HB; have HO179 := n0_; have HO201 := n1_; have HO204 := n2_; have HO212 := n3_; have HO215 := n4_; have HO222 := n5_; have HO225 := n6_; have HO229 := n7_; have HO233 := n8_; have HO236 := n9_; have HO240 := n10_; have BK180 := n11_; have HB := n12_; clear n0_ n1_ n2_ n3_ n4_ n5_ n6_ n7_ n8_ n9_ n10_ n11_ n12_; clear hb ho56; obtain ⟨Ao57, co57, eo57⟩ := Kd.R_slice HO240.out; subst eo57) | (go_at_call 8; (with_reducible refine (argosyref13_Same.calls k _ _ t213 _ _ y238 true _ ?side1 ?side2 ?side3 ?side4 A17.out).mono ?_); (case side1 => repeat (first | exact (Kd.R_reads' HO215.out).2.2 | (with_reducible refine Kd.C_alloc ?_ _) | (with_reducible refine Kd.C_drewN ?_ _) | (with_reducible refine Kd.C_drew ?_))); (case side2 => exact (Kd.R_reads' HO215.out).2.1); (case side3 => repeat (first | exact (Kd.R_reads' HO240.out).2.2 | (with_reducible refine Kd.C_alloc ?_ _) | (with_reducible refine Kd.C_drewN ?_ _) | (with_reducible refine Kd.C_drew ?_))); (case side4 => exact (Kd.R_reads' HO240.out).2.1); rintro e w' ⟨rfl, ⟨nd, rfl⟩⟩))
       go_ret
       exact ⟨by first | rfl | (simp [errW_none, errW_some] <;> rfl) | (simp [*, errW_none, errW_some] <;> rfl), by repeat (first | (with_reducible first | exact HB.out | apply below_alloc | apply pw_below_drewN | apply below_drew1 | refine below_set ?_ GE180.out) | exact HB.out)⟩
      ·rw [if_neg c19] at H
       have c19b0 : (t216 == 0) = false := beq_eq_false_iff_ne.mpr c19
       have c19b1 : (t216 != 0) = true := bne_iff_ne.mpr c19
       obtain rfl := Option.some.inj H
       exact absurd HR0.out (by decide)
     ·replace c18 := Bool.eq_false_iff.mpr c18
      subst c18
      have H1 : (some false) = some r := by rw [if_neg (show ¬ (false = true) by decide)] at H; exact H
      clear H
      have H := H1
      clear H1
      obtain rfl := Option.some.inj H
      exact absurd HR0.out (by decide)
    ·replace c16 := Bool.eq_false_iff.mpr c16
     subst c16
     have H1 : (some false) = some r := by rw [if_neg (show ¬ (false = true) by decide)] at H; exact H
     clear H
     have H := H1
     clear H1
     obtain rfl := Option.some.inj H
     exact absurd HR0.out (by decide)
   ·rw [if_neg c13] at H
    have c13b0 : (t206 == 0) = false := beq_eq_false_iff_ne.mpr c13
    have c13b1 : (t206 != 0) = true := bne_iff_ne.mpr c13
    obtain rfl := Option.some.inj H
    exact absurd HR0.out (by decide)
  ·rw [if_neg c12] at H
   have c12b0 : (t205 == 3) = false := beq_eq_false_iff_ne.mpr c12
   have c12b1 : (t205 != 3) = true := bne_iff_ne.mpr c12
   obtain rfl := Option.some.inj H
   exact absurd HR0.out (by decide)
 ·replace c11 := Bool.eq_false_iff.mpr c11
  subst c11
  have H1 : (some false) = some r := by rw [if_neg (show ¬ (false = true) by decide)] at H; exact H
  clear H
  have H := H1
  clear H1
  obtain rfl := Option.some.inj H
  exact absurd HR0.out (by decide)
theorem argosylaw13_lives.at_ : argosylaw13_lives.f 80 = some true := by decide +kernel
theorem argosylaw13_lives.up_ : ∀ (m k : Nat) (r : Bool), argosylaw13_lives.f k = some r → argosylaw13_lives.f (k + m) = some r
 | 0, _, _, h => h
 | m + 1, k, r, h => argosylaw13_lives.mono _ _ (argosylaw13_lives.up_ m k r h)
theorem argosylaw13_lives.only_ {k : Nat} {r : Bool} (h : argosylaw13_lives.f k = some r) : r = true := by
 have a := argosylaw13_lives.up_ 80 k r h
 have b := argosylaw13_lives.up_ k 80 true argosylaw13_lives.at_
 rw [Nat.add_comm] at b
 exact Option.some.inj (a.symm.trans b)
theorem argosylaw13_lives.calls (k : Nat)  (r : Bool) (w : World) (h : argosylaw13_lives.f k  = some r) :
  Calls Try.prog 6 #[] w fun e w' => e = .returned (.bool r) ∧ Below w.heap.size w w' := argosylaw13_lives.calls_ k r w (argosylaw13_lives.only_ h) h
end Go.Proofs.Ytgilgicanggleab.F
end

section
namespace Go.Proofs.Ytgilgicanggleab.F
open Go.RowKit Go.Proofs.YtgilgicanggleabW.PrintWords Go.Proofs.YtgilgicanggleabW.PrintLast Go.Proofs.YtgilgicanggleabW.PrintMore
attribute [local go_sem] max2_int min2_int max_two min_two max_three min_three max_four min_four
set_option linter.unusedVariables false
set_option linter.unusedSimpArgs false
mutual
def argosylaw13_FactOpens.j0 : Nat → List (S52) → Bool → List (S44) → Option (Bool)
 | 0, _, _, _ => none
 | k + 1, x1, x19, x267000 => if x19 = true then ((argosylaw13_lives.f k).bind fun t268 => (some t268)) else ((fact_Open.f k x267000 x1).bind fun t269 => (argosylaw13_FactOpens.l0 k x1 t269 0 x267000))
def argosylaw13_FactOpens.l0 : Nat → List (S52) → List (S40) → Int → List (S44) → Option (Bool)
 | 0, _, _, _, _ => none
 | k + 1, x1, x5, x6, x267000 => if x6 < (x5.length : Int) then (if 0 ≤ x6 then (if (rd_T40 x5 x6).f1 = true then (argosylaw13_FactOpens.j2 k x1 x5 x6 (([5, 6] : List Int)) x267000 ((rd_T40 x5 x6).f0) ((rd_T40 x5 x6).f1) ((rd_T40 x5 x6).f2)) else (argosylaw13_FactOpens.j2 k x1 x5 x6 (([2, 3] : List Int)) x267000 ((rd_T40 x5 x6).f0) ((rd_T40 x5 x6).f1) ((rd_T40 x5 x6).f2))) else (none)) else ((argosylaw13_lives.f k).bind fun t272 => (some t272))
def argosylaw13_FactOpens.j2 : Nat → List (S52) → List (S40) → Int → List Int → List (S44) → Int → Bool → Int → Option (Bool)
 | 0, _, _, _, _, _, _, _, _ => none
 | k + 1, x1, x5, x6, x8, x267000, x275000, x275001, x275002 => argosylaw13_FactOpens.l1 k x1 x5 x6 x8 0 x267000 x275000 x275001 x275002
def argosylaw13_FactOpens.l1 : Nat → List (S52) → List (S40) → Int → List Int → Int → List (S44) → Int → Bool → Int → Option (Bool)
 | 0, _, _, _, _, _, _, _, _, _ => none
 | k + 1, x1, x5, x6, x8, x9, x267000, x275000, x275001, x275002 => if x9 < 2 then (if 0 ≤ x9 then (if x9 < (x8.length : Int) then ((fact_Apply.f x267000 x1 (rd x8 x9) x275000 x275002 (([1] : List Int))).bind fun bt285 => (if bt285.2 = 14 then (if (rd x8 x9) = 6 then (argosylaw13_FactOpens.j4 k x1 x5 x6 x8 x9 bt285.1 bt285.2 (x275002 == 3) x267000 x275000 x275001 x275002) else (argosylaw13_FactOpens.j4 k x1 x5 x6 x8 x9 bt285.1 bt285.2 false x267000 x275000 x275001 x275002)) else (argosylaw13_FactOpens.j4 k x1 x5 x6 x8 x9 bt285.1 bt285.2 false x267000 x275000 x275001 x275002))) else (none)) else (none)) else (argosylaw13_FactOpens.l0 k x1 x5 (wrap64 (x6 + 1)) x267000)
def argosylaw13_FactOpens.j4 : Nat → List (S52) → List (S40) → Int → List Int → Int → List (S52) → Int → Bool → List (S44) → Int → Bool → Int → Option (Bool)
 | 0, _, _, _, _, _, _, _, _, _, _, _, _ => none
 | k + 1, x1, x5, x6, x8, x9, x10, x11, x71, x267000, x275000, x275001, x275002 => if x71 = true then (argosylaw13_FactOpens.l1 k x1 x5 x6 x8 (wrap64 (x9 + 1)) x267000 x275000 x275001 x275002) else (if x11 = 0 then ((fact_Open.f k x267000 x10).bind fun t290 => (if (t290.length : Int) = (wrap64 ((x5.length : Int) - 1)) then (argosylaw13_FactOpens.l1 k x1 x5 x6 x8 (wrap64 (x9 + 1)) x267000 x275000 x275001 x275002) else (some false))) else (some false))
end
def argosylaw13_FactOpens.f (k : Nat) (l0_0 : List (S44)) (l1 : List (S52)) : Option (Bool) := (argosylaw13_small.f k l0_0).bind fun t267 => (if t267 = true then (argosylaw13_FactOpens.j0 k l1 (decide ((l1.length : Int) > 100)) l0_0) else (argosylaw13_FactOpens.j0 k l1 true l0_0))
def argosylaw13_FactOpens.T14 : Bool × List (List Nat × List Nat) := (true, [([], []), ([], []), ([], []), ([], []), ([2, 3], [2, 3]), ([4], [4]), ([], []), ([6], [6]), ([], []), ([8], [8]), ([], []), ([5, 7, 9, 10], [5, 7, 9, 10]), ([0, 1, 11], [0, 1, 11]), ([12], [12]), ([13], [13]), ([13], [13]), ([14, 12, 0, 1, 2, 3, 4, 5, 6, 7, 8, 9, 10, 11, 12, 13, 14], [14]), ([15, 16, 0, 1, 2, 3, 4, 5, 6, 7, 8, 9, 10, 11, 12, 13, 14, 15, 16], [15])])
def argosylaw13_FactOpens.B14 : List Nat := [0, 0, 0, 0, 12, 28, 0, 64, 0, 256, 0, 2044, 4095, 8191, 16383, 16383, 32767, 131071]
theorem argosylaw13_FactOpens.tab14 : rtab .any (opsOf Try.f4 14) = argosylaw13_FactOpens.T14 := by kernel_rfl
theorem argosylaw13_FactOpens.bits14 : waitsOk argosylaw13_FactOpens.T14.2 argosylaw13_FactOpens.B14 = true := by kernel_rfl
set_option maxHeartbeats 8000000 in
set_option maxRecDepth 100000 in
theorem argosylaw13_FactOpens.calls (k : Nat) (A0_0 : Option Addr) (c0_0 : Nat) (l0_0 : List (S44)) (A1 : Option Addr) (c1 : Nat) (l1 : List (S52)) (r : Bool) (w : World) (hr0_0 : Kd.C k44 w A0_0 l0_0.length l0_0) (hc0_0 : l0_0.length ≤ c0_0) (hr1 : Kd.C k52 w A1 l1.length l1) (hc1 : l1.length ≤ c1) (h : argosylaw13_FactOpens.f k l0_0 l1 = some r) :
  Calls Try.prog 4 #[.agg #[.slice A0_0 l0_0.length c0_0], .slice A1 l1.length c1] w fun e w' => e = .returned (.bool r) ∧ Below w.heap.size w w' := by
 have hu24 := Try.underlying24
 have hu40 := Try.underlying40
 have hu29 := Try.underlying29
 have HR0_0 := Aside0.mk hr0_0
 have HC0_0 := Aside0.mk hc0_0
 clear hr0_0 hc0_0
 have HR1 := Aside0.mk hr1
 have HC1 := Aside0.mk hc1
 clear hr1 hc1
 have HB := Aside0.mk (Below.refl w.heap.size w)
 have H : ((argosylaw13_small.f k l0_0).bind fun t267 => (if t267 = true then (argosylaw13_FactOpens.j0 k l1 (decide ((l1.length : Int) > 100)) l0_0) else (argosylaw13_FactOpens.j0 k l1 true l0_0))) = some r := h
 clear h
 have HC3 := Aside0.mk H
 clear H
 go_enter Try.func4, Try.ntmps4
 go_upto_region 1 with (first | ((with_reducible refine gate_dst (N := 2) rfl ?_); (try (refine gate_guard (by rfl) ?_; dsimp only)); refine box_event ?hg (N := 2) ?hd (cs := #[.slice A0_0 l0_0.length c0_0]) (t := 24) ?hr ?_; (case hd => rfl); (case hg => rfl); (case hr => first | (go_simp; done) | (go_simp; rfl)); intro gb266 hg w4 hbox hb; have n0_ := Aside0.mk (below_step (by repeat (first | (with_reducible first | exact HB.out | apply below_alloc | apply pw_below_drewN | apply below_drew1) | exact HB.out)) hb); have n1_ := Aside0.mk (hbox); have n2_ := Aside0.mk ((by rw [hg]; exact (below_size (by repeat (first | (with_reducible first | exact HB.out | apply below_alloc | apply pw_below_drewN | apply below_drew1) | exact HB.out))) : w.heap.size ≤ gb266)); have n3_ := Aside0.mk ((by rw [hg]; exact (below_size (by repeat (first | (with_reducible first | exact HB.out | apply below_alloc | apply pw_below_drewN | apply below_drew1) | exact HB.out))) : w.heap.size ≤ gb266)); clear HB; have HB := n0_; have BK266 := n1_; have GW266 := n2_; have GE266 := n3_; clear n0_ n1_ n2_ n3_; clear hb hbox hg))
 (try simp only [Act.put, List.setIfInBounds_toArray, List.set_cons_zero, List.set_cons_succ])
 go_cut [19] (fun v19 wc => ∃ (kq : Nat) (x19_2 : Bool), v19 = .bool x19_2 ∧ Aside0 (argosylaw13_FactOpens.j0 kq l1 x19_2 l0_0 = some r) ∧ Aside0 (kq ≤ k) ∧ Aside0 (wc.heap[gb266]? = some (.cells #[(.slice A0_0 l0_0.length c0_0)] 24 (0, 0))) ∧ Aside0 (Below w.heap.size w wc))
 case first =>
  have H := HC3.out
  clear HC3
  replace H := Option.bind_eq_some_iff.mp H
  obtain ⟨t267, A50, H⟩ := H
  replace H : (if t267 = true then (argosylaw13_FactOpens.j0 k l1 (decide ((l1.length : Int) > 100)) l0_0) else (argosylaw13_FactOpens.j0 k l1 true l0_0)) = some r := H
  have A5 := Aside0.mk A50
  clear A50
  by_cases c6 : t267 = true
  ·subst c6
   have H1 : (argosylaw13_FactOpens.j0 k l1 (decide ((l1.length : Int) > 100)) l0_0) = some r := by rw [if_pos rfl] at H; exact H
   clear H
   have H := H1
   clear H1
   have H' := Aside0.mk H
   clear H
   have hcz7_0 : w4.cell? ⟨gb266, 0, none⟩ = some (.slice A0_0 l0_0.length c0_0) := (blk_cell BK266.out 0).trans rfl
   have hfz7_0 := blk_frozen BK266.out 0
   go_wp2_with (first | ((with_reducible refine gate_callee (f := 5) rfl ?_); refine goesL_ (some 13) rfl rfl Try.func5 (by kernel_rfl) rfl #[.agg #[.slice A0_0 l0_0.length c0_0]] rfl (by (try simp only [List.map_toArray, List.map_cons, List.map_nil]); first | done | rfl | (simp only [List.length_drop, List.length_take]; rfl)) ?_; (with_reducible refine (argosylaw13_small.calls k _ _ l0_0 true _ ?side1 ?side2 A5.out).mono ?_); (case side1 => repeat (first | exact (Kd.C_below HR0_0.out HB.out) | (with_reducible refine Kd.C_alloc ?_ _) | (with_reducible refine Kd.C_drewN ?_ _) | (with_reducible refine Kd.C_drew ?_))); (case side2 => exact HC0_0.out); rintro e w8 ⟨rfl, hb⟩; refine ⟨_, rfl, ?_⟩; have n0_ := Aside0.mk (blk_below (g := gb266) (o := .cells #[.slice A0_0 l0_0.length c0_0] 24 (0, 0)) (by (with_reducible repeat (first | refine blk_drewN ?_ _ | refine blk_drew ?_ | refine blk_alloc ?_ _)); exact BK266.out) hb); have n1_ := Aside0.mk (below_step (by repeat (first | (with_reducible first | exact HB.out | apply below_alloc | apply pw_below_drewN | apply below_drew1 | refine below_set ?_ GE266.out) | exact HB.out)) hb); clear BK266; clear HB; have BK266 := n0_; have HB := n1_; clear n0_ n1_; (try clear hb); (try clear hb2); (try clear hk); (try clear hi)))
   go_meet
   case rel => exact ⟨_, (decide ((l1.length : Int) > 100)), (by first | rfl | (simp; done) | (simp [*]; done)), H', ⟨by first | omega | exact Nat.le_refl _⟩, ⟨by (with_reducible repeat (first | refine blk_drewN ?_ _ | refine blk_drew ?_ | refine blk_alloc ?_ _)); exact BK266.out⟩, ⟨by repeat (first | (with_reducible first | exact HB.out | apply below_alloc | apply pw_below_drewN | apply below_drew1 | refine below_set ?_ GE266.out) | exact HB.out)⟩⟩
  ·replace c6 := Bool.eq_false_iff.mpr c6
   subst c6
   have H1 : (argosylaw13_FactOpens.j0 k l1 true l0_0) = some r := by rw [if_neg (show ¬ (false = true) by decide)] at H; exact H
   clear H
   have H := H1
   clear H1
   have H' := Aside0.mk H
   clear H
   have hcz9_0 : w4.cell? ⟨gb266, 0, none⟩ = some (.slice A0_0 l0_0.length c0_0) := (blk_cell BK266.out 0).trans rfl
   have hfz9_0 := blk_frozen BK266.out 0
   go_wp2_with (first | ((with_reducible refine gate_callee (f := 5) rfl ?_); refine goesL_ (some 13) rfl rfl Try.func5 (by kernel_rfl) rfl #[.agg #[.slice A0_0 l0_0.length c0_0]] rfl (by (try simp only [List.map_toArray, List.map_cons, List.map_nil]); first | done | rfl | (simp only [List.length_drop, List.length_take]; rfl)) ?_; (with_reducible refine (argosylaw13_small.calls k _ _ l0_0 false _ ?side1 ?side2 A5.out).mono ?_); (case side1 => repeat (first | exact (Kd.C_below HR0_0.out HB.out) | (with_reducible refine Kd.C_alloc ?_ _) | (with_reducible refine Kd.C_drewN ?_ _) | (with_reducible refine Kd.C_drew ?_))); (case side2 => exact HC0_0.out); rintro e w10 ⟨rfl, hb⟩; refine ⟨_, rfl, ?_⟩; have n0_ := Aside0.mk (blk_below (g := gb266) (o := .cells #[.slice A0_0 l0_0.length c0_0] 24 (0, 0)) (by (with_reducible repeat (first | refine blk_drewN ?_ _ | refine blk_drew ?_ | refine blk_alloc ?_ _)); exact BK266.out) hb); have n1_ := Aside0.mk (below_step (by repeat (first | (with_reducible first | exact HB.out | apply below_alloc | apply pw_below_drewN | apply below_drew1 | refine below_set ?_ GE266.out) | exact HB.out)) hb); clear BK266; clear HB; have BK266 := n0_; have HB := n1_; clear n0_ n1_; (try clear hb); (try clear hb2); (try clear hk); (try clear hi)))
   go_meet
   case rel => exact ⟨_, (true), (by first | rfl | (simp; done) | (simp [*]; done)), H', ⟨by first | omega | exact Nat.le_refl _⟩, ⟨by (with_reducible repeat (first | refine blk_drewN ?_ _ | refine blk_drew ?_ | refine blk_alloc ?_ _)); exact BK266.out⟩, ⟨by repeat (first | (with_reducible first | exact HB.out | apply below_alloc | apply pw_below_drewN | apply below_drew1 | refine below_set ?_ GE266.out) | exact HB.out)⟩⟩
 case rest =>
  clear HC3
  try clear c1
  try clear p2
  try clear c4
  try clear c5
  try clear c6
  try clear hcz7_0
  try clear hcz9_0
  try clear hfz7_0
  try clear hfz9_0
  obtain ⟨kq, x19_2, rfl, HA, HJ2, BK266, HB⟩ := hcut
  cases kq with
  | zero => exact absurd HA.out (by simp [argosylaw13_FactOpens.j0])
  | succ kj2 =>
   have H := HA.out
   clear HA
   simp only [argosylaw13_FactOpens.j0] at H
   by_cases c11 : x19_2 = true
   ·subst c11
    have H1 : ((argosylaw13_lives.f kj2).bind fun t268 => (some t268)) = some r := by rw [if_pos rfl] at H; exact H
    clear H
    have H := H1
    clear H1
    replace H := Option.bind_eq_some_iff.mp H
    obtain ⟨t268, A120, H⟩ := H
    replace H : (some t268) = some r := H
    have A12 := Aside0.mk A120
    clear A120
    obtain rfl := Option.some.inj H
    go_wp2_with (first | ((with_reducible refine gate_callee (f := 6) rfl ?_); refine goesL_ (some 20) rfl rfl Try.func6 (by kernel_rfl) rfl #[] rfl (by (try simp only [List.map_toArray, List.map_cons, List.map_nil]); first | done | rfl | (simp only [List.length_drop, List.length_take]; rfl)) ?_; (with_reducible refine (argosylaw13_lives.calls kj2  t268 _ A12.out).mono ?_); rintro e w13 ⟨rfl, hb⟩; refine ⟨_, rfl, ?_⟩; have n0_ := Aside0.mk (blk_below (g := gb266) (o := .cells #[.slice A0_0 l0_0.length c0_0] 24 (0, 0)) (by (with_reducible repeat (first | refine blk_drewN ?_ _ | refine blk_drew ?_ | refine blk_alloc ?_ _)); exact BK266.out) hb); have n1_ := Aside0.mk (below_step (by repeat (first | (with_reducible first | exact HB.out | apply below_alloc | apply pw_below_drewN | apply below_drew1 | refine below_set ?_ GE266.out) | exact HB.out)) hb); clear BK266; clear HB; have BK266 := n0_; have HB := n1_; clear n0_ n1_; (try clear hb); (try clear hb2); (try clear hk); (try clear hi)))
    go_ret
    exact ⟨by first | rfl | (simp [errW_none, errW_some] <;> rfl) | (simp [*, errW_none, errW_some] <;> rfl), by repeat (first | (with_reducible first | exact HB.out | apply below_alloc | apply pw_below_drewN | apply below_drew1 | refine below_set ?_ GE266.out) | exact HB.out)⟩
   ·replace c11 := Bool.eq_false_iff.mpr c11
    subst c11
    have H1 : ((fact_Open.f kj2 l0_0 l1).bind fun t269 => (argosylaw13_FactOpens.l0 kj2 l1 t269 0 l0_0)) = some r := by rw [if_neg (show ¬ (false = true) by decide)] at H; exact H
    clear H
    have H := H1
    clear H1
    replace H := Option.bind_eq_some_iff.mp H
    obtain ⟨t269, A140, H⟩ := H
    replace H : (argosylaw13_FactOpens.l0 kj2 l1 t269 0 l0_0) = some r := H
    have A14 := Aside0.mk A140
    clear A140
    have H' := Aside0.mk H
    clear H
    have hcz15_0 : wc.cell? ⟨gb266, 0, none⟩ = some (.slice A0_0 l0_0.length c0_0) := (blk_cell BK266.out 0).trans rfl
    have hfz15_0 := blk_frozen BK266.out 0
    go_wp2_with (first | ((with_reducible refine gate_callee (f := 9) rfl ?_); refine goesL_ (some 23) rfl rfl Try.func9 (by kernel_rfl) rfl #[.agg #[.slice A0_0 l0_0.length c0_0], .slice A1 l1.length c1] rfl (by (try simp only [List.map_toArray, List.map_cons, List.map_nil]); first | done | rfl | (simp only [List.length_drop, List.length_take]; rfl)) ?_; (with_reducible refine (fact_Open.calls kj2 _ _ l0_0 _ _ l1 t269 _ ?side1 ?side2 ?side3 ?side4 A14.out).mono ?_); (case side1 => repeat (first | exact (Kd.C_below HR0_0.out HB.out) | (with_reducible refine Kd.C_alloc ?_ _) | (with_reducible refine Kd.C_drewN ?_ _) | (with_reducible refine Kd.C_drew ?_))); (case side2 => exact HC0_0.out); (case side3 => repeat (first | exact (Kd.C_below HR1.out HB.out) | (with_reducible refine Kd.C_alloc ?_ _) | (with_reducible refine Kd.C_drewN ?_ _) | (with_reducible refine Kd.C_drew ?_))); (case side4 => exact HC1.out); rintro e w16 ⟨v270, rfl, ho0, hb⟩; refine ⟨_, rfl, ?_⟩; have n0_ := Aside0.mk (Kd.R_lower ho0 (below_size (by repeat (first | (with_reducible first | exact HB.out | apply below_alloc | apply pw_below_drewN | apply below_drew1 | refine below_set ?_ GE266.out) | exact HB.out)))); have n1_ := Aside0.mk (blk_below (g := gb266) (o := .cells #[.slice A0_0 l0_0.length c0_0] 24 (0, 0)) (by (with_reducible repeat (first | refine blk_drewN ?_ _ | refine blk_drew ?_ | refine blk_alloc ?_ _)); exact BK266.out) hb); have n2_ := Aside0.mk (below_step (by repeat (first | (with_reducible first | exact HB.out | apply below_alloc | apply pw_below_drewN | apply below_drew1 | refine below_set ?_ GE266.out) | exact HB.out)) hb); clear BK266; clear HB; have HO271 := n0_; have BK266 := n1_; have HB := n2_; clear n0_ n1_ n2_; (try clear hb); (try clear hb2); (try clear hk); (try clear hi); (try clear ho0)))
    go_loopg [6] kj2 (fun kq v6 w' => ∃ (x6_2 : Int), v6 = .int .i64 x6_2 ∧ Aside0 (argosylaw13_FactOpens.l0 kq l1 t269 x6_2 l0_0 = some r) ∧ Aside0 (kq ≤ kj2) ∧ Aside0 (Kd.R k40 40 w' w.heap.size (fun _ => True) v270 t269) ∧ Aside0 (w'.heap[gb266]? = some (.cells #[(.slice A0_0 l0_0.length c0_0)] 24 (0, 0))) ∧ Aside0 (Below w.heap.size w w'))
    case atStart => exact ⟨(0), (by first | rfl | (simp; done) | (simp [*]; done)), H', ⟨Nat.le_refl _⟩, ⟨by (with_reducible repeat (first | apply Kd.R_alloc | apply Kd.R_drewN | apply Kd.R_drew)); exact HO271.out⟩, ⟨by (with_reducible repeat (first | refine blk_drewN ?_ _ | refine blk_drew ?_ | refine blk_alloc ?_ _)); exact BK266.out⟩, ⟨by repeat (first | (with_reducible first | exact HB.out | apply below_alloc | apply pw_below_drewN | apply below_drew1 | refine below_set ?_ GE266.out) | exact HB.out)⟩⟩
    case round =>
     clear H'
     try clear c1
     try clear p2
     try clear c4
     try clear c5
     try clear c6
     try clear c9
     try clear c11
     try clear hcz15_0
     try clear hcz7_0
     try clear hcz9_0
     try clear hfz15_0
     try clear hfz7_0
     try clear hfz9_0
     try clear p2
     obtain ⟨x6_2, rfl, HA, HK2, HO_5, BK266, HB⟩ := hrel
     cases gk with
     | zero => exact absurd HA.out (by simp [argosylaw13_FactOpens.l0])
     | succ k2 =>
      have H := HA.out
      clear HA
      simp only [argosylaw13_FactOpens.l0] at H
      by_cases c17 : x6_2 < (t269.length : Int)
      ·rw [if_pos c17] at H
       have c17b0 : decide (x6_2 < (t269.length : Int)) = true := decide_eq_true c17
       clear c17
       by_cases c18 : 0 ≤ x6_2
       ·rw [if_pos c18] at H
        have c18b0 : decide (0 ≤ x6_2) = true := decide_eq_true c18
        clear c18
        obtain ⟨y275, hy275⟩ : ∃ y_ : List Int, y_ = (([2, 3] : List Int)) := ⟨_, rfl⟩
        replace H : (if (rd_T40 t269 x6_2).f1 = true then (argosylaw13_FactOpens.j2 k2 l1 t269 x6_2 (([5, 6] : List Int)) l0_0 ((rd_T40 t269 x6_2).f0) ((rd_T40 t269 x6_2).f1) ((rd_T40 t269 x6_2).f2)) else (argosylaw13_FactOpens.j2 k2 l1 t269 x6_2 y275 l0_0 ((rd_T40 t269 x6_2).f0) ((rd_T40 t269 x6_2).f1) ((rd_T40 t269 x6_2).f2))) = some r := by first | (rw [hy275]; with_reducible exact H) | (have H2_ := (Option.bind_some _ _).symm.trans H; rw [hy275]; with_reducible exact H2_) | (have H2_ := (Option.bind_some _ _).symm.trans H; with_reducible exact H2_) | with_reducible exact H | (rw [hy275]; exact H) | exact H
        have Ny275 := Aside0.mk hy275
        clear hy275
        have HC19 := Aside0.mk H
        clear H
        obtain ⟨Ao20, co20, eo20⟩ := Kd.R_slice HO_5.out
        subst eo20
        have p273 : 0 ≤ (x6_2 : Int) := of_decide_eq_true (by first | (with_reducible assumption) | assumption)
        have q273 : x6_2 < (t269.length : Int) := of_decide_eq_true (by first | (with_reducible assumption) | assumption)
        obtain ⟨ad273, e273, hx273_0, hx273_1, hx273_2⟩ := at_T40 (Kd.R_reads' HO_5.out).2.2 x6_2 p273 q273
        cases e273
        replace p273 := eq_true p273
        replace q273 := eq_true q273
        go_upto_if 36 with (first | ((with_reducible refine gate_dst (N := 7) rfl ?_); (try (refine gate_guard (by rfl) ?_; dsimp only)); refine box_event ?hg (N := 7) ?hd (cs := #[.int .i64 0, .bool false, .int .i64 0]) (t := 40) ?hr ?_; (case hd => rfl); (case hg => rfl); (case hr => first | (go_simp; done) | (go_simp; rfl)); intro gb274 hg w21 hbox hb; have n0_ := Aside0.mk (Kd.R_below (Kd.R_elderB (by (with_reducible repeat (first | apply Kd.R_alloc | apply Kd.R_drewN | apply Kd.R_drew)); exact HO_5.out) gb274 (Nat.le_of_eq hg.symm)) hb); have n1_ := Aside0.mk (blk_below (g := gb266) (o := .cells #[.slice A0_0 l0_0.length c0_0] 24 (0, 0)) (by (with_reducible repeat (first | refine blk_drewN ?_ _ | refine blk_drew ?_ | refine blk_alloc ?_ _)); exact BK266.out) hb); have n2_ := Aside0.mk (below_step (by repeat (first | (with_reducible first | exact HB.out | apply below_alloc | apply pw_below_drewN | apply below_drew1 | refine below_set ?_ GE266.out) | exact HB.out)) hb); have n3_ := Aside0.mk (hbox); have n4_ := Aside0.mk ((by rw [hg]; exact (below_size (by repeat (first | (with_reducible first | exact HB.out | apply below_alloc | apply pw_below_drewN | apply below_drew1 | refine below_set ?_ GE266.out) | exact HB.out))) : w.heap.size ≤ gb274)); have n5_ := Aside0.mk ((by rw [hg]; exact (below_size (by repeat (first | (with_reducible first | exact HB.out | apply below_alloc | apply pw_below_drewN | apply below_drew1 | refine below_set ?_ GE266.out) | exact HB.out))) : w.heap.size ≤ gb274)); have n6_ := Aside0.mk ((by rw [hg]; exact Nat.ne_of_lt (blk_lt (g := gb266) (o := .cells #[.slice A0_0 l0_0.length c0_0] 24 (0, 0)) (by (with_reducible repeat (first | refine blk_drewN ?_ _ | refine blk_drew ?_ | refine blk_alloc ?_ _)); exact BK266.out)) : gb266 ≠ gb274)); have n7_ := Aside0.mk ((by rw [hg]; exact Nat.ne_of_gt (blk_lt (g := gb266) (o := .cells #[.slice A0_0 l0_0.length c0_0] 24 (0, 0)) (by (with_reducible repeat (first | refine blk_drewN ?_ _ | refine blk_drew ?_ | refine blk_alloc ?_ _)); exact BK266.out)) : gb274 ≠ gb266)); clear HO_5; clear BK266; clear HB; have HO_5 := n0_; have BK266 := n1_; have HB := n2_; have BK274 := n3_; have GW274 := n4_; have GE274 := n5_; have NB266_274 := n6_; have NB274_266 := n7_; clear n0_ n1_ n2_ n3_ n4_ n5_ n6_ n7_; clear hb hbox hg; have hnb22 := NB274_266.out; have hnc22 := NB266_274.out; have hcz23_0 : w21.cell? ⟨gb274, 0, none⟩ = some (.int .i64 0) := (blk_cell BK274.out 0).trans rfl; have hcz23_1 : w21.cell? ⟨gb274, 1, none⟩ = some (.bool false) := (blk_cell BK274.out 1).trans rfl; have hcz23_2 : w21.cell? ⟨gb274, 2, none⟩ = some (.int .i64 0) := (blk_cell BK274.out 2).trans rfl; have hfz23_0 := blk_frozen BK274.out 0; have hfz23_1 := blk_frozen BK274.out 1; have hfz23_2 := blk_frozen BK274.out 2) | ((with_reducible refine gate_dst (N := 34) rfl ?_); (try (refine gate_guard (by rfl) ?_; dsimp only)); refine Kd.R_lit (Kd.int .i64) _ 26 ?hg (N := 34) ?hd (xs := ([2, 3] : List Int)) (inner := [.int .i64 2, .int .i64 3]) (ok := fun _ => True) (okp := fun _ => True) ?hr ?hp (fun _ hk => hk) trivial (Below.refl _ _) (Nat.le_refl _) (by simp) ?_; (case hd => rfl); (case hg => rfl); (case hr => first | (go_simp; done) | (go_simp; rfl)); (case hp => exact (Reps.one (show Kd.M (Kd.int .i64) _ _ _ 2 [.int .i64 2] from rfl) (Reps.one (show Kd.M (Kd.int .i64) _ _ _ 3 [.int .i64 3] from rfl) (Reps.none _ _)))); intro v276 w24 ho25 hb hg_ hnew_; clear hg_ hnew_; (first | rw [← Ny275.out] at ho25 | (simp only [Int.reduceToNat] at ho25; rw [← Ny275.out] at ho25)); have n0_ := Aside0.mk (Kd.R_below (by (with_reducible repeat (first | apply Kd.R_alloc | apply Kd.R_drewN | apply Kd.R_drew)); exact (Kd.R_mono (Kd.R_far (p := ⟨gb274, 2, none⟩) (Kd.R_far (p := ⟨gb274, 1, none⟩) (Kd.R_far (p := ⟨gb274, 0, none⟩) (Kd.R_mono HO_5.out (fun k_ hk => (⟨hk, hk.2⟩ : _ ∧ k_ ≠ gb274))) (fun _ hk => hk.2) (.int .i64 ((rd_T40 t269 x6_2).f0))) (fun _ hk => hk.2) (.bool ((rd_T40 t269 x6_2).f1))) (fun _ hk => hk.2) (.int .i64 ((rd_T40 t269 x6_2).f2))) (fun _ h_ => h_.1))) hb); have n1_ := Aside0.mk (Kd.R_lower ho25 (below_size (by repeat (first | (with_reducible first | exact HB.out | apply below_alloc | apply pw_below_drewN | apply below_drew1 | refine below_set ?_ GE266.out | refine below_set ?_ GE274.out) | exact HB.out)))); have n2_ := Aside0.mk (blk_below (g := gb266) (o := .cells #[.slice A0_0 l0_0.length c0_0] 24 (0, 0)) (by (with_reducible repeat (first | refine blk_drewN ?_ _ | refine blk_drew ?_ | refine blk_alloc ?_ _)); refine blk_far ?_ NB266_274.out _; (with_reducible repeat (first | refine blk_drewN ?_ _ | refine blk_drew ?_ | refine blk_alloc ?_ _)); refine blk_far ?_ NB266_274.out _; (with_reducible repeat (first | refine blk_drewN ?_ _ | refine blk_drew ?_ | refine blk_alloc ?_ _)); refine blk_far ?_ NB266_274.out _; (with_reducible repeat (first | refine blk_drewN ?_ _ | refine blk_drew ?_ | refine blk_alloc ?_ _)); exact BK266.out) hb); have n3_ := Aside0.mk (blk_below (g := gb274) (o := .cells #[.int .i64 ((rd_T40 t269 x6_2).f0), .bool ((rd_T40 t269 x6_2).f1), .int .i64 ((rd_T40 t269 x6_2).f2)] 40 (0, 0)) (by (with_reducible repeat (first | refine blk_drewN ?_ _ | refine blk_drew ?_ | refine blk_alloc ?_ _)); refine blk_put (cs := #[.int .i64 ((rd_T40 t269 x6_2).f0), .bool ((rd_T40 t269 x6_2).f1), .int .i64 0]) ?_ 2 _ rfl; (with_reducible repeat (first | refine blk_drewN ?_ _ | refine blk_drew ?_ | refine blk_alloc ?_ _)); refine blk_put (cs := #[.int .i64 ((rd_T40 t269 x6_2).f0), .bool false, .int .i64 0]) ?_ 1 _ rfl; (with_reducible repeat (first | refine blk_drewN ?_ _ | refine blk_drew ?_ | refine blk_alloc ?_ _)); refine blk_put (cs := #[.int .i64 0, .bool false, .int .i64 0]) ?_ 0 _ rfl; (with_reducible repeat (first | refine blk_drewN ?_ _ | refine blk_drew ?_ | refine blk_alloc ?_ _)); exact BK274.out) hb); have n4_ := Aside0.mk (below_step (by repeat (first | (with_reducible first | exact HB.out | apply below_alloc | apply pw_below_drewN | apply below_drew1 | refine below_set ?_ GE266.out | refine below_set ?_ GE274.out) | exact HB.out)) hb); clear HO_5; clear BK266; clear BK274; clear HB; have HO_5 := n0_; have HO277 := n1_; have BK266 := n2_; have BK274 := n3_; have HB := n4_; clear n0_ n1_ n2_ n3_ n4_; clear hb ho25; have hcz26_0 : w24.cell? ⟨gb274, 0, none⟩ = some (.int .i64 ((rd_T40 t269 x6_2).f0)) := (blk_cell BK274.out 0).trans rfl; have hcz26_1 : w24.cell? ⟨gb274, 1, none⟩ = some (.bool ((rd_T40 t269 x6_2).f1)) := (blk_cell BK274.out 1).trans rfl; have hcz26_2 : w24.cell? ⟨gb274, 2, none⟩ = some (.int .i64 ((rd_T40 t269 x6_2).f2)) := (blk_cell BK274.out 2).trans rfl; have hfz26_0 := blk_frozen BK274.out 0; have hfz26_1 := blk_frozen BK274.out 1; have hfz26_2 := blk_frozen BK274.out 2))
        (try simp only [Act.put, List.setIfInBounds_toArray, List.set_cons_zero, List.set_cons_succ])
        go_cut [8] (fun v8 wc => ∃ (kq : Nat) (x8_18 : List Int), Aside0 (argosylaw13_FactOpens.j2 kq l1 t269 x6_2 x8_18 l0_0 ((rd_T40 t269 x6_2).f0) ((rd_T40 t269 x6_2).f1) ((rd_T40 t269 x6_2).f2) = some r) ∧ Aside0 (kq ≤ k2) ∧ Aside0 (Kd.R k40 40 wc w.heap.size (fun k_ => k_ ≠ gb274) (.slice (some ad273) t269.length co20) t269) ∧ Aside0 (Kd.R (Kd.int .i64) 26 wc w.heap.size (fun _ => True) v8 x8_18) ∧ Aside0 (wc.heap[gb266]? = some (.cells #[(.slice A0_0 l0_0.length c0_0)] 24 (0, 0))) ∧ Aside0 (wc.heap[gb274]? = some (.cells #[.int .i64 ((rd_T40 t269 x6_2).f0), .bool ((rd_T40 t269 x6_2).f1), .int .i64 ((rd_T40 t269 x6_2).f2)] 40 (0, 0))) ∧ Aside0 (Below w.heap.size w wc))
        case first =>
         have H := HC19.out
         clear HC19
         obtain ⟨bq27, hbq27⟩ : ∃ b_ : Bool, b_ = ((rd_T40 t269 x6_2).f1) := ⟨_, rfl⟩
         replace H : (if bq27 = true then (argosylaw13_FactOpens.j2 k2 l1 t269 x6_2 (([5, 6] : List Int)) l0_0 ((rd_T40 t269 x6_2).f0) bq27 ((rd_T40 t269 x6_2).f2)) else (argosylaw13_FactOpens.j2 k2 l1 t269 x6_2 y275 l0_0 ((rd_T40 t269 x6_2).f0) bq27 ((rd_T40 t269 x6_2).f2))) = some r := by rw [← hbq27] at H; exact H
         have Nbq27 := Aside0.mk hbq27
         clear hbq27
         (try rw [← Nbq27.out])
         (try rw [← Nbq27.out] at BK266)
         (try rw [← Nbq27.out] at BK274)
         by_cases c28 : bq27 = true
         ·subst c28
          have H1 : (argosylaw13_FactOpens.j2 k2 l1 t269 x6_2 (([5, 6] : List Int)) l0_0 ((rd_T40 t269 x6_2).f0) true ((rd_T40 t269 x6_2).f2)) = some r := by rw [if_pos rfl] at H; exact H
          clear H
          have H := H1
          clear H1
          obtain ⟨y278, hy278⟩ : ∃ y_ : List Int, y_ = (([5, 6] : List Int)) := ⟨_, rfl⟩
          replace H : (argosylaw13_FactOpens.j2 k2 l1 t269 x6_2 y278 l0_0 ((rd_T40 t269 x6_2).f0) true ((rd_T40 t269 x6_2).f2)) = some r := by first | (rw [hy278]; with_reducible exact H) | (have H2_ := (Option.bind_some _ _).symm.trans H; rw [hy278]; with_reducible exact H2_) | (have H2_ := (Option.bind_some _ _).symm.trans H; with_reducible exact H2_) | with_reducible exact H | (rw [hy278]; exact H) | exact H
          have Ny278 := Aside0.mk hy278
          clear hy278
          have H' := Aside0.mk H
          clear H
          go_wp2_with (first | ((with_reducible refine gate_dst (N := 37) rfl ?_); (try (refine gate_guard (by rfl) ?_; dsimp only)); refine Kd.R_lit (Kd.int .i64) _ 26 ?hg (N := 37) ?hd (xs := ([5, 6] : List Int)) (inner := [.int .i64 5, .int .i64 6]) (ok := fun _ => True) (okp := fun _ => True) ?hr ?hp (fun _ hk => hk) trivial (Below.refl _ _) (Nat.le_refl _) (by simp) ?_; (case hd => rfl); (case hg => rfl); (case hr => first | (go_simp; done) | (go_simp; rfl)); (case hp => exact (Reps.one (show Kd.M (Kd.int .i64) _ _ _ 5 [.int .i64 5] from rfl) (Reps.one (show Kd.M (Kd.int .i64) _ _ _ 6 [.int .i64 6] from rfl) (Reps.none _ _)))); intro v279 w29 ho30 hb hg_ hnew_; clear hg_ hnew_; (first | rw [← Ny278.out] at ho30 | (simp only [Int.reduceToNat] at ho30; rw [← Ny278.out] at ho30)); have n0_ := Aside0.mk (Kd.R_below (by (with_reducible repeat (first | apply Kd.R_alloc | apply Kd.R_drewN | apply Kd.R_drew)); exact HO_5.out) hb); have n1_ := Aside0.mk (Kd.R_elder' (by (with_reducible repeat (first | apply Kd.R_alloc | apply Kd.R_drewN | apply Kd.R_drew)); exact HO277.out) (Kd.R_base ho30) hb); have n2_ := Aside0.mk (Kd.R_lower (Kd.R_new' ho30 (Kd.R_lt (by (with_reducible repeat (first | apply Kd.R_alloc | apply Kd.R_drewN | apply Kd.R_drew)); exact HO277.out))) (below_size (by repeat (first | (with_reducible first | exact HB.out | apply below_alloc | apply pw_below_drewN | apply below_drew1 | refine below_set ?_ GE266.out | refine below_set ?_ GE274.out) | exact HB.out)))); have n3_ := Aside0.mk (blk_below (g := gb266) (o := .cells #[.slice A0_0 l0_0.length c0_0] 24 (0, 0)) (by (with_reducible repeat (first | refine blk_drewN ?_ _ | refine blk_drew ?_ | refine blk_alloc ?_ _)); exact BK266.out) hb); have n4_ := Aside0.mk (blk_below (g := gb274) (o := .cells #[.int .i64 ((rd_T40 t269 x6_2).f0), .bool true, .int .i64 ((rd_T40 t269 x6_2).f2)] 40 (0, 0)) (by (with_reducible repeat (first | refine blk_drewN ?_ _ | refine blk_drew ?_ | refine blk_alloc ?_ _)); exact BK274.out) hb); have n5_ := Aside0.mk (below_step (by repeat (first | (with_reducible first | exact HB.out | apply below_alloc | apply pw_below_drewN | apply below_drew1 | refine below_set ?_ GE266.out | refine below_set ?_ GE274.out) | exact HB.out)) hb); clear HO_5; clear HO277; clear BK266; clear BK274; clear HB; have HO_5 := n0_; have HO277 := n1_; have HO280 := n2_; have BK266 := n3_; have BK274 := n4_; have HB := n5_; clear n0_ n1_ n2_ n3_ n4_ n5_; clear hb ho30))
          go_meet
          case rel => (try rw [← Nbq27.out]); exact ⟨_, (y278), H', ⟨by have := HJ2.out; have := HK2.out; first | omega | exact Nat.le_refl _⟩, ⟨by (with_reducible repeat (first | apply Kd.R_alloc | apply Kd.R_drewN | apply Kd.R_drew)); exact Kd.R_mono HO_5.out (fun _ hk => hk.2)⟩, ⟨by (with_reducible repeat (first | apply Kd.R_alloc | apply Kd.R_drewN | apply Kd.R_drew)); exact Kd.R_mono HO280.out (fun _ hk => trivial)⟩, ⟨by (with_reducible repeat (first | refine blk_drewN ?_ _ | refine blk_drew ?_ | refine blk_alloc ?_ _)); exact BK266.out⟩, ⟨by (with_reducible repeat (first | refine blk_drewN ?_ _ | refine blk_drew ?_ | refine blk_alloc ?_ _)); exact BK274.out⟩, ⟨by repeat (first | (with_reducible first | exact HB.out | apply below_alloc | apply pw_below_drewN | apply below_drew1 | refine below_set ?_ GE266.out | refine below_set ?_ GE274.out) | exact HB.out)⟩⟩
         ·replace c28 := Bool.eq_false_iff.mpr c28
          subst c28
          have H1 : (argosylaw13_FactOpens.j2 k2 l1 t269 x6_2 y275 l0_0 ((rd_T40 t269 x6_2).f0) false ((rd_T40 t269 x6_2).f2)) = some r := by rw [if_neg (show ¬ (false = true) by decide)] at H; exact H
          clear H
          have H := H1
          clear H1
          have H' := Aside0.mk H
          clear H
          go_wp2
          go_meet
          case rel => (try rw [← Nbq27.out]); exact ⟨_, (y275), H', ⟨by have := HJ2.out; have := HK2.out; first | omega | exact Nat.le_refl _⟩, ⟨by (with_reducible repeat (first | apply Kd.R_alloc | apply Kd.R_drewN | apply Kd.R_drew)); exact Kd.R_mono HO_5.out (fun _ hk => hk.2)⟩, ⟨by (with_reducible repeat (first | apply Kd.R_alloc | apply Kd.R_drewN | apply Kd.R_drew)); exact HO277.out⟩, ⟨by (with_reducible repeat (first | refine blk_drewN ?_ _ | refine blk_drew ?_ | refine blk_alloc ?_ _)); exact BK266.out⟩, ⟨by (with_reducible repeat (first | refine blk_drewN ?_ _ | refine blk_drew ?_ | refine blk_alloc ?_ _)); exact BK274.out⟩, ⟨by repeat (first | (with_reducible first | exact HB.out | apply below_alloc | apply pw_below_drewN | apply below_drew1 | refine below_set ?_ GE266.out | refine below_set ?_ GE274.out) | exact HB.out)⟩⟩
        case rest =>
         clear HC19
         try clear c1
         try clear c2
         try clear p2
         try clear q2
         try clear hx2
         try clear c4
         try clear c5
         try clear c6
         try clear c9
         try clear c11
         try clear c17
         try clear c17b0
         try clear c18
         try clear c18b0
         try clear c22
         try clear p27
         try clear q27
         try clear hx27
         try clear c28
         try clear hcz15_0
         try clear hcz23_0
         try clear hcz23_1
         try clear hcz23_2
         try clear hcz26_0
         try clear hcz26_1
         try clear hcz26_2
         try clear hcz7_0
         try clear hcz9_0
         try clear hfz15_0
         try clear hfz23_0
         try clear hfz23_1
         try clear hfz23_2
         try clear hfz26_0
         try clear hfz26_1
         try clear hfz26_2
         try clear hfz7_0
         try clear hfz9_0
         try clear hx273_0
         try clear hx273_1
         try clear hx273_2
         try clear p2
         try clear p273
         try clear q273
         obtain ⟨kq, x8_18, HA, HJ18, HO_5, HO_8, BK266, BK274, HB⟩ := hcut
         cases kq with
         | zero => exact absurd HA.out (by simp [argosylaw13_FactOpens.j2])
         | succ kj18 =>
          have H := HA.out
          clear HA
          simp only [argosylaw13_FactOpens.j2] at H
          have H' := Aside0.mk H
          clear H
          go_wp2
          go_loopg [9] kj18 (fun kq v9 w' => ∃ (x9_4 : Int), v9 = .int .i64 x9_4 ∧ Aside0 (argosylaw13_FactOpens.l1 kq l1 t269 x6_2 x8_18 x9_4 l0_0 ((rd_T40 t269 x6_2).f0) ((rd_T40 t269 x6_2).f1) ((rd_T40 t269 x6_2).f2) = some r) ∧ Aside0 (kq ≤ kj18) ∧ Aside0 (Kd.R k40 40 w' w.heap.size (fun k_ => k_ ≠ gb274) (.slice (some ad273) t269.length co20) t269) ∧ Aside0 (Kd.R (Kd.int .i64) 26 w' w.heap.size (fun _ => True) u8 x8_18) ∧ Aside0 (w'.heap[gb266]? = some (.cells #[(.slice A0_0 l0_0.length c0_0)] 24 (0, 0))) ∧ Aside0 (w'.heap[gb274]? = some (.cells #[.int .i64 ((rd_T40 t269 x6_2).f0), .bool ((rd_T40 t269 x6_2).f1), .int .i64 ((rd_T40 t269 x6_2).f2)] 40 (0, 0))) ∧ Aside0 (Below w.heap.size w w'))
          case atStart => exact ⟨(0), (by first | rfl | (simp; done) | (simp [*]; done)), H', ⟨Nat.le_refl _⟩, ⟨by (with_reducible repeat (first | apply Kd.R_alloc | apply Kd.R_drewN | apply Kd.R_drew)); exact HO_5.out⟩, ⟨by (with_reducible repeat (first | apply Kd.R_alloc | apply Kd.R_drewN | apply Kd.R_drew)); exact HO_8.out⟩, ⟨by (with_reducible repeat (first | refine blk_drewN ?_ _ | refine blk_drew ?_ | refine blk_alloc ?_ _)); exact BK266.out⟩, ⟨by (with_reducible repeat (first | refine blk_drewN ?_ _ | refine blk_drew ?_ | refine blk_alloc ?_ _)); exact BK274.out⟩, ⟨by repeat (first | (with_reducible first | exact HB.out | apply below_alloc | apply pw_below_drewN | apply below_drew1 | refine below_set ?_ GE266.out | refine below_set ?_ GE274.out) | exact HB.out)⟩⟩
          case round =>
           clear H'
           try clear c1
           try clear c2
           try clear p2
           try clear q2
           try clear hx2
           try clear c4
           try clear c5
           try clear c6
           try clear c9
           try clear c11
           try clear c17
           try clear c17b0
           try clear c18
           try clear c18b0
           try clear c22
           try clear p27
           try clear q27
           try clear hx27
           try clear c28
           try clear hcz15_0
           try clear hcz23_0
           try clear hcz23_1
           try clear hcz23_2
           try clear hcz26_0
           try clear hcz26_1
           try clear hcz26_2
           try clear hcz7_0
           try clear hcz9_0
           try clear hfz15_0
           try clear hfz23_0
           try clear hfz23_1
           try clear hfz23_2
           try clear hfz26_0
           try clear hfz26_1
           try clear hfz26_2
           try clear hfz7_0
           try clear hfz9_0
           try clear hx273_0
           try clear hx273_1
           try clear hx273_2
           try clear p2
           try clear p27
           try clear p273
           try clear q2
           try clear q27
           try clear q273
           obtain ⟨x9_4, rfl, HA, HK4, HO_5, HO_8, BK266, BK274, HB⟩ := hrel
           cases gk with
           | zero => exact absurd HA.out (by simp [argosylaw13_FactOpens.l1])
           | succ k4 =>
            have H := HA.out
            clear HA
            simp only [argosylaw13_FactOpens.l1] at H
            by_cases c31 : x9_4 < 2
            ·rw [if_pos c31] at H
             have c31b0 : decide (x9_4 < 2) = true := decide_eq_true c31
             clear c31
             by_cases c32 : 0 ≤ x9_4
             ·rw [if_pos c32] at H
              have c32b0 : decide (0 ≤ x9_4) = true := decide_eq_true c32
              clear c32
              by_cases c33 : x9_4 < (x8_18.length : Int)
              ·rw [if_pos c33] at H
               have c33b0 : decide (x9_4 < (x8_18.length : Int)) = true := decide_eq_true c33
               clear c33
               obtain ⟨y282, hy282⟩ : ∃ y_ : List Int, y_ = (([1] : List Int)) := ⟨_, rfl⟩
               replace H : ((fact_Apply.f l0_0 l1 (rd x8_18 x9_4) ((rd_T40 t269 x6_2).f0) ((rd_T40 t269 x6_2).f2) y282).bind fun bt285 => (if bt285.2 = 14 then (if (rd x8_18 x9_4) = 6 then (argosylaw13_FactOpens.j4 k4 l1 t269 x6_2 x8_18 x9_4 bt285.1 bt285.2 (((rd_T40 t269 x6_2).f2) == 3) l0_0 ((rd_T40 t269 x6_2).f0) ((rd_T40 t269 x6_2).f1) ((rd_T40 t269 x6_2).f2)) else (argosylaw13_FactOpens.j4 k4 l1 t269 x6_2 x8_18 x9_4 bt285.1 bt285.2 false l0_0 ((rd_T40 t269 x6_2).f0) ((rd_T40 t269 x6_2).f1) ((rd_T40 t269 x6_2).f2))) else (argosylaw13_FactOpens.j4 k4 l1 t269 x6_2 x8_18 x9_4 bt285.1 bt285.2 false l0_0 ((rd_T40 t269 x6_2).f0) ((rd_T40 t269 x6_2).f1) ((rd_T40 t269 x6_2).f2)))) = some r := by first | (rw [hy282]; with_reducible exact H) | (have H2_ := (Option.bind_some _ _).symm.trans H; rw [hy282]; with_reducible exact H2_) | (have H2_ := (Option.bind_some _ _).symm.trans H; with_reducible exact H2_) | with_reducible exact H | (rw [hy282]; exact H) | exact H
               have Ny282 := Aside0.mk hy282
               clear hy282
               replace H := Option.bind_eq_some_iff.mp H
               obtain ⟨⟨t285, t288⟩, A340, H⟩ := H
               replace H : (if t288 = 14 then (if (rd x8_18 x9_4) = 6 then (argosylaw13_FactOpens.j4 k4 l1 t269 x6_2 x8_18 x9_4 t285 t288 (((rd_T40 t269 x6_2).f2) == 3) l0_0 ((rd_T40 t269 x6_2).f0) ((rd_T40 t269 x6_2).f1) ((rd_T40 t269 x6_2).f2)) else (argosylaw13_FactOpens.j4 k4 l1 t269 x6_2 x8_18 x9_4 t285 t288 false l0_0 ((rd_T40 t269 x6_2).f0) ((rd_T40 t269 x6_2).f1) ((rd_T40 t269 x6_2).f2))) else (argosylaw13_FactOpens.j4 k4 l1 t269 x6_2 x8_18 x9_4 t285 t288 false l0_0 ((rd_T40 t269 x6_2).f0) ((rd_T40 t269 x6_2).f1) ((rd_T40 t269 x6_2).f2))) = some r := H
               have A34 := Aside0.mk A340
               clear A340
               have HC35 := Aside0.mk H
               clear H
               try go_wp2
               have n0_ := Aside0.mk (Kd.R_drew HO_5.out)
               have n1_ := Aside0.mk (Kd.R_drew HO_8.out)
               have n2_ := Aside0.mk (blk_drew BK266.out)
               have n3_ := Aside0.mk (blk_drew BK274.out)
               have n4_ := Aside0.mk (below_drew1 HB.out)
               clear HO_5
               clear HO_8
               clear BK266
               clear BK274
               clear HB
               have HO_5 := n0_
               have HO_8 := n1_
               have BK266 := n2_
               have BK274 := n3_
               have HB := n4_
               clear n0_ n1_ n2_ n3_ n4_
               obtain ⟨Ao37, co37, eo37⟩ := Kd.R_slice HO_8.out
               (first | subst eo37 | (injection eo37 with f1_ f2_ f3_; have f4_ := f1_.symm; have f5_ := f3_.symm; clear f1_ f2_ f3_; subst f4_; subst f5_))
               have p281 : 0 ≤ (x9_4 : Int) := of_decide_eq_true (by first | (with_reducible assumption) | assumption)
               have q281 : x9_4 < (x8_18.length : Int) := of_decide_eq_true (by first | (with_reducible assumption) | assumption)
               obtain ⟨ad281, e281, hx281_0⟩ := Kd.at_int (Kd.R_reads' HO_8.out).2.2 x9_4 p281 q281
               cases e281
               replace p281 := eq_true p281
               replace q281 := eq_true q281
               refine start_ (n := 18) (S := fun w' => w'.cell? ⟨gb266, 0, none⟩ = some (.slice A0_0 l0_0.length c0_0) ∧ w'.cell? ⟨gb274, 0, none⟩ = some (.int .i64 ((rd_T40 t269 x6_2).f0)) ∧ w'.cell? ⟨gb274, 1, none⟩ = some (.bool ((rd_T40 t269 x6_2).f1)) ∧ w'.cell? ⟨gb274, 2, none⟩ = some (.int .i64 ((rd_T40 t269 x6_2).f2)) ∧ w'.cell? (ad281.add (x9_4).toNat) = some (.int .i64 (rd x8_18 x9_4))) (ds := []) #[false, false, false, false, false, false, false, false, false, false, false, false, false, false, false, false, false, false] (by kernel_rfl) rfl rfl ⟨(blk_cell BK266.out 0).trans rfl, (blk_cell BK274.out 0).trans rfl, (blk_cell BK274.out 1).trans rfl, (blk_cell BK274.out 2).trans rfl, hx281_0⟩ (fun hHeld => ?_); refine with_tabW argosylaw13_FactOpens.tab14 argosylaw13_FactOpens.bits14 (fun HT_ HW_ => ?_)
               generalize wr.drew = w36 at HO_5 HO_8 BK266 BK274 HB hx281_0 hHeld ⊢
               refine pure_ (i := 1) (N := some 44) (v := ?_) (a' := ?_) #[false, true, false, false, false, false, false, false, false, false, false, false, false, false, false, false, false, false] rfl rfl (any_of HT_.out (by kernel_rfl)) (fun _ _ _ h => h) (Or.inl ⟨by rfl, ?_⟩) ?_ ?_
               rotate_left
               ·intro w'
                go_simp
                with_reducible rfl
               rotate_left
               ·simp only [Act.put, List.setIfInBounds_toArray, List.set_cons_zero, List.set_cons_succ, i64_w, i32_w]
                rfl
               refine pure_ (i := 2) (N := some 45) (v := ?_) (a' := ?_) #[false, true, true, false, false, false, false, false, false, false, false, false, false, false, false, false, false, false] rfl rfl (any_of HT_.out (by kernel_rfl)) (fun _ _ _ h => h) (Or.inl ⟨by rfl, ?_⟩) ?_ ?_
               rotate_left
               ·intro w'
                go_simp
                with_reducible rfl
               rotate_left
               ·simp only [Act.put, List.setIfInBounds_toArray, List.set_cons_zero, List.set_cons_succ, i64_w, i32_w]
                rfl
               refine pure_ (i := 3) (N := some 46) (v := ?_) (a' := ?_) #[false, true, true, true, false, false, false, false, false, false, false, false, false, false, false, false, false, false] rfl rfl (any_of HT_.out (by kernel_rfl)) (fun _ _ _ h => h) (Or.inl ⟨by rfl, ?_⟩) ?_ ?_
               rotate_left
               ·intro w'
                go_simp
                with_reducible rfl
               rotate_left
               ·simp only [Act.put, List.setIfInBounds_toArray, List.set_cons_zero, List.set_cons_succ, i64_w, i32_w]
                rfl
               refine pure_ (i := 4) (N := some 47) (v := ?_) (a' := ?_) #[false, true, true, true, true, false, false, false, false, false, false, false, false, false, false, false, false, false] rfl rfl (any_of HT_.out (by kernel_rfl)) (fun _ _ _ h => h) (Or.inl ⟨by rfl, ?_⟩) ?_ ?_
               rotate_left
               ·intro w'
                go_simp
                with_reducible rfl
               rotate_left
               ·simp only [Act.put, List.setIfInBounds_toArray, List.set_cons_zero, List.set_cons_succ, i64_w, i32_w]
                rfl
               refine pure_ (i := 6) (N := some 49) (v := ?_) (a' := ?_) #[false, true, true, true, true, false, true, false, false, false, false, false, false, false, false, false, false, false] rfl rfl (any_of HT_.out (by kernel_rfl)) (fun _ _ _ h => h) (Or.inl ⟨by rfl, ?_⟩) ?_ ?_
               rotate_left
               ·intro w'
                go_simp
                with_reducible rfl
               rotate_left
               ·simp only [Act.put, List.setIfInBounds_toArray, List.set_cons_zero, List.set_cons_succ, i64_w, i32_w]
                rfl
               refine pure_ (i := 8) (N := some 51) (v := ?_) (a' := ?_) #[false, true, true, true, true, false, true, false, true, false, false, false, false, false, false, false, false, false] rfl rfl (any_of HT_.out (by kernel_rfl)) (fun _ _ _ h => h) (Or.inl ⟨by rfl, ?_⟩) ?_ ?_
               rotate_left
               ·intro w'
                go_simp
                with_reducible rfl
               rotate_left
               ·simp only [Act.put, List.setIfInBounds_toArray, List.set_cons_zero, List.set_cons_succ, i64_w, i32_w]
                rfl
               refine take_ (i := 0) (N := some 43) (v := ?_) (a' := ?_) #[true, true, true, true, true, false, true, false, true, false, false, false, false, false, false, false, false, false] rfl rfl (take_ofW HT_.out HW_.out (by kernel_rfl)) (fun _ _ _ h => h) (Or.inl ⟨by rfl, ?_⟩) hHeld ?_ ?_
               rotate_left
               ·rintro w' ⟨s0, s1, s2, s3, s4⟩
                go_simp
                with_reducible rfl
               rotate_left
               ·simp only [Act.put, List.setIfInBounds_toArray, List.set_cons_zero, List.set_cons_succ, i64_w, i32_w]
                rfl
               refine take_ (i := 5) (N := some 48) (v := ?_) (a' := ?_) #[true, true, true, true, true, true, true, false, true, false, false, false, false, false, false, false, false, false] rfl rfl (take_ofW HT_.out HW_.out (by kernel_rfl)) (fun _ _ _ h => h) (Or.inl ⟨by rfl, ?_⟩) hHeld ?_ ?_
               rotate_left
               ·rintro w' ⟨s0, s1, s2, s3, s4⟩
                go_simp
                with_reducible rfl
               rotate_left
               ·simp only [Act.put, List.setIfInBounds_toArray, List.set_cons_zero, List.set_cons_succ, i64_w, i32_w]
                rfl
               refine take_ (i := 7) (N := some 50) (v := ?_) (a' := ?_) #[true, true, true, true, true, true, true, true, true, false, false, false, false, false, false, false, false, false] rfl rfl (take_ofW HT_.out HW_.out (by kernel_rfl)) (fun _ _ _ h => h) (Or.inl ⟨by rfl, ?_⟩) hHeld ?_ ?_
               rotate_left
               ·rintro w' ⟨s0, s1, s2, s3, s4⟩
                go_simp
                with_reducible rfl
               rotate_left
               ·simp only [Act.put, List.setIfInBounds_toArray, List.set_cons_zero, List.set_cons_succ, i64_w, i32_w]
                rfl
               refine take_ (i := 9) (N := some 52) (v := ?_) (a' := ?_) #[true, true, true, true, true, true, true, true, true, true, false, false, false, false, false, false, false, false] rfl rfl (take_ofW HT_.out HW_.out (by kernel_rfl)) (fun _ _ _ h => h) (Or.inl ⟨by rfl, ?_⟩) hHeld ?_ ?_
               rotate_left
               ·rintro w' ⟨s0, s1, s2, s3, s4⟩
                go_simp
                with_reducible rfl
               rotate_left
               ·simp only [Act.put, List.setIfInBounds_toArray, List.set_cons_zero, List.set_cons_succ, i64_w, i32_w]
                rfl
               refine one_ (i := 10) (N := some 53) #[true, true, true, true, true, true, true, true, true, true, true, false, false, false, false, false, false, false] rfl rfl (one_of HT_.out (by kernel_rfl)) (by decide) (fun K hK => ?_)
               refine Kd.R_lit_step (Kd.int .i64) _ 3 ?hg (N := 53) ?hd (xs := ([1] : List Int)) (inner := [.int .i64 1]) (ok := fun _ => True) (okp := fun _ => True) ?hr ?hp (fun _ hk => hk) trivial (Below.refl _ _) (Nat.le_refl _) (by simp) ?_; (case hd => rfl); (case hg => rfl); (case hr => first | (go_simp; done) | (go_simp; rfl)); (case hp => exact (Reps.one (show Kd.M (Kd.int .i64) _ _ _ 1 [.int .i64 1] from rfl) (Reps.none _ _)))
               intro v283 w38 ho39 hb hg_ hnew_
               have HS4_ := (hb.cell (World.block_lt_of_cell? _ _ (hHeld.2.2.2.2))).trans (hHeld.2.2.2.2)
               clear hg_ hnew_
               (first | rw [← Ny282.out] at ho39 | (simp only [Int.reduceToNat] at ho39; rw [← Ny282.out] at ho39))
               have n0_ := Aside0.mk (Kd.R_below (by (with_reducible repeat (first | apply Kd.R_alloc | apply Kd.R_drewN | apply Kd.R_drew)); exact HO_5.out) hb)
               have n1_ := Aside0.mk (Kd.R_below (by (with_reducible repeat (first | apply Kd.R_alloc | apply Kd.R_drewN | apply Kd.R_drew)); exact HO_8.out) hb)
               have n2_ := Aside0.mk (Kd.R_lower ho39 (below_size (by repeat (first | (with_reducible first | exact HB.out | apply below_alloc | apply pw_below_drewN | apply below_drew1 | refine below_set ?_ GE266.out | refine below_set ?_ GE274.out) | exact HB.out))))
               have n3_ := Aside0.mk (blk_below (g := gb266) (o := .cells #[.slice A0_0 l0_0.length c0_0] 24 (0, 0)) (by (with_reducible repeat (first | refine blk_drewN ?_ _ | refine blk_drew ?_ | refine blk_alloc ?_ _)); exact BK266.out) hb)
               have n4_ := Aside0.mk (blk_below (g := gb274) (o := .cells #[.int .i64 ((rd_T40 t269 x6_2).f0), .bool ((rd_T40 t269 x6_2).f1), .int .i64 ((rd_T40 t269 x6_2).f2)] 40 (0, 0)) (by (with_reducible repeat (first | refine blk_drewN ?_ _ | refine blk_drew ?_ | refine blk_alloc ?_ _)); exact BK274.out) hb)
               have n5_ := Aside0.mk (below_step (by repeat (first | (with_reducible first | exact HB.out | apply below_alloc | apply pw_below_drewN | apply below_drew1 | refine below_set ?_ GE266.out | refine below_set ?_ GE274.out) | exact HB.out)) hb)
               clear HO_5
               clear HO_8
               clear BK266
               clear BK274
               clear HB
               have HO_5 := n0_
               have HO_8 := n1_
               have HO284 := n2_
               have BK266 := n3_
               have BK274 := n4_
               have HB := n5_
               clear n0_ n1_ n2_ n3_ n4_ n5_
               clear hb ho39
               obtain ⟨Ao40, co40, eo40⟩ := Kd.R_slice HO284.out
               (first | subst eo40 | (injection eo40 with f1_ f2_ f3_; have f4_ := f1_.symm; have f5_ := f3_.symm; clear f1_ f2_ f3_; subst f4_; subst f5_))
               refine hK.out _ _ ⟨(blk_cell BK266.out 0).trans rfl, (blk_cell BK274.out 0).trans rfl, (blk_cell BK274.out 1).trans rfl, (blk_cell BK274.out 2).trans rfl, HS4_⟩ (fun hHeld => ?_)
               clear hK K
               refine norm_ (a' := ?_) ?_ ?_
               rotate_left
               ·show Act.put _ (some 53) _ = _
                simp only [Act.put, List.setIfInBounds_toArray, List.set_cons_zero, List.set_cons_succ, i64_w, i32_w]
                rfl
               refine pure_ (i := 11) (N := some 54) (v := ?_) (a' := ?_) #[true, true, true, true, true, true, true, true, true, true, true, true, false, false, false, false, false, false] rfl rfl (any_of HT_.out (by kernel_rfl)) (fun _ _ _ h => h) (Or.inl ⟨by rfl, ?_⟩) ?_ ?_
               rotate_left
               ·intro w'
                go_simp
                with_reducible rfl
               rotate_left
               ·simp only [Act.put, List.setIfInBounds_toArray, List.set_cons_zero, List.set_cons_succ, i64_w, i32_w]
                rfl
               refine one_ (i := 12) (N := some 55) #[true, true, true, true, true, true, true, true, true, true, true, true, true, false, false, false, false, false] rfl rfl (one_of HT_.out (by kernel_rfl)) (by decide) (fun K hK => ?_)
               refine goes_ Try.func7 (by kernel_rfl) rfl #[.agg #[.slice A0_0 l0_0.length c0_0], .slice A1 l1.length c1, .agg #[.int .i64 (rd x8_18 x9_4), .int .i64 ((rd_T40 t269 x6_2).f0), .int .i64 ((rd_T40 t269 x6_2).f2), .slice Ao40 y282.length co40]] (by rfl) rfl rfl (by (try simp only [List.map_toArray, List.map_cons, List.map_nil]); first | done | rfl | (simp only [List.length_drop, List.length_take]; rfl)) ?_
               with_reducible refine (fact_Apply.calls _ _ l0_0 _ _ l1 (rd x8_18 x9_4) ((rd_T40 t269 x6_2).f0) ((rd_T40 t269 x6_2).f2) _ _ y282 t285 t288 _ ?side1 ?side2 ?side3 ?side4 ?side5 ?side6 A34.out).mono ?_
               (case side1 => repeat (first | exact (Kd.C_below HR0_0.out HB.out) | (with_reducible refine Kd.C_alloc ?_ _) | (with_reducible refine Kd.C_drewN ?_ _) | (with_reducible refine Kd.C_drew ?_)))
               (case side2 => exact HC0_0.out)
               (case side3 => repeat (first | exact (Kd.C_below HR1.out HB.out) | (with_reducible refine Kd.C_alloc ?_ _) | (with_reducible refine Kd.C_drewN ?_ _) | (with_reducible refine Kd.C_drew ?_)))
               (case side4 => exact HC1.out)
               (case side5 => repeat (first | exact (Kd.R_reads' HO284.out).2.2 | (with_reducible refine Kd.C_alloc ?_ _) | (with_reducible refine Kd.C_drewN ?_ _) | (with_reducible refine Kd.C_drew ?_)))
               (case side6 => exact (Kd.R_reads' HO284.out).2.1)
               rintro e w41 ⟨v286, rfl, ho0, hb⟩
               have HS4_ := (hb.cell (World.block_lt_of_cell? _ _ (hHeld.2.2.2.2))).trans (hHeld.2.2.2.2)
               refine ⟨_, rfl, ?_⟩
               have n0_ := Aside0.mk (Kd.R_below (by (with_reducible repeat (first | apply Kd.R_alloc | apply Kd.R_drewN | apply Kd.R_drew)); exact HO_5.out) hb)
               have n1_ := Aside0.mk (Kd.R_below (by (with_reducible repeat (first | apply Kd.R_alloc | apply Kd.R_drewN | apply Kd.R_drew)); exact HO_8.out) hb)
               have n2_ := Aside0.mk (Kd.R_below (by (with_reducible repeat (first | apply Kd.R_alloc | apply Kd.R_drewN | apply Kd.R_drew)); exact HO284.out) hb)
               have n3_ := Aside0.mk (Kd.R_lower ho0 (below_size (by repeat (first | (with_reducible first | exact HB.out | apply below_alloc | apply pw_below_drewN | apply below_drew1 | refine below_set ?_ GE266.out | refine below_set ?_ GE274.out) | exact HB.out))))
               have n4_ := Aside0.mk (blk_below (g := gb266) (o := .cells #[.slice A0_0 l0_0.length c0_0] 24 (0, 0)) (by (with_reducible repeat (first | refine blk_drewN ?_ _ | refine blk_drew ?_ | refine blk_alloc ?_ _)); exact BK266.out) hb)
               have n5_ := Aside0.mk (blk_below (g := gb274) (o := .cells #[.int .i64 ((rd_T40 t269 x6_2).f0), .bool ((rd_T40 t269 x6_2).f1), .int .i64 ((rd_T40 t269 x6_2).f2)] 40 (0, 0)) (by (with_reducible repeat (first | refine blk_drewN ?_ _ | refine blk_drew ?_ | refine blk_alloc ?_ _)); exact BK274.out) hb)
               have n6_ := Aside0.mk (below_step (by repeat (first | (with_reducible first | exact HB.out | apply below_alloc | apply pw_below_drewN | apply below_drew1 | refine below_set ?_ GE266.out | refine below_set ?_ GE274.out) | exact HB.out)) hb)
               clear HO_5
               clear HO_8
               clear HO284
               clear BK266
               clear BK274
               clear HB
               have HO_5 := n0_
               have HO_8 := n1_
               have HO284 := n2_
               have HO287 := n3_
               have BK266 := n4_
               have BK274 := n5_
               have HB := n6_
               clear n0_ n1_ n2_ n3_ n4_ n5_ n6_
               (try clear hb)
               (try clear hb2)
               (try clear hk)
               (try clear hi)
               (try clear ho0)
               refine hK.out _ _ ⟨(blk_cell BK266.out 0).trans rfl, (blk_cell BK274.out 0).trans rfl, (blk_cell BK274.out 1).trans rfl, (blk_cell BK274.out 2).trans rfl, HS4_⟩ (fun hHeld => ?_)
               clear hK K
               refine norm_ (a' := ?_) ?_ ?_
               rotate_left
               ·show Act.put _ (some 55) _ = _
                simp only [Act.put, List.setIfInBounds_toArray, List.set_cons_zero, List.set_cons_succ, i64_w, i32_w]
                rfl
               refine pure_ (i := 13) (N := some 42) (v := ?_) (a' := ?_) #[true, true, true, true, true, true, true, true, true, true, true, true, true, true, false, false, false, false] rfl rfl (any_of HT_.out (by kernel_rfl)) (fun _ _ _ h => h) (Or.inl ⟨by rfl, ?_⟩) ?_ ?_
               rotate_left
               ·intro w'
                go_simp
                with_reducible rfl
               rotate_left
               ·simp only [Act.put, List.setIfInBounds_toArray, List.set_cons_zero, List.set_cons_succ, i64_w, i32_w]
                rfl
               refine pure_ (i := 14) (N := some 56) (v := ?_) (a' := ?_) #[true, true, true, true, true, true, true, true, true, true, true, true, true, true, true, false, false, false] rfl rfl (any_of HT_.out (by kernel_rfl)) (fun _ _ _ h => h) (Or.inl ⟨by rfl, ?_⟩) ?_ ?_
               rotate_left
               ·intro w'
                go_simp
                with_reducible rfl
               rotate_left
               ·simp only [Act.put, List.setIfInBounds_toArray, List.set_cons_zero, List.set_cons_succ, i64_w, i32_w]
                rfl
               refine pure_ (i := 15) (N := some 57) (v := ?_) (a' := ?_) #[true, true, true, true, true, true, true, true, true, true, true, true, true, true, true, true, false, false] rfl rfl (any_of HT_.out (by kernel_rfl)) (fun _ _ _ h => h) (Or.inl ⟨by rfl, ?_⟩) ?_ ?_
               rotate_left
               ·intro w'
                go_simp
                with_reducible rfl
               rotate_left
               ·simp only [Act.put, List.setIfInBounds_toArray, List.set_cons_zero, List.set_cons_succ, i64_w, i32_w]
                rfl
               refine pure_ (i := 16) (N := some 10) (v := ?_) (a' := ?_) #[true, true, true, true, true, true, true, true, true, true, true, true, true, true, true, true, true, false] rfl rfl (any_of HT_.out (by kernel_rfl)) (fun _ _ _ h => h) (Or.inl ⟨by rfl, ?_⟩) ?_ ?_
               rotate_left
               ·intro w'
                go_simp
                with_reducible rfl
               rotate_left
               ·simp only [Act.put, List.setIfInBounds_toArray, List.set_cons_zero, List.set_cons_succ, i64_w, i32_w]
                rfl
               refine pure_ (i := 17) (N := some 11) (v := ?_) (a' := ?_) #[true, true, true, true, true, true, true, true, true, true, true, true, true, true, true, true, true, true] rfl rfl (any_of HT_.out (by kernel_rfl)) (fun _ _ _ h => h) (Or.inl ⟨by rfl, ?_⟩) ?_ ?_
               rotate_left
               ·intro w'
                go_simp
                with_reducible rfl
               rotate_left
               ·simp only [Act.put, List.setIfInBounds_toArray, List.set_cons_zero, List.set_cons_succ, i64_w, i32_w]
                rfl
               refine done_ (done_of HT_.out (by kernel_rfl)) ?_
               go_upto_region 15 with (fail)
               go_cut [71] (fun v71 wc => ∃ (kq : Nat) (x71_34 : Bool), v71 = .bool x71_34 ∧ Aside0 (argosylaw13_FactOpens.j4 kq l1 t269 x6_2 x8_18 x9_4 t285 t288 x71_34 l0_0 ((rd_T40 t269 x6_2).f0) ((rd_T40 t269 x6_2).f1) ((rd_T40 t269 x6_2).f2) = some r) ∧ Aside0 (kq ≤ k4) ∧ Aside0 (Kd.R k40 40 wc w.heap.size (fun k_ => k_ ≠ gb274) (.slice (some ad273) t269.length co20) t269) ∧ Aside0 (Kd.R (Kd.int .i64) 26 wc w.heap.size (fun _ => True) (.slice (some ad281) x8_18.length co37) x8_18) ∧ Aside0 (Kd.R k52 52 wc w.heap.size (fun _ => True) v286 t285) ∧ Aside0 (wc.heap[gb266]? = some (.cells #[(.slice A0_0 l0_0.length c0_0)] 24 (0, 0))) ∧ Aside0 (wc.heap[gb274]? = some (.cells #[.int .i64 ((rd_T40 t269 x6_2).f0), .bool ((rd_T40 t269 x6_2).f1), .int .i64 ((rd_T40 t269 x6_2).f2)] 40 (0, 0))) ∧ Aside0 (Below w.heap.size w wc))
               case first =>
                have H := HC35.out
                clear HC35
                by_cases c42 : t288 = 14
                ·rw [if_pos c42] at H
                 have c42b0 : (t288 == 14) = true := beq_iff_eq.mpr c42
                 have c42b1 : (t288 != 14) = false := bne_eq_false_iff_eq.mpr c42
                 clear c42
                 (first | rw [c42b0] | (simp only [i64_w, i32_w]; rw [c42b0]) | skip)
                 by_cases c43 : (rd x8_18 x9_4) = 6
                 ·rw [if_pos c43] at H
                  have c43b0 : ((rd x8_18 x9_4) == 6) = true := beq_iff_eq.mpr c43
                  have c43b1 : ((rd x8_18 x9_4) != 6) = false := bne_eq_false_iff_eq.mpr c43
                  clear c43
                  have H' := Aside0.mk H
                  clear H
                  have p289 : 0 ≤ (x9_4 : Int) := of_decide_eq_true (by first | (with_reducible assumption) | assumption)
                  have q289 : x9_4 < (x8_18.length : Int) := of_decide_eq_true (by first | (with_reducible assumption) | assumption)
                  obtain ⟨ad289, e289, hx289_0⟩ := Kd.at_int (Kd.R_reads' HO_8.out).2.2 x9_4 p289 q289
                  obtain rfl : ad281 = ad289 := (by injection e289)
                  replace p289 := eq_true p289
                  replace q289 := eq_true q289
                  have hnb44 := NB274_266.out
                  have hnc44 := NB266_274.out
                  have hcz45_0 : w41.cell? ⟨gb274, 0, none⟩ = some (.int .i64 ((rd_T40 t269 x6_2).f0)) := (blk_cell BK274.out 0).trans rfl
                  have hcz45_1 : w41.cell? ⟨gb274, 1, none⟩ = some (.bool ((rd_T40 t269 x6_2).f1)) := (blk_cell BK274.out 1).trans rfl
                  have hcz45_2 : w41.cell? ⟨gb274, 2, none⟩ = some (.int .i64 ((rd_T40 t269 x6_2).f2)) := (blk_cell BK274.out 2).trans rfl
                  have hfz45_0 := blk_frozen BK274.out 0
                  have hfz45_1 := blk_frozen BK274.out 1
                  have hfz45_2 := blk_frozen BK274.out 2
                  go_wp2
                  go_meet
                  case rel => exact ⟨_, ((((rd_T40 t269 x6_2).f2) == 3)), (by first | rfl | (simp; done) | (simp [*]; done)), H', ⟨by have := HJ2.out; have := HK2.out; have := HJ18.out; have := HK4.out; first | omega | exact Nat.le_refl _⟩, ⟨by (with_reducible repeat (first | apply Kd.R_alloc | apply Kd.R_drewN | apply Kd.R_drew)); exact HO_5.out⟩, ⟨by (with_reducible repeat (first | apply Kd.R_alloc | apply Kd.R_drewN | apply Kd.R_drew)); exact HO_8.out⟩, ⟨by (with_reducible repeat (first | apply Kd.R_alloc | apply Kd.R_drewN | apply Kd.R_drew)); exact HO287.out⟩, ⟨by (with_reducible repeat (first | refine blk_drewN ?_ _ | refine blk_drew ?_ | refine blk_alloc ?_ _)); exact BK266.out⟩, ⟨by (with_reducible repeat (first | refine blk_drewN ?_ _ | refine blk_drew ?_ | refine blk_alloc ?_ _)); exact BK274.out⟩, ⟨by repeat (first | (with_reducible first | exact HB.out | apply below_alloc | apply pw_below_drewN | apply below_drew1 | refine below_set ?_ GE266.out | refine below_set ?_ GE274.out) | exact HB.out)⟩⟩
                 ·rw [if_neg c43] at H
                  have c43b0 : ((rd x8_18 x9_4) == 6) = false := beq_eq_false_iff_ne.mpr c43
                  have c43b1 : ((rd x8_18 x9_4) != 6) = true := bne_iff_ne.mpr c43
                  have H' := Aside0.mk H
                  clear H
                  have p289 : 0 ≤ (x9_4 : Int) := of_decide_eq_true (by first | (with_reducible assumption) | assumption)
                  have q289 : x9_4 < (x8_18.length : Int) := of_decide_eq_true (by first | (with_reducible assumption) | assumption)
                  obtain ⟨ad289, e289, hx289_0⟩ := Kd.at_int (Kd.R_reads' HO_8.out).2.2 x9_4 p289 q289
                  obtain rfl : ad281 = ad289 := (by injection e289)
                  replace p289 := eq_true p289
                  replace q289 := eq_true q289
                  go_wp2
                  go_meet
                  case rel => exact ⟨_, (false), (by first | rfl | (simp; done) | (simp [*]; done)), H', ⟨by have := HJ2.out; have := HK2.out; have := HJ18.out; have := HK4.out; first | omega | exact Nat.le_refl _⟩, ⟨by (with_reducible repeat (first | apply Kd.R_alloc | apply Kd.R_drewN | apply Kd.R_drew)); exact HO_5.out⟩, ⟨by (with_reducible repeat (first | apply Kd.R_alloc | apply Kd.R_drewN | apply Kd.R_drew)); exact HO_8.out⟩, ⟨by (with_reducible repeat (first | apply Kd.R_alloc | apply Kd.R_drewN | apply Kd.R_drew)); exact HO287.out⟩, ⟨by (with_reducible repeat (first | refine blk_drewN ?_ _ | refine blk_drew ?_ | refine blk_alloc ?_ _)); exact BK266.out⟩, ⟨by (with_reducible repeat (first | refine blk_drewN ?_ _ | refine blk_drew ?_ | refine blk_alloc ?_ _)); exact BK274.out⟩, ⟨by repeat (first | (with_reducible first | exact HB.out | apply below_alloc | apply pw_below_drewN | apply below_drew1 | refine below_set ?_ GE266.out | refine below_set ?_ GE274.out) | exact HB.out)⟩⟩
                ·rw [if_neg c42] at H
                 have c42b0 : (t288 == 14) = false := beq_eq_false_iff_ne.mpr c42
                 have c42b1 : (t288 != 14) = true := bne_iff_ne.mpr c42
                 (first | rw [c42b0] | (simp only [i64_w, i32_w]; rw [c42b0]) | skip)
                 have H' := Aside0.mk H
                 clear H
                 go_wp2
                 go_meet
                 case rel => exact ⟨_, (false), (by first | rfl | (simp; done) | (simp [*]; done)), H', ⟨by have := HJ2.out; have := HK2.out; have := HJ18.out; have := HK4.out; first | omega | exact Nat.le_refl _⟩, ⟨by (with_reducible repeat (first | apply Kd.R_alloc | apply Kd.R_drewN | apply Kd.R_drew)); exact HO_5.out⟩, ⟨by (with_reducible repeat (first | apply Kd.R_alloc | apply Kd.R_drewN | apply Kd.R_drew)); exact HO_8.out⟩, ⟨by (with_reducible repeat (first | apply Kd.R_alloc | apply Kd.R_drewN | apply Kd.R_drew)); exact HO287.out⟩, ⟨by (with_reducible repeat (first | refine blk_drewN ?_ _ | refine blk_drew ?_ | refine blk_alloc ?_ _)); exact BK266.out⟩, ⟨by (with_reducible repeat (first | refine blk_drewN ?_ _ | refine blk_drew ?_ | refine blk_alloc ?_ _)); exact BK274.out⟩, ⟨by repeat (first | (with_reducible first | exact HB.out | apply below_alloc | apply pw_below_drewN | apply below_drew1 | refine below_set ?_ GE266.out | refine below_set ?_ GE274.out) | exact HB.out)⟩⟩
               case rest =>
                clear HC35
                try clear c1
                try clear c2
                try clear p2
                try clear q2
                try clear hx2
                try clear c3
                try clear c4
                try clear c5
                try clear c6
                try clear c7
                try clear c9
                try clear c11
                try clear c17
                try clear c17b0
                try clear c18
                try clear c18b0
                try clear c22
                try clear p27
                try clear q27
                try clear hx27
                try clear c28
                try clear p28
                try clear q28
                try clear hx28
                try clear c31
                try clear c31b0
                try clear c32
                try clear c32b0
                try clear c33
                try clear c33b0
                try clear c42
                try clear c42b0
                try clear c42b1
                try clear c43
                try clear c43b0
                try clear c43b1
                try clear c44
                try clear hcz15_0
                try clear hcz23_0
                try clear hcz23_1
                try clear hcz23_2
                try clear hcz26_0
                try clear hcz26_1
                try clear hcz26_2
                try clear hcz45_0
                try clear hcz45_1
                try clear hcz45_2
                try clear hcz7_0
                try clear hcz9_0
                try clear hfz15_0
                try clear hfz23_0
                try clear hfz23_1
                try clear hfz23_2
                try clear hfz26_0
                try clear hfz26_1
                try clear hfz26_2
                try clear hfz45_0
                try clear hfz45_1
                try clear hfz45_2
                try clear hfz7_0
                try clear hfz9_0
                try clear hx273_0
                try clear hx273_1
                try clear hx273_2
                try clear hx281_0
                try clear hx289_0
                try clear p2
                try clear p27
                try clear p273
                try clear p281
                try clear p289
                try clear q2
                try clear q27
                try clear q273
                try clear q281
                try clear q289
                obtain ⟨kq, x71_34, rfl, HA, HJ34, HO_5, HO_8, HO_10, BK266, BK274, HB⟩ := hcut
                cases kq with
                | zero => exact absurd HA.out (by simp [argosylaw13_FactOpens.j4])
                | succ kj34 =>
                 have H := HA.out
                 clear HA
                 simp only [argosylaw13_FactOpens.j4] at H
                 by_cases c46 : x71_34 = true
                 ·subst c46
                  have H1 : (argosylaw13_FactOpens.l1 kj34 l1 t269 x6_2 x8_18 (wrap64 (x9_4 + 1)) l0_0 ((rd_T40 t269 x6_2).f0) ((rd_T40 t269 x6_2).f1) ((rd_T40 t269 x6_2).f2)) = some r := by rw [if_pos rfl] at H; exact H
                  clear H
                  have H := H1
                  clear H1
                  have H' := Aside0.mk H
                  clear H
                  go_wp2
                  go_roundg kj34
                  case measure => have := HJ2.out; have := HK2.out; have := HJ18.out; have := HK4.out; have := HJ34.out; omega
                  case rel => exact ⟨(wrap64 (x9_4 + 1)), (by first | rfl | (simp; done) | (simp [*]; done)), H', ⟨by have := HJ2.out; have := HK2.out; have := HJ18.out; have := HK4.out; have := HJ34.out; omega⟩, ⟨by (with_reducible repeat (first | apply Kd.R_alloc | apply Kd.R_drewN | apply Kd.R_drew)); exact HO_5.out⟩, ⟨by (with_reducible repeat (first | apply Kd.R_alloc | apply Kd.R_drewN | apply Kd.R_drew)); exact HO_8.out⟩, ⟨by (with_reducible repeat (first | refine blk_drewN ?_ _ | refine blk_drew ?_ | refine blk_alloc ?_ _)); exact BK266.out⟩, ⟨by (with_reducible repeat (first | refine blk_drewN ?_ _ | refine blk_drew ?_ | refine blk_alloc ?_ _)); exact BK274.out⟩, ⟨by repeat (first | (with_reducible first | exact HB.out | apply below_alloc | apply pw_below_drewN | apply below_drew1 | refine below_set ?_ GE266.out | refine below_set ?_ GE274.out) | exact HB.out)⟩⟩
                 ·replace c46 := Bool.eq_false_iff.mpr c46
                  subst c46
                  have H1 : (if t288 = 0 then ((fact_Open.f kj34 l0_0 t285).bind fun t290 => (if (t290.length : Int) = (wrap64 ((t269.length : Int) - 1)) then (argosylaw13_FactOpens.l1 kj34 l1 t269 x6_2 x8_18 (wrap64 (x9_4 + 1)) l0_0 ((rd_T40 t269 x6_2).f0) ((rd_T40 t269 x6_2).f1) ((rd_T40 t269 x6_2).f2)) else (some false))) else (some false)) = some r := by rw [if_neg (show ¬ (false = true) by decide)] at H; exact H
                  clear H
                  have H := H1
                  clear H1
                  by_cases c47 : t288 = 0
                  ·rw [if_pos c47] at H
                   have c47b0 : (t288 == 0) = true := beq_iff_eq.mpr c47
                   have c47b1 : (t288 != 0) = false := bne_eq_false_iff_eq.mpr c47
                   clear c47
                   replace H := Option.bind_eq_some_iff.mp H
                   obtain ⟨t290, A480, H⟩ := H
                   replace H : (if (t290.length : Int) = (wrap64 ((t269.length : Int) - 1)) then (argosylaw13_FactOpens.l1 kj34 l1 t269 x6_2 x8_18 (wrap64 (x9_4 + 1)) l0_0 ((rd_T40 t269 x6_2).f0) ((rd_T40 t269 x6_2).f1) ((rd_T40 t269 x6_2).f2)) else (some false)) = some r := H
                   have A48 := Aside0.mk A480
                   clear A480
                   by_cases c49 : (t290.length : Int) = (wrap64 ((t269.length : Int) - 1))
                   ·rw [if_pos c49] at H
                    have c49b0 : ((t290.length : Int) == (wrap64 ((t269.length : Int) - 1))) = true := beq_iff_eq.mpr c49
                    have c49b1 : ((t290.length : Int) != (wrap64 ((t269.length : Int) - 1))) = false := bne_eq_false_iff_eq.mpr c49
                    clear c49
                    have H' := Aside0.mk H
                    clear H
                    have hnb50 := NB266_274.out
                    have hnc50 := NB274_266.out
                    have hcz51_0 : wc.cell? ⟨gb266, 0, none⟩ = some (.slice A0_0 l0_0.length c0_0) := (blk_cell BK266.out 0).trans rfl
                    have hfz51_0 := blk_frozen BK266.out 0
                    obtain ⟨Ao52, co52, eo52⟩ := Kd.R_slice HO_10.out
                    subst eo52
                    go_wp2_with (first | (go_at_call 9; (with_reducible refine (fact_Open.calls kj34 _ _ l0_0 _ _ t285 t290 _ ?side1 ?side2 ?side3 ?side4 A48.out).mono ?_); (case side1 => repeat (first | exact (Kd.C_below HR0_0.out HB.out) | (with_reducible refine Kd.C_alloc ?_ _) | (with_reducible refine Kd.C_drewN ?_ _) | (with_reducible refine Kd.C_drew ?_))); (case side2 => exact HC0_0.out); (case side3 => repeat (first | exact (Kd.R_reads' HO_10.out).2.2 | (with_reducible refine Kd.C_alloc ?_ _) | (with_reducible refine Kd.C_drewN ?_ _) | (with_reducible refine Kd.C_drew ?_))); (case side4 => exact (Kd.R_reads' HO_10.out).2.1); rintro e w53 ⟨v291, rfl, ho0, hb⟩; have n0_ := Aside0.mk (Kd.R_elder' (by (with_reducible repeat (first | apply Kd.R_alloc | apply Kd.R_drewN | apply Kd.R_drew)); exact HO_5.out) (Kd.R_base ho0) hb); have n1_ := Aside0.mk (Kd.R_below (by (with_reducible repeat (first | apply Kd.R_alloc | apply Kd.R_drewN | apply Kd.R_drew)); exact HO_8.out) hb); have n2_ := Aside0.mk (Kd.R_below (by (with_reducible repeat (first | apply Kd.R_alloc | apply Kd.R_drewN | apply Kd.R_drew)); exact HO_10.out) hb); have n3_ := Aside0.mk (Kd.R_lower (Kd.R_newB (Kd.R_new' ho0 (Kd.R_lt (by (with_reducible repeat (first | apply Kd.R_alloc | apply Kd.R_drewN | apply Kd.R_drew)); exact HO_5.out))) (g := gb274) (o := .cells #[.int .i64 ((rd_T40 t269 x6_2).f0), .bool ((rd_T40 t269 x6_2).f1), .int .i64 ((rd_T40 t269 x6_2).f2)] 40 (0, 0)) (by (with_reducible repeat (first | refine blk_drewN ?_ _ | refine blk_drew ?_ | refine blk_alloc ?_ _)); exact BK274.out)) (below_size (by repeat (first | (with_reducible first | exact HB.out | apply below_alloc | apply pw_below_drewN | apply below_drew1 | refine below_set ?_ GE266.out | refine below_set ?_ GE274.out) | exact HB.out)))); have n4_ := Aside0.mk (blk_below (g := gb266) (o := .cells #[.slice A0_0 l0_0.length c0_0] 24 (0, 0)) (by (with_reducible repeat (first | refine blk_drewN ?_ _ | refine blk_drew ?_ | refine blk_alloc ?_ _)); exact BK266.out) hb); have n5_ := Aside0.mk (blk_below (g := gb274) (o := .cells #[.int .i64 ((rd_T40 t269 x6_2).f0), .bool ((rd_T40 t269 x6_2).f1), .int .i64 ((rd_T40 t269 x6_2).f2)] 40 (0, 0)) (by (with_reducible repeat (first | refine blk_drewN ?_ _ | refine blk_drew ?_ | refine blk_alloc ?_ _)); exact BK274.out) hb); have n6_ := Aside0.mk (below_step (by repeat (first | (with_reducible first | exact HB.out | apply below_alloc | apply pw_below_drewN | apply below_drew1 | refine below_set ?_ GE266.out | refine below_set ?_ GE274.out) | exact HB.out)) hb); clear HO_5; clear HO_8; clear HO_10; clear BK266; clear BK274; clear HB; have HO_5 := n0_; have HO_8 := n1_; have HO_10 := n2_; have HO292 := n3_; have BK266 := n4_; have BK274 := n5_; have HB := n6_; clear n0_ n1_ n2_ n3_ n4_ n5_ n6_; (try clear hb); (try clear hb2); (try clear hk); (try clear hi); (try clear ho0); obtain ⟨Ao54, co54, eo54⟩ := Kd.R_slice HO292.out; subst eo54))
                    go_roundg kj34
                    case measure => have := HJ2.out; have := HK2.out; have := HJ18.out; have := HK4.out; have := HJ34.out; omega
                    case rel => exact ⟨(wrap64 (x9_4 + 1)), (by first | rfl | (simp; done) | (simp [*]; done)), H', ⟨by have := HJ2.out; have := HK2.out; have := HJ18.out; have := HK4.out; have := HJ34.out; omega⟩, ⟨by (with_reducible repeat (first | apply Kd.R_alloc | apply Kd.R_drewN | apply Kd.R_drew)); exact Kd.R_mono HO_5.out (fun _ hk => hk.1)⟩, ⟨by (with_reducible repeat (first | apply Kd.R_alloc | apply Kd.R_drewN | apply Kd.R_drew)); exact HO_8.out⟩, ⟨by (with_reducible repeat (first | refine blk_drewN ?_ _ | refine blk_drew ?_ | refine blk_alloc ?_ _)); exact BK266.out⟩, ⟨by (with_reducible repeat (first | refine blk_drewN ?_ _ | refine blk_drew ?_ | refine blk_alloc ?_ _)); exact BK274.out⟩, ⟨by repeat (first | (with_reducible first | exact HB.out | apply below_alloc | apply pw_below_drewN | apply below_drew1 | refine below_set ?_ GE266.out | refine below_set ?_ GE274.out) | exact HB.out)⟩⟩
                   ·rw [if_neg c49] at H
                    have c49b0 : ((t290.length : Int) == (wrap64 ((t269.length : Int) - 1))) = false := beq_eq_false_iff_ne.mpr c49
                    have c49b1 : ((t290.length : Int) != (wrap64 ((t269.length : Int) - 1))) = true := bne_iff_ne.mpr c49
                    obtain rfl := Option.some.inj H
                    have hnb55 := NB266_274.out
                    have hnc55 := NB274_266.out
                    have hcz56_0 : wc.cell? ⟨gb266, 0, none⟩ = some (.slice A0_0 l0_0.length c0_0) := (blk_cell BK266.out 0).trans rfl
                    have hfz56_0 := blk_frozen BK266.out 0
                    obtain ⟨Ao57, co57, eo57⟩ := Kd.R_slice HO_10.out
                    subst eo57
                    go_wp2_with (first | (go_at_call 9; (with_reducible refine (fact_Open.calls kj34 _ _ l0_0 _ _ t285 t290 _ ?side1 ?side2 ?side3 ?side4 A48.out).mono ?_); (case side1 => repeat (first | exact (Kd.C_below HR0_0.out HB.out) | (with_reducible refine Kd.C_alloc ?_ _) | (with_reducible refine Kd.C_drewN ?_ _) | (with_reducible refine Kd.C_drew ?_))); (case side2 => exact HC0_0.out); (case side3 => repeat (first | exact (Kd.R_reads' HO_10.out).2.2 | (with_reducible refine Kd.C_alloc ?_ _) | (with_reducible refine Kd.C_drewN ?_ _) | (with_reducible refine Kd.C_drew ?_))); (case side4 => exact (Kd.R_reads' HO_10.out).2.1); rintro e w58 ⟨v291, rfl, ho0, hb⟩; have n0_ := Aside0.mk (Kd.R_elder' (by (with_reducible repeat (first | apply Kd.R_alloc | apply Kd.R_drewN | apply Kd.R_drew)); exact HO_5.out) (Kd.R_base ho0) hb); have n1_ := Aside0.mk (Kd.R_below (by (with_reducible repeat (first | apply Kd.R_alloc | apply Kd.R_drewN | apply Kd.R_drew)); exact HO_8.out) hb); have n2_ := Aside0.mk (Kd.R_below (by (with_reducible repeat (first | apply Kd.R_alloc | apply Kd.R_drewN | apply Kd.R_drew)); exact HO_10.out) hb); have n3_ := Aside0.mk (Kd.R_lower (Kd.R_newB (Kd.R_new' ho0 (Kd.R_lt (by (with_reducible repeat (first | apply Kd.R_alloc | apply Kd.R_drewN | apply Kd.R_drew)); exact HO_5.out))) (g := gb274) (o := .cells #[.int .i64 ((rd_T40 t269 x6_2).f0), .bool ((rd_T40 t269 x6_2).f1), .int .i64 ((rd_T40 t269 x6_2).f2)] 40 (0, 0)) (by (with_reducible repeat (first | refine blk_drewN ?_ _ | refine blk_drew ?_ | refine blk_alloc ?_ _)); exact BK274.out)) (below_size (by repeat (first | (with_reducible first | exact HB.out | apply below_alloc | apply pw_below_drewN | apply below_drew1 | refine below_set ?_ GE266.out | refine below_set ?_ GE274.out) | exact HB.out)))); have n4_ := Aside0.mk (blk_below (g := gb266) (o := .cells #[.slice A0_0 l0_0.length c0_0] 24 (0, 0)) (by (with_reducible repeat (first | refine blk_drewN ?_ _ | refine blk_drew ?_ | refine blk_alloc ?_ _)); exact BK266.out) hb); have n5_ := Aside0.mk (blk_below (g := gb274) (o := .cells #[.int .i64 ((rd_T40 t269 x6_2).f0), .bool ((rd_T40 t269 x6_2).f1), .int .i64 ((rd_T40 t269 x6_2).f2)] 40 (0, 0)) (by (with_reducible repeat (first | refine blk_drewN ?_ _ | refine blk_drew ?_ | refine blk_alloc ?_ _)); exact BK274.out) hb); have n6_ := Aside0.mk (below_step (by repeat (first | (with_reducible first | exact HB.out | apply below_alloc | apply pw_below_drewN | apply below_drew1 | refine below_set ?_ GE266.out | refine below_set ?_ GE274.out) | exact HB.out)) hb); clear HO_5; clear HO_8; clear HO_10; clear BK266; clear BK274; clear HB; have HO_5 := n0_; have HO_8 := n1_; have HO_10 := n2_; have HO292 := n3_; have BK266 := n4_; have BK274 := n5_; have HB := n6_; clear n0_ n1_ n2_ n3_ n4_ n5_ n6_; (try clear hb); (try clear hb2); (try clear hk); (try clear hi); (try clear ho0); obtain ⟨Ao59, co59, eo59⟩ := Kd.R_slice HO292.out; subst eo59))
                    go_ret
                    exact ⟨by first | rfl | (simp [errW_none, errW_some] <;> rfl) | (simp [*, errW_none, errW_some] <;> rfl), by repeat (first | (with_reducible first | exact HB.out | apply below_alloc | apply pw_below_drewN | apply below_drew1 | refine below_set ?_ GE266.out | refine below_set ?_ GE274.out) | exact HB.out)⟩
                  ·rw [if_neg c47] at H
                   have c47b0 : (t288 == 0) = false := beq_eq_false_iff_ne.mpr c47
                   have c47b1 : (t288 != 0) = true := bne_iff_ne.mpr c47
                   obtain rfl := Option.some.inj H
                   go_wp2
                   go_ret
                   exact ⟨by first | rfl | (simp [errW_none, errW_some] <;> rfl) | (simp [*, errW_none, errW_some] <;> rfl), by repeat (first | (with_reducible first | exact HB.out | apply below_alloc | apply pw_below_drewN | apply below_drew1 | refine below_set ?_ GE266.out | refine below_set ?_ GE274.out) | exact HB.out)⟩
              ·rw [if_neg c33] at H
               exact absurd H (by simp)
             ·rw [if_neg c32] at H
              exact absurd H (by simp)
            ·rw [if_neg c31] at H
             have c31b0 : decide (x9_4 < 2) = false := decide_eq_false c31
             clear c31
             have H' := Aside0.mk H
             clear H
             go_wp2
             go_roundg k4
             case measure => have := HJ2.out; have := HK2.out; have := HJ18.out; have := HK4.out; omega
             case rel => exact ⟨(wrap64 (x6_2 + 1)), (by first | rfl | (simp; done) | (simp [*]; done)), H', ⟨by have := HJ2.out; have := HK2.out; have := HJ18.out; have := HK4.out; omega⟩, ⟨by (with_reducible repeat (first | apply Kd.R_alloc | apply Kd.R_drewN | apply Kd.R_drew)); exact Kd.R_mono HO_5.out (fun _ hk => trivial)⟩, ⟨by (with_reducible repeat (first | refine blk_drewN ?_ _ | refine blk_drew ?_ | refine blk_alloc ?_ _)); exact BK266.out⟩, ⟨by repeat (first | (with_reducible first | exact HB.out | apply below_alloc | apply pw_below_drewN | apply below_drew1 | refine below_set ?_ GE266.out | refine below_set ?_ GE274.out) | exact HB.out)⟩⟩
       ·rw [if_neg c18] at H
        exact absurd H (by simp)
      ·rw [if_neg c17] at H
       have c17b0 : decide (x6_2 < (t269.length : Int)) = false := decide_eq_false c17
       clear c17
       replace H := Option.bind_eq_some_iff.mp H
       obtain ⟨t272, A600, H⟩ := H
       replace H : (some t272) = some r := H
       have A60 := Aside0.mk A600
       clear A600
       obtain rfl := Option.some.inj H
       obtain ⟨Ao61, co61, eo61⟩ := Kd.R_slice HO_5.out
       subst eo61
       go_wp2_with (first | ((with_reducible refine gate_callee (f := 6) rfl ?_); refine goesL_ (some 84) rfl rfl Try.func6 (by kernel_rfl) rfl #[] rfl (by (try simp only [List.map_toArray, List.map_cons, List.map_nil]); first | done | rfl | (simp only [List.length_drop, List.length_take]; rfl)) ?_; (with_reducible refine (argosylaw13_lives.calls k2  t272 _ A60.out).mono ?_); rintro e w62 ⟨rfl, hb⟩; refine ⟨_, rfl, ?_⟩; have n0_ := Aside0.mk (Kd.R_below (by (with_reducible repeat (first | apply Kd.R_alloc | apply Kd.R_drewN | apply Kd.R_drew)); exact HO_5.out) hb); have n1_ := Aside0.mk (blk_below (g := gb266) (o := .cells #[.slice A0_0 l0_0.length c0_0] 24 (0, 0)) (by (with_reducible repeat (first | refine blk_drewN ?_ _ | refine blk_drew ?_ | refine blk_alloc ?_ _)); exact BK266.out) hb); have n2_ := Aside0.mk (below_step (by repeat (first | (with_reducible first | exact HB.out | apply below_alloc | apply pw_below_drewN | apply below_drew1 | refine below_set ?_ GE266.out) | exact HB.out)) hb); clear HO_5; clear BK266; clear HB; have HO_5 := n0_; have BK266 := n1_; have HB := n2_; clear n0_ n1_ n2_; (try clear hb); (try clear hb2); (try clear hk); (try clear hi)))
       go_ret
       exact ⟨by first | rfl | (simp [errW_none, errW_some] <;> rfl) | (simp [*, errW_none, errW_some] <;> rfl), by repeat (first | (with_reducible first | exact HB.out | apply below_alloc | apply pw_below_drewN | apply below_drew1 | refine below_set ?_ GE266.out) | exact HB.out)⟩
end Go.Proofs.Ytgilgicanggleab.F
end

section
namespace Go.Proofs.Ytgilgicanggleab.F
open Go.RowKit Go.Proofs.YtgilgicanggleabW.PrintWords Go.Proofs.YtgilgicanggleabW.PrintLast Go.Proofs.YtgilgicanggleabW.PrintMore
open Go.RowKit Go.Deep
section
variable {α β : Type}
structure Opens (P : Program) (t : TypeId) (d : Kd α) (V : α → Prop) : Prop where
 out : ∀ {H : Type} (enc : TypeId × Value → H) (w : World) (base : Nat) (spare : Nat → Bool) (held : Bool) (fuel : Nat) (cs : List Value) (r : DataW H × List MemPlace),
  DataW.trod enc P w base spare held fuel t cs = some r → ∃ x, d.K w x cs ∧ V x
theorem opens_int {P : Program} {t : TypeId} {k : IntKind} (ht : P.underlying t = some (.int k)) : Opens P t (Kd.int k) (fun n => (Lit.int k n).wf = true) := by
 constructor
 intro H enc w base spare held fuel cs r h
 obtain ⟨x, rfl, _, hw⟩ := DataW.trod_int ht h
 exact ⟨x, rfl, hw⟩
theorem opens_bool {P : Program} {t : TypeId} (ht : P.underlying t = some .bool) : Opens P t Kd.bool (fun _ => True) := by
 constructor
 intro H enc w base spare held fuel cs r h
 obtain ⟨x, rfl, _⟩ := DataW.trod_bool ht h
 exact ⟨x, rfl, trivial⟩
theorem opens_string {P : Program} {t : TypeId} (ht : P.underlying t = some .string) : Opens P t Kd.string (fun s => s.size ≤ maxLen) := by
 constructor
 intro H enc w base spare held fuel cs r h
 obtain ⟨x, rfl, _, hm⟩ := DataW.trod_string ht h
 exact ⟨x, rfl, hm⟩
theorem opens_iso {P : Program} {t : TypeId} {d : Kd α} {V : α → Prop} (f : β → α) (g : α → β) (hg : ∀ y, f (g y) = y) (h : Opens P t d V) : Opens P t (Kd.iso d f) (fun x => V (f x)) := by
 constructor
 intro H enc w base spare held fuel cs r hr
 obtain ⟨x, hk, hv⟩ := h.out enc w base spare held fuel cs r hr
 exact ⟨g x, by show d.K w (f (g x)) cs; rw [hg]; exact hk, by show V (f (g x)); rw [hg]; exact hv⟩
theorem add_add_ (a : Addr) (i j : Nat) : (a.add i).add j = a.add (i + j) := by
 unfold Addr.add
 by_cases hi : i = 0 <;> by_cases hj : j = 0 <;> simp [hi, hj, Nat.add_assoc]
theorem opens_slice {P : Program} {t e : TypeId} {d : Kd α} {V : α → Prop} (z : α) (ht : P.underlying t = some (.slice e)) (hc : P.cellsOf e = d.sz) (h : Opens P e d V) :
  Opens P t (Kd.slice e d) (fun xs => xs.length ≤ maxLen ∧ ∀ x ∈ xs, V x) := by
 constructor
 intro H enc w base spare held fuel cs r hr
 haveI : Inhabited α := ⟨z⟩
 rcases open_slice ht hr with ⟨rfl, _⟩ | ⟨a, len, cap, m, n, D, Pl, rfl, hb, hl, hm, hmm, _, hx⟩
 ·exact ⟨[], ⟨none, 0, rfl, Nat.le_refl _, Kd.C_nil d w⟩, Nat.zero_le _, fun x hx => by cases hx⟩
 ·have hlm : len ≤ m := by rw [hmm]; split <;> omega
  obtain ⟨f, hf⟩ := choose_lt (n := len) (p := fun i x => ∃ c, c.length = d.sz ∧ d.K w x c ∧ V x ∧ ∀ j u, c[j]? = some u → w.cell? (a.add (i * d.sz + j)) = some u) (fun i hi => by
   obtain ⟨cs', h1, h2⟩ := hx i (by omega)
   obtain ⟨x, hk, hv⟩ := h.out enc w base spare held n cs' _ h2
   obtain ⟨_, hl', hcell⟩ := World.cells?_some h1
   rw [hc] at hl' hcell
   refine ⟨x, cs', hl', hk, hv, fun j u hu => ?_⟩
   have hj : j < d.sz := by
    rcases Nat.lt_or_ge j d.sz with hj | hj
    ·exact hj
    ·rw [List.getElem?_eq_none (by omega)] at hu; cases hu
   have := hcell j hj
   rw [add_add_] at this
   rw [this, hu])
  have hlen : ((List.range len).map f).length = len := by simp
  refine ⟨(List.range len).map f, ⟨some a, cap, by rw [hlen], by rw [hlen]; exact hl, ?_⟩, by rw [hlen]; omega, ?_⟩
  ·rw [hlen]
   refine ⟨hlen, ?_, fun _ => ⟨a, rfl, fun j p hp => ?_⟩⟩
   ·unfold maxLen at hm; omega
   ·have hj : j < len := by
     have := (List.getElem?_eq_some_iff.1 hp).1
     rwa [hlen] at this
    have hpe : f j = p := by
     rw [List.getElem?_map, List.getElem?_range hj] at hp
     exact Option.some.inj hp
    obtain ⟨c, h1, h2, _, h4⟩ := hf j hj
    rw [hpe] at h2
    exact ⟨c, h1, h2, h4⟩
  ·intro x hx
   obtain ⟨j, hj, rfl⟩ := List.mem_map.1 hx
   obtain ⟨c, _, _, h3, _⟩ := hf j (List.mem_range.1 hj)
   exact h3
structure OpensF (P : Program) (fs : List Field) (off : Nat) (d : Kd α) (V : α → Prop) : Prop where
 out : ∀ {H : Type} (enc : TypeId × Value → H) (w : World) (base : Nat) (spare : Nat → Bool) (held : Bool) (fuel : Nat) (cs : List Value),
  cs.length = off + d.sz → (∀ f ∈ fs, ∃ r, DataW.trod enc P w base spare held fuel f.type ((cs.drop f.offset).take (P.cellsOf f.type)) = some r) → ∃ x, d.K w x (cs.drop off) ∧ V x
theorem opensF_one {P : Program} {f : Field} {off : Nat} {d : Kd α} {V : α → Prop} (ho : f.offset = off) (hc : P.cellsOf f.type = d.sz) (h : Opens P f.type d V) : OpensF P [f] off d V := by
 constructor
 intro H enc w base spare held fuel cs hl hr
 obtain ⟨r, hr⟩ := hr f (List.mem_singleton.2 rfl)
 rw [ho, hc, List.take_of_length_le (by rw [List.length_drop]; omega)] at hr
 exact h.out enc w base spare held fuel _ r hr
theorem opensF_cons {P : Program} {f : Field} {fs : List Field} {off : Nat} {d : Kd α} {d' : Kd β} {V : α → Prop} {V' : β → Prop} (ho : f.offset = off) (hc : P.cellsOf f.type = d.sz) (h : Opens P f.type d V) (h' : OpensF P fs (off + d.sz) d' V') :
  OpensF P (f :: fs) off (Kd.pair d d') (fun x => V x.1 ∧ V' x.2) := by
 constructor
 intro H enc w base spare held fuel cs hl hr
 have hl' : cs.length = off + (d.sz + d'.sz) := hl
 obtain ⟨r, hr1⟩ := hr f (List.mem_cons_self ..)
 rw [ho, hc] at hr1
 obtain ⟨x, hk, hv⟩ := h.out enc w base spare held fuel _ r hr1
 obtain ⟨y, hk', hv'⟩ := h'.out enc w base spare held fuel cs (by omega) (fun g hg => hr g (List.mem_cons_of_mem _ hg))
 refine ⟨(x, y), ⟨(cs.drop off).take d.sz, cs.drop (off + d.sz), ?_, hk, hk'⟩, hv, hv'⟩
 rw [← List.drop_drop, List.take_append_drop]
theorem opens_struct {P : Program} {t : TypeId} {fs : Array Field} {d : Kd α} {V : α → Prop} (ht : P.underlying t = some (.struct fs)) (hc : P.cellsOf t = d.sz) (h : OpensF P fs.toList 0 d V) : Opens P t d V := by
 constructor
 intro H enc w base spare held fuel cs r hr
 obtain ⟨xs, n, _, _, hl, hxl, hx⟩ := DataW.trod_struct ht hr
 obtain ⟨x, hk, hv⟩ := h.out enc w base spare held n cs (by omega) (fun f hf => by
  obtain ⟨i, hi, rfl⟩ := List.mem_iff_getElem.1 hf
  have hi' : i < fs.size := by simpa using hi
  have := hx i fs[i] (by simp [hi'])
  rw [List.getElem?_eq_getElem (by omega)] at this
  exact ⟨_, by simpa using this⟩)
 rw [List.drop_zero] at hk
 exact ⟨x, hk, hv⟩
end
end Go.Proofs.Ytgilgicanggleab.F
end

section
namespace Go.Proofs.Ytgilgicanggleab.Pure
set_option linter.unusedVariables false
open Go.RowKit Go.Proofs.Ytgilgicanggleab.F Go.Proofs.YtgilgicanggleabW.PrintWords Go.Proofs.YtgilgicanggleabW.PrintLast
theorem w64f (x : Int) (h : -9223372036854775808 ≤ x ∧ x ≤ 9223372036854775807) : wrap64 x = x := by unfold wrap64; omega
theorem fine_iff (a b c : Int) (d : Bool) : fineB ⟨a, b, c, d⟩ = true ↔ (0 ≤ a ∧ a ≤ 3 ∧ 0 ≤ c ∧ c ≤ 3 ∧ (b = c ∨ b = c + 1) ∧ (b > 0 → a = 2) ∧ (d = true → b > c)) := by
 unfold fineB
 simp only [Bool.and_eq_true, Bool.or_eq_true, decide_eq_true_eq, Bool.not_eq_true', decide_eq_false_iff_not]
 constructor
 ·rintro ⟨⟨⟨⟨⟨⟨h1, h2⟩, h3⟩, h4⟩, h5⟩, h6⟩, h7⟩
  refine ⟨h1, h2, h3, h4, h5, fun h => ?_, fun h => ?_⟩
  ·rcases h6 with h6 | h6
   ·exact absurd h h6
   ·exact h6
  ·rcases h7 with h7 | h7
   ·rw [h] at h7; cases h7
   ·exact h7
 ·rintro ⟨h1, h2, h3, h4, h5, h6, h7⟩
  refine ⟨⟨⟨⟨⟨⟨h1, h2⟩, h3⟩, h4⟩, h5⟩, ?_⟩, ?_⟩
  ·by_cases h : b > 0
   ·exact .inr (h6 h)
   ·exact .inl h
  ·cases d
   ·exact .inl rfl
   ·exact .inr (h7 rfl)
theorem event_kinds {k it t : Int} {s : List Int} (h : eventB k it t s = true) : (k = 1 ∨ k = 2 ∨ k = 3 ∨ k = 4 ∨ k = 5 ∨ k = 6) ∧ 0 ≤ t ∧ t ≤ 3 := by
 unfold eventB at h
 split at h
 ·simp at h; omega
 ·split at h
  ·simp at h; omega
  ·simp at h
theorem known_law (a b c : Int) (d : Bool) (t k : Int) (hk : (k = 1 ∨ k = 2 ∨ k = 3 ∨ k = 4 ∨ k = 5 ∨ k = 6) ∧ 0 ≤ t ∧ t ≤ 3) (hf : fineB ⟨a, b, c, d⟩ = true) (h2 : (knownF ⟨a, b, c, d⟩ t k).2 = true) :
  fineB (knownF ⟨a, b, c, d⟩ t k).1 = true ∧ (knownF (knownF ⟨a, b, c, d⟩ t k).1 t k).2 = false ∧ ¬ (knownF ⟨a, b, c, d⟩ t k).1 = ⟨a, b, c, d⟩ := by
 rw [fine_iff] at hf
 obtain ⟨f1, f2, f3, f4, f5, f6, f7⟩ := hf
 have w1 : wrap64 (b + 1) = b + 1 := w64f _ (by omega)
 have w2 : wrap64 (c + 1) = c + 1 := w64f _ (by omega)
 have w3 : wrap64 (c + 1 + 1) = c + 1 + 1 := w64f _ (by omega)
 obtain ⟨hk, t0, t3⟩ := hk
 rcases hk with rfl | rfl | rfl | rfl | rfl | rfl
 ·simp only [knownF, if_true] at h2 ⊢
  have : a = 0 := by simpa using h2
  subst this
  refine ⟨by rw [fine_iff]; simp, by decide, fun h => ?_⟩
  injection h; omega
 ·simp only [knownF, if_true] at h2 ⊢
  have : a = 1 := by simpa using h2
  subst this
  refine ⟨by rw [fine_iff]; simp, by decide, fun h => ?_⟩
  injection h; omega
 ·simp only [knownF, if_true] at h2 ⊢
  have : a = 1 := by simpa using h2
  subst this
  refine ⟨by rw [fine_iff]; simp, by decide, fun h => ?_⟩
  injection h; omega
 ·simp [knownF, w1] at h2 ⊢
  obtain ⟨⟨⟨h3, h4⟩, h5⟩, h6⟩ := h2
  subst h4
  refine ⟨?_, ?_⟩
  ·rw [fine_iff]; refine ⟨f1, f2, f3, f4, ?_, fun _ => h3, fun h => by cases h⟩; omega
  ·exact ⟨fun _ _ h => by omega, by omega⟩
 ·simp [knownF, w2] at h2 ⊢
  obtain ⟨⟨h3, h4⟩, h5⟩ := h2
  subst h4
  first
  | (rw [fine_iff]; refine ⟨f1, f2, f3, f4, f5, f6, fun _ => ?_⟩; omega)
  | (refine ⟨?_, ?_⟩ <;> first | (rw [fine_iff]; refine ⟨f1, f2, f3, f4, f5, f6, fun _ => ?_⟩; omega) | simp)
 ·simp [knownF, w2, w3] at h2 ⊢
  obtain ⟨⟨⟨h3, h4⟩, h5⟩, h6⟩ := h2
  subst h4
  refine ⟨?_, ?_⟩
  ·rw [fine_iff]; refine ⟨f1, f2, ?_, ?_, ?_, f6, fun h => by cases h⟩ <;> omega
  ·omega
theorem apply_ok {p : List S44} {l : List S52} {k it t : Int} {s : List Int} (h : (applyL p l k it t s).2 = 0) :
  factsB p l = true ∧ eventB k it t s = true ∧ (0 < it ∧ it < (l.length : Int)) ∧ (rd_T44 p it).f2 = false ∧ (knownF (rd_T52 l it) t k).2 = true ∧ (applyL p l k it t s).1 = l.set it.toNat (knownF (rd_T52 l it) t k).1 := by
 unfold applyL at h ⊢
 by_cases h1 : factsB p l = true
 ·rw [if_pos h1] at h ⊢
  by_cases h2 : eventB k it t s = true
  ·by_cases h3 : (l.length : Int) ≤ it
   ·have hx : applyB p l k it t s = (14, l) := by unfold applyB; rw [if_pos h2, if_pos h3]
    rw [hx] at h; simp at h
   ·by_cases h4 : (rd_T44 p it).f2 = true
    ·have hx : applyB p l k it t s = (14, l) := by unfold applyB; rw [if_pos h2, if_neg h3, if_pos h4]
     rw [hx] at h; simp at h
    ·by_cases h5 : (knownF (rd_T52 l it) t k).2 = true
     ·have hx : applyB p l k it t s = (0, l.set it.toNat (knownF (rd_T52 l it) t k).1) := by unfold applyB; rw [if_pos h2, if_neg h3, if_neg h4, if_pos h5]
      rw [hx]
      exact ⟨h1, h2, ⟨(eventB_item h2).1, by omega⟩, by simpa using h4, h5, rfl⟩
     ·have hx : applyB p l k it t s = (14, l) := by unfold applyB; rw [if_pos h2, if_neg h3, if_neg h4, if_neg h5]
      rw [hx] at h; simp at h
  ·have hx : applyB p l k it t s = (2, l) := by unfold applyB; rw [if_neg h2]
   rw [hx] at h; simp at h
 ·rw [if_neg h1] at h; simp at h
theorem rd_set (l : List S52) (n : Nat) (x : S52) (j : Nat) (hn : n < l.length) : rd_T52 (l.set n x) (j : Int) = if n = j then x else rd_T52 l (j : Int) := by
 unfold rd_T52
 rw [Int.toNat_natCast, List.getD_eq_getElem?_getD, List.getD_eq_getElem?_getD, List.getElem?_set]
 split
 ·first | rfl | (rw [if_pos (by omega)]; rfl)
 ·rfl
theorem facts_iff (p : List S44) (l : List S52) : factsB p l = true ↔ (l.length = p.length ∧ rightB p = true ∧ ∀ j, j < l.length → factOk p l j = true) := by
 unfold factsB
 simp only [Bool.and_eq_true, decide_eq_true_eq, List.all_eq_true, List.mem_range'_1]
 constructor
 ·rintro ⟨h1, h2, h3⟩; exact ⟨h1, h2, fun j hj => h3 j (by omega)⟩
 ·rintro ⟨h1, h2, h3⟩; exact ⟨h1, h2, fun j hj => h3 j (by omega)⟩
theorem apply_law {p : List S44} {l : List S52} {k it t : Int} {s : List Int} (h : (applyL p l k it t s).2 = 0) :
  factsB p (applyL p l k it t s).1 = true ∧ (applyL p (applyL p l k it t s).1 k it t s).2 = 14 ∧ (applyL p l k it t s).1.length = l.length ∧ ∀ j : Nat, j < l.length → (rd_T52 (applyL p l k it t s).1 (j : Int) = rd_T52 l (j : Int) ↔ ¬ (j : Int) = it) := by
 obtain ⟨h1, h2, ⟨h3, h4⟩, h5, h6, h7⟩ := apply_ok h
 obtain ⟨n, rfl⟩ := Int.eq_ofNat_of_zero_le (Int.le_of_lt h3)
 rw [Int.toNat_natCast] at h7
 rw [h7]
 obtain ⟨f1, f2, f3⟩ := (facts_iff p l).1 h1
 have hn : n < l.length := by omega
 have hok := f3 n hn
 unfold factOk at hok
 rw [h5, Bool.and_eq_true] at hok
 have hkn : ∀ x : S52, fineB x = true → (knownF x t k).2 = true → fineB (knownF x t k).1 = true ∧ (knownF (knownF x t k).1 t k).2 = false ∧ ¬ (knownF x t k).1 = x := fun ⟨a, b, c, d⟩ hx hy => known_law a b c d t k (event_kinds h2) hx hy
 obtain ⟨g1, g2, g3⟩ := hkn _ hok.1 h6
 have hF : factsB p (l.set n (knownF (rd_T52 l (n : Int)) t k).1) = true := by
  rw [facts_iff]
  refine ⟨by rw [List.length_set]; exact f1, f2, fun j hj => ?_⟩
  rw [List.length_set] at hj
  unfold factOk
  rw [rd_set _ _ _ _ hn]
  by_cases hnj : n = j
  ·subst hnj
   rw [if_pos rfl, h5, g1]; rfl
  ·rw [if_neg hnj]
   exact f3 j hj
 refine ⟨hF, ?_, by rw [List.length_set], fun j hj => ?_⟩
 ·have hx : applyB p (l.set n (knownF (rd_T52 l (n : Int)) t k).1) k n t s = (14, l.set n (knownF (rd_T52 l (n : Int)) t k).1) := by
   unfold applyB
   rw [if_pos h2, if_neg (by rw [List.length_set]; omega), if_neg (by rw [h5]; simp), rd_set _ _ _ _ hn, if_pos rfl, if_neg (by rw [g2]; simp)]
  unfold applyL
  rw [if_pos hF, hx]
  rfl
 ·rw [rd_set _ _ _ _ hn]
  by_cases hnj : n = j
  ·subst hnj
   rw [if_pos rfl]
   exact ⟨fun h => absurd h g3, fun h => absurd rfl h⟩
  ·rw [if_neg hnj]
   exact ⟨fun _ h => hnj (by omega), fun _ => rfl⟩
end Go.Proofs.Ytgilgicanggleab.Pure
end

section
namespace Go.Proofs.Ytgilgicanggleab.Pure
set_option linter.unusedVariables false
open Go.RowKit Go.Proofs.Ytgilgicanggleab.F Go.Proofs.YtgilgicanggleabW.PrintWords Go.Proofs.YtgilgicanggleabW.PrintLast
theorem small_ev (l : List S44) (d : Nat) : ∀ i : Nat, i + d = 70 → ∃ b, Ev (fun k => argosylaw13_small.l0 k (i : Int) l) b ∧ (b = true → l.length ≤ 70 ∧ ∀ j (h : j < l.length), i ≤ j → l[j].f7.length ≤ 100) := by
 induction d with
 | zero =>
  intro i hi
  refine ⟨decide ((l.length : Int) ≤ 70), ⟨2, fun k hk => ?_⟩, fun h => ?_⟩
  ·obtain ⟨k, rfl⟩ : ∃ m, k = m + 2 := ⟨k - 2, by omega⟩
   simp only [argosylaw13_small.l0, argosylaw13_small.j1]
   rw [decide_eq_false (by omega : ¬ (i : Int) < 70)]
   simp
  ·have := of_decide_eq_true h
   exact ⟨by omega, fun j h1 h2 => by omega⟩
 | succ d ih =>
  intro i hi
  by_cases hl : i < l.length
  ·obtain ⟨b, ⟨K, hK⟩, hb⟩ := ih (i + 1) (by omega)
   have hrd : rd_T44 l (i : Int) = l[i] := by unfold rd_T44; rw [Int.toNat_natCast, List.getD_eq_getElem?_getD, List.getElem?_eq_getElem hl]; rfl
   by_cases h1 : ((l[i].f0).size : Int) > 200 ∨ ((l[i].f1).size : Int) > 200 ∨ ((l[i].f7).length : Int) > 100
   ·refine ⟨false, ⟨2, fun k hk => ?_⟩, fun h => by cases h⟩
    obtain ⟨k, rfl⟩ : ∃ m, k = m + 2 := ⟨k - 2, by omega⟩
    simp only [argosylaw13_small.l0, argosylaw13_small.j1]
    rw [if_pos (by omega), decide_eq_true (by omega : (i : Int) < 70), if_pos rfl, if_pos (by omega), if_pos (by omega), hrd]
    by_cases h2 : ((l[i].f0).size : Int) > 200
    ·rw [if_pos h2]
    ·rw [if_neg h2]
     by_cases h3 : ((l[i].f1).size : Int) > 200
     ·rw [if_pos h3]
     ·rw [if_neg h3, if_pos (by omega)]
   ·refine ⟨b, ⟨K + 2, fun k hk => ?_⟩, fun h => ⟨(hb h).1, fun j h2 h3 => ?_⟩⟩
    ·obtain ⟨k, rfl⟩ : ∃ m, k = m + 2 := ⟨k - 2, by omega⟩
     simp only [argosylaw13_small.l0, argosylaw13_small.j1]
     rw [if_pos (by omega), decide_eq_true (by omega : (i : Int) < 70), if_pos rfl, if_pos (by omega), if_pos (by omega), hrd, if_neg (by omega), if_neg (by omega), if_neg (by omega), show wrap64 ((i : Int) + 1) = ((i + 1 : Nat) : Int) by unfold wrap64; omega]
     exact hK k (by omega)
    ·by_cases hj : j = i
     ·subst hj; omega
     ·exact (hb h).2 j h2 (by omega)
  ·refine ⟨decide ((l.length : Int) ≤ 70), ⟨2, fun k hk => ?_⟩, fun h => ?_⟩
   ·obtain ⟨k, rfl⟩ : ∃ m, k = m + 2 := ⟨k - 2, by omega⟩
    simp only [argosylaw13_small.l0, argosylaw13_small.j1]
    rw [if_neg (by omega)]
    simp
   ·have := of_decide_eq_true h
    exact ⟨by omega, fun j h1 h2 => by omega⟩
theorem small_plan {p : List S44} (hl : p.length ≤ 70 ∧ ∀ j (h : j < p.length), 0 ≤ j → p[j].f7.length ≤ 100) : smallP p = true := by
 unfold smallP
 rw [List.all_eq_true]
 intro y hy
 obtain ⟨j, hj, rfl⟩ := List.getElem_of_mem hy
 have := hl.2 j hj (by omega)
 simp only [decide_eq_true_eq]
 omega
theorem small_f (p : List S44) : ∃ b K, (∀ k, K ≤ k → argosylaw13_small.f k p = some b) ∧ (b = true → smallP p = true ∧ p.length ≤ 70) := by
 obtain ⟨b, ⟨K, hK⟩, hb⟩ := small_ev p 70 0 (by omega)
 exact ⟨b, K, fun k hk => hK k hk, fun h => ⟨small_plan (hb h), (hb h).1⟩⟩
theorem lives_ev (k : Nat) (hk : 80 ≤ k) : argosylaw13_lives.f k = some true := by
 obtain ⟨m, rfl⟩ : ∃ m, k = 80 + m := ⟨k - 80, by omega⟩
 exact argosylaw13_lives.up_ m 80 true argosylaw13_lives.at_
theorem apply_f {p : List S44} (hp : smallP p = true) (l : List S52) (hl : l.length ≤ 100) (a it t : Int) (s : List Int) : fact_Apply.f p l a it t s = some (applyL p l a it t s) := by
 unfold fact_Apply.f
 rw [hp, decide_eq_true (by omega : l.length ≤ 1000000)]
 rfl
theorem apply_at {p : List S44} {l : List S52} {k it t : Int} {s : List Int} (h1 : factsB p l = true) (h2 : eventB k it t s = true) (h3 : it < (l.length : Int)) (h4 : (rd_T44 p it).f2 = false) (h5 : (knownF (rd_T52 l it) t k).2 = true) : applyL p l k it t s = (l.set it.toNat (knownF (rd_T52 l it) t k).1, 0) := by
 have hx : applyB p l k it t s = (0, l.set it.toNat (knownF (rd_T52 l it) t k).1) := by
  unfold applyB
  rw [if_pos h2, if_neg (by omega), if_neg (by rw [h4]; simp), if_pos h5]
 unfold applyL
 rw [if_pos h1, hx]
 rfl
end Go.Proofs.Ytgilgicanggleab.Pure
end
