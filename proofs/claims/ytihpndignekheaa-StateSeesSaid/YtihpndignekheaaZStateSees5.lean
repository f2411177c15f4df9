-- Texts of this seat's, joined.
import Derived.Test.YtihpndignekheaaZStateSees1
import Derived.Test.YtihpndignekheaaZStateSees4
import Derived.BigRegion
import Derived.WalkSmall
import Derived.Test.YtihpndignekheaaProg
import Derived.Below
import Derived.Deep.Draws
import Derived.Deep.AppendLies
import Derived.Maps.AppendAt
import Derived.OwnWalk
import Derived.Laws.BytesArg
import Derived.Laws.MakeOwn
import Derived.Laws.OwnMore
import Derived.Deep.OwnRows
import Derived.Tactics
import Derived.Lib.ConvBytes
import Derived.Laws.Slices
import Derived.WalkKit
import Derived.KernelRfl
import Derived.RowKit3
import Derived.Deep.LoopGhost
import Derived.Deep.QuietTactic
import Derived.BigQuiet
import Derived.WideLaws
import Derived.Deep.DeepCutAuto
import Derived.Deep.CutBlock
import Derived.Deep.RegionHeld3
import Derived.Laws.Rows
import Derived.Lib.AppendStr
import Derived.ArgAppend
import Derived.Laws.IdiomCopy
import Derived.OrdersHeld
import Derived.Laws.BitsLemmas
import Derived.RowKit
import Derived.Laws.StructEq
import Derived.RegionCalls
import Derived.Test.YtihpndignekheaaZStateSees2
import Derived.Shelf.Abstract
import Derived.Recover
import Derived.Test.YtihpndignekheaaZStateSees3
import Derived.RangeFuncNested
import Derived.RangeFuncLeaves
import Derived.RegionIn
import Derived.LoopIn
import Derived.TacticsInMore
import Derived.OwnWalkIn
import Derived.Shelf.AbstractIn
import Derived.Lib.SliceRun
import Derived.Deep.RegionHeld2
import Derived.Deep.RegionWith
import Derived.Deep.CutRange
import Derived.Deep.Slices
section
namespace Go.Proofs.Ytihpndignekheaa.F
open Go.RowKit Go.Proofs.YtihpndignekheaaW.PrintWords Go.Proofs.YtihpndignekheaaW.PrintLast Go.Proofs.YtihpndignekheaaW.PrintMore
attribute [local go_sem] max2_int min2_int max_two min_two max_three min_three max_four min_four
set_option linter.unusedVariables false
set_option linter.unusedSimpArgs false
def subB (p : List S37) (i : Int) : Bool := decide (0 ≤ i) && (decide (i < (p.length : Int)) && (rd_T37 p i).f2)
theorem sub_none (i : Int) (w : World) : Calls Try.prog 27 #[.pointer none, .int .i64 i] w fun e w' => e = .returned (.bool false) ∧ w' = w := by
 by_cases h : 0 ≤ i
 all_goals
  go_enter Try.func27, Try.ntmps27
  go_wp2_with (go_at_call 25; refine (size_none _).mono ?_; rintro e w2 ⟨rfl, rfl⟩)
  go_ret
  exact ⟨by simp; try omega, rfl⟩
section
variable {w : World} {g : Nat} {p : List S37} {Ap : Option Addr} {cp : Nat} {l : List S59} {Al : Option Addr} {cl : Nat} {s : St}
set_option maxHeartbeats 4000000 in
theorem sub_walk (h : BdAt w g p Ap cp l Al cl s) (i : Int) : Calls Try.prog 27 #[.pointer (some ⟨g, 0, none⟩), .int .i64 i] w fun e w' => e = .returned (.bool (subB p i)) ∧ w' = w := by
 have hlen : (l.length : Int) = p.length := by have := h.len; omega
 have HZ := Aside0.mk (size_walk h)
 unfold subB
 by_cases h0 : 0 ≤ i
 ·by_cases h1 : i < (p.length : Int)
  ·obtain ⟨ad, A7, c7, e0, x0, x1, x2, x3, x4, x5, x6, x7, _, _⟩ := at_T37 h.pl i h0 h1
   subst e0
   have y0 : w.cell? ⟨g, 0, none⟩ = some (.slice (some ad) p.length cp) := h.bd.cell 0 (by omega)
   have h2 : i < (l.length : Int) := by omega
   clear x0 x1 x3 x4 x5 x6 x7 h hlen
   go_enter Try.func27, Try.ntmps27
   go_wp2_with (go_at_call 25; refine HZ.out.mono ?_; rintro e w2 ⟨rfl, rfl⟩)
   go_ret
   exact ⟨by simp [h0, h1]; try (intros; omega), rfl⟩
  ·have h2 : ¬ i < (l.length : Int) := by omega
   clear h hlen
   go_enter Try.func27, Try.ntmps27
   go_wp2_with (go_at_call 25; refine HZ.out.mono ?_; rintro e w2 ⟨rfl, rfl⟩)
   go_ret
   exact ⟨by simp [h0, h1]; try (intros; omega), rfl⟩
 ·clear h hlen
  go_enter Try.func27, Try.ntmps27
  go_wp2_with (go_at_call 25; refine HZ.out.mono ?_; rintro e w2 ⟨rfl, rfl⟩)
  go_ret
  exact ⟨by simp [h0]; try (intros; omega), rfl⟩
end
theorem at_none (i : Int) (w : World) : Calls Try.prog 15 #[.pointer none, .int .i64 i] w fun e w' => e = .returned (.int .i64 0) ∧ w' = w := by
 go_enter Try.func15, Try.ntmps15
 go_wp2_with (go_at_call 25; refine (size_none _).mono ?_; rintro e w2 ⟨rfl, rfl⟩)
 go_ret
 exact ⟨rfl, rfl⟩
theorem clean_none (i : Int) (w : World) : Calls Try.prog 17 #[.pointer none, .int .i64 i] w fun e w' => e = .returned (.bool false) ∧ w' = w := by
 by_cases h : 0 ≤ i
 all_goals
  go_enter Try.func17, Try.ntmps17
  go_wp2_with (go_at_call 25; refine (size_none _).mono ?_; rintro e w2 ⟨rfl, rfl⟩)
  go_ret
  exact ⟨by simp; try omega, rfl⟩
theorem falling_none (i a : Int) (w : World) : Calls Try.prog 16 #[.pointer none, .int .i64 i, .int .i64 a] w fun e w' => e = .returned (.bool false) ∧ w' = w := by
 go_enter Try.func16, Try.ntmps16
 go_wp2_with (go_at_call 27; refine (sub_none _ _).mono ?_; rintro e w2 ⟨rfl, rfl⟩)
 go_ret
 exact ⟨rfl, rfl⟩
theorem verdict_none (w : World) : Calls Try.prog 14 #[.pointer none] w fun e w' => e = .returned (.int .i64 0) ∧ w' = w := by
 go_enter Try.func14, Try.ntmps14
 go_wp2_with (go_at_call 25; refine (size_none _).mono ?_; rintro e w2 ⟨rfl, rfl⟩)
 go_ret
 exact ⟨rfl, rfl⟩
section
variable {w : World} {g : Nat} {p : List S37} {Ap : Option Addr} {cp : Nat} {l : List S59} {Al : Option Addr} {cl : Nat} {s : St}
def atB (p : List S37) (s : St) (i : Int) : Int := if subB p i then (s.it i.toNat).at_ else -1
set_option maxHeartbeats 4000000 in
theorem at_walk (h : BdAt w g p Ap cp l Al cl s) (hp : 0 < p.length) (i : Int) : Calls Try.prog 15 #[.pointer (some ⟨g, 0, none⟩), .int .i64 i] w fun e w' => e = .returned (.int .i64 (atB p s i)) ∧ w' = w := by
 have HZ := Aside0.mk (size_walk h)
 have HS := Aside0.mk (sub_walk h i)
 have hl : ¬ (l.length : Int) = 0 := by have := h.len; omega
 unfold atB
 cases hb : subB p i with
 | false =>
  rw [hb] at HS
  clear h hb
  go_enter Try.func15, Try.ntmps15
  go_wp2_with (first
   | (go_at_call 25; refine HZ.out.mono ?_; rintro e w2 ⟨rfl, rfl⟩)
   | (go_at_call 27; refine HS.out.mono ?_; rintro e w2 ⟨rfl, rfl⟩))
  go_ret
  exact ⟨rfl, rfl⟩
 | true =>
  have hx := hb
  unfold subB at hx
  simp only [Bool.and_eq_true, decide_eq_true_eq] at hx
  obtain ⟨n, rfl⟩ := Int.eq_ofNat_of_zero_le hx.1
  have h6 : (n : Int) < 64 := by have := h.few; omega
  have z5 : w.cell? ⟨g, 2 + n * 6 + 5, none⟩ = some (.int .i64 (s.it n).at_) := h.bd.it n 5 (by omega) (by omega)
  have h0 : (0 : Int) ≤ n := by omega
  rw [hb] at HS
  clear h hb hx
  go_enter Try.func15, Try.ntmps15
  go_wp2_with (first
   | (go_at_call 25; refine HZ.out.mono ?_; rintro e w2 ⟨rfl, rfl⟩)
   | (go_at_call 27; refine HS.out.mono ?_; rintro e w2 ⟨rfl, rfl⟩))
  go_ret
  exact ⟨by simp, rfl⟩
def cleanB (p : List S37) (s : St) (i : Int) : Bool := decide (0 ≤ i) && (decide (i < (p.length : Int)) && (s.it i.toNat).cl)
set_option maxHeartbeats 4000000 in
theorem clean_walk (h : BdAt w g p Ap cp l Al cl s) (i : Int) : Calls Try.prog 17 #[.pointer (some ⟨g, 0, none⟩), .int .i64 i] w fun e w' => e = .returned (.bool (cleanB p s i)) ∧ w' = w := by
 have hlen : (l.length : Int) = p.length := by have := h.len; omega
 have HZ := Aside0.mk (size_walk h)
 unfold cleanB
 by_cases h0 : 0 ≤ i
 ·by_cases h1 : i < (p.length : Int)
  ·obtain ⟨n, rfl⟩ := Int.eq_ofNat_of_zero_le h0
   have h6 : (n : Int) < 64 := by have := h.few; omega
   have z0 : w.cell? ⟨g, 2 + n * 6, none⟩ = some (.bool (s.it n).cl) := h.bd.it n 0 (by omega) (by omega)
   have h2 : (n : Int) < (l.length : Int) := by omega
   clear h hlen
   go_enter Try.func17, Try.ntmps17
   go_wp2_with (go_at_call 25; refine HZ.out.mono ?_; rintro e w2 ⟨rfl, rfl⟩)
   go_ret
   exact ⟨by simp [h0, h1]; try (intros; omega), rfl⟩
  ·have h2 : ¬ i < (l.length : Int) := by omega
   clear h hlen
   go_enter Try.func17, Try.ntmps17
   go_wp2_with (go_at_call 25; refine HZ.out.mono ?_; rintro e w2 ⟨rfl, rfl⟩)
   go_ret
   exact ⟨by simp [h0, h1]; try (intros; omega), rfl⟩
 ·clear h hlen
  go_enter Try.func17, Try.ntmps17
  go_wp2_with (go_at_call 25; refine HZ.out.mono ?_; rintro e w2 ⟨rfl, rfl⟩)
  go_ret
  exact ⟨by simp [h0]; try (intros; omega), rfl⟩
def verdictB (p : List S37) (l : List S59) (s : St) : Int := max 1 (statusB p l s 0)
set_option maxHeartbeats 4000000 in
theorem verdict_walk (h : BdAt w g p Ap cp l Al cl s) (hp : 0 < p.length) : Calls Try.prog 14 #[.pointer (some ⟨g, 0, none⟩)] w fun e w' => e = .returned (.int .i64 (verdictB p l s)) ∧ Below w.heap.size w w' := by
 have HZ := Aside0.mk (size_walk h)
 have HS := Aside0.mk (status_walk h 0 hp)
 have hl : ¬ (l.length : Int) = 0 := by have := h.len; omega
 clear h
 unfold verdictB
 go_enter Try.func14, Try.ntmps14
 go_wp2_with (first
  | (go_at_call 25; refine HZ.out.mono ?_; rintro e w2 ⟨rfl, rfl⟩)
  | (go_at_call 26; refine HS.out.mono ?_; rintro e w2 ⟨rfl, hb⟩; have HB := Aside0.mk hb; clear hb))
 all_goals
  go_ret
  refine ⟨?_, HB.out⟩
  show Ending.returned (.int .i64 _) = Ending.returned (.int .i64 _)
  congr 2
  omega
end
end Go.Proofs.Ytihpndignekheaa.F
end

section
namespace Go.Proofs.Ytihpndignekheaa.F
open Go.RowKit Go.Proofs.YtihpndignekheaaW.PrintWords Go.Proofs.YtihpndignekheaaW.PrintLast Go.Proofs.YtihpndignekheaaW.PrintMore
attribute [local go_sem] max2_int min2_int max_two min_two max_three min_three max_four min_four
set_option linter.unusedVariables false
set_option linter.unusedSimpArgs false
theorem all_none (w : World) : Calls Try.prog 13 #[.pointer none] w fun e w' => ∃ v, e = .returned v ∧ Kd.R (Kd.int .i64) 32 w' w.heap.size (fun _ => True) v [] ∧ Below w.heap.size w w' := by
 go_enter Try.func13, Try.ntmps13
 go_wp2_with (go_at_call 25; refine (size_none _).mono ?_; rintro e w2 ⟨rfl, rfl⟩)
 go_loopg [3, 7] 0 (fun kq v3 v7 w' => v3 = .slice none 0 0 ∧ v7 = .int .i64 0 ∧ Aside0 (w' = w2))
 case atStart => exact ⟨rfl, rfl, ⟨rfl⟩⟩
 case round =>
  obtain ⟨rfl, rfl, HW⟩ := hrel
  go_wp2
  go_ret
  exact ⟨_, rfl, Kd.R_nil _ _ _ _ _, by rw [HW.out]; exact Below.refl _ _⟩
section
variable {w : World} {g : Nat} {p : List S37} {Ap : Option Addr} {cp : Nat} {l : List S59} {Al : Option Addr} {cl : Nat} {s : St}
def allB (p : List S37) (l : List S59) (s : St) : List Int := (List.range' 0 p.length).map (statusB p l s)
set_option maxHeartbeats 8000000 in
set_option maxRecDepth 100000 in
theorem all_walk (h : BdAt w g p Ap cp l Al cl s) : Calls Try.prog 13 #[.pointer (some ⟨g, 0, none⟩)] w fun e w' => ∃ v, e = .returned v ∧ Kd.R (Kd.int .i64) 32 w' w.heap.size (fun _ => True) v (allB p l s) ∧ Below w.heap.size w w' := by
 have HZ := Aside0.mk (size_walk h)
 have HH := Aside0.mk h
 have hlen := h.len
 have hfew := h.few
 have hl64 : (l.length : Int) ≤ 64 := by omega
 have HLN := Aside0.mk hlen
 clear h hfew hlen
 go_enter Try.func13, Try.ntmps13
 go_wp2_with (go_at_call 25; refine HZ.out.mono ?_; rintro e w2 ⟨rfl, rfl⟩)
 go_loopg [3, 7] l.length (fun kq v3 v7 w' => ∃ (i : Nat) (out : List Int), i + kq = l.length ∧ v7 = .int .i64 i ∧ (∃ A c, v3 = .slice A out.length c) ∧ Aside0 (out.length = i) ∧ Aside0 (out ++ (List.range' i kq).map (statusB p l s) = allB p l s) ∧ Aside0 (Kd.R (Kd.int .i64) 32 w' w2.heap.size (fun _ => True) v3 out) ∧ Aside0 (Below w2.heap.size w2 w'))
 case atStart => exact ⟨0, [], by omega, rfl, ⟨none, 0, rfl⟩, ⟨rfl⟩, ⟨by unfold allB; rw [HLN.out]; rfl⟩, ⟨Kd.R_nil _ _ _ _ _⟩, ⟨Below.refl _ _⟩⟩
 case round =>
  obtain ⟨i, out, hi, rfl, ⟨A, c, rfl⟩, HO1, HA, HO, HB⟩ := hrel
  cases gk with
  | zero =>
   obtain rfl : i = l.length := by omega
   have HA2 : Aside0 (out = allB p l s) := ⟨by have := HA.out; simpa using this⟩
   clear hi HA
   go_wp2
   go_ret
   exact ⟨_, rfl, by rw [← HA2.out]; exact HO.out, HB.out⟩
  | succ d =>
   have hlt : (i : Int) < (l.length : Int) := by omega
   have HI := Aside0.mk hi
   have HST := Aside0.mk (fun (W : World) (hb : Below w2.heap.size w2 W) => status_walk (HH.out.below hb) i (by have := HLN.out; omega))
   have HA2 : Aside0 ((out ++ [statusB p l s i]) ++ (List.range' (i + 1) d).map (statusB p l s) = allB p l s) := ⟨by have := HA.out; rw [List.range'_succ] at this; simpa using this⟩
   have HOL : Aside0 (out.length < 64) := ⟨by have := HO1.out; omega⟩
   generalize statusB p l s i = x at HST HA2
   clear hi HA
   go_wp2_with (first
    | (go_at_call 26; refine (HST.out _ HB.out).mono ?_; rintro e w3 ⟨rfl, hb⟩; have HB3 := Aside0.mk (HB.out.trans (hb.mono HB.out.size)); have HO3 := Aside0.mk (Kd.R_below HO.out hb); clear hb)
    | (((with_reducible refine gate_builtin (b := .append) (xs := #[.tmp 10, .tmp 14]) rfl ?_); (try (refine gate_guard (by rfl) ?_; dsimp only)); at_builtin; refine Kd.R_append (Kd.int .i64) (w0 := w2) w2.heap.size rfl (.tmp 10) (.tmp 14) 28 32 (.int .i64 0) 8 rfl Try.underlying28 info32 rfl (by decide) (by omega) (.slice A out.length c) out x [.int .i64 x] (fun _ => True) (fun _ => False) rfl (by simp [Act.eval]) ?aP (fun _ hk => hk.elim) ?aF ?aO ?aB ?aS ?aL ?_; (case aP => exact rfl); (case aF => exact (fun _ _ => trivial)); (case aO => exact (by (with_reducible repeat (first | apply Kd.R_alloc | apply Kd.R_drewN | apply Kd.R_drew)); exact HO3.out)); (case aB => exact HB3.out); (case aS => exact HB3.out.size); (case aL => have := HOL.out; omega); intro v4 w4 ho hb hg hat; have HO4 := Aside0.mk ho; have HB4 := Aside0.mk hb; obtain ⟨A4, c4, hv4⟩ := Kd.R_slice ho; clear ho hb hg hat)))
   subst hv4
   go_roundg d
   case measure => omega
   case rel => exact ⟨i + 1, out ++ [x], by have := HI.out; omega, by go_num, ⟨A4, c4, by simp⟩, ⟨by have := HO1.out; simp; omega⟩, HA2, ⟨by have h := HO4.out; simpa using h⟩, HB4⟩
end
end Go.Proofs.Ytihpndignekheaa.F
end

section
namespace Go.Proofs.Ytihpndignekheaa.F
open Go.RowKit Go.Proofs.YtihpndignekheaaW.PrintWords Go.Proofs.YtihpndignekheaaW.PrintLast Go.Proofs.YtihpndignekheaaW.PrintMore
def schedOk (md : Region.Mode) (ops : Array Oper) (ds : List Nat) (lEnd : Array Bool) : Array Bool → List (Nat × Bool × Option Tmp) → Bool
 | l, [] => l == lEnd
 | l, (i, true, _) :: r => takeB md ops ds l (l.setIfInBounds i true) i && schedOk md ops ds lEnd (l.setIfInBounds i true) r
 | l, (i, false, _) :: r => anyB md ops l (l.setIfInBounds i true) i && schedOk md ops ds lEnd (l.setIfInBounds i true) r
section
variable {P : Program} {md : Region.Mode} {ops : Array Oper} {Q : Exit → Act → World → Prop} {S : World → Prop} {ds : List Nat}
def WS (P : Program) (md : Region.Mode) (ops : Array Oper) (Q : Exit → Act → World → Prop) (S : World → Prop) (ds : List Nat) (fuel : Nat) (lEnd : Array Bool) (sched : List (Nat × Bool × Option Tmp)) (a : Act) (w : World) : Prop :=
 ∀ l, schedOk md ops ds lEnd l sched = true → wpAnyLast P md ops Q S ds (fuel + sched.length) l a w
theorem ws_ {n : Nat} {l : Array Bool} {a : Act} {w : World} (fuel : Nat) (lEnd : Array Bool) (sched : List (Nat × Bool × Option Tmp)) (hc : schedOk md ops ds lEnd l sched = true) (hn : n = fuel + sched.length) (h : WS P md ops Q S ds fuel lEnd sched a w) : wpAnyLast P md ops Q S ds n l a w := by
 subst hn
 exact h l hc
theorem ws_nil {fuel : Nat} {lEnd : Array Bool} {a : Act} {w : World} (h : wpAnyLast P md ops Q S ds fuel lEnd a w) : WS P md ops Q S ds fuel lEnd [] a w := fun l hl => by
 simp only [schedOk, beq_iff_eq] at hl
 subst hl
 exact h
theorem ws_pure {i : Nat} {r : List (Nat × Bool × Option Tmp)} {N : Option Tmp} {oi : Oper} {v : Value} {fuel : Nat} {lEnd : Array Bool} {a : Act} {w : World} (hi : ops[i]? = some oi) (hN : oi.dst = N)
  (hQ : ∀ c a w, Q (.panic c) (a.put oi.dst v) w → Q (.panic c) a w) (hy : Yields P ops oi v a) {a' : Act} (ha : a.put N v = a')
  (h : WS P md ops Q S ds fuel lEnd r a' w) : WS P md ops Q S ds fuel lEnd ((i, false, N) :: r) a w := fun l hl => by
 simp only [schedOk, Bool.and_eq_true] at hl
 exact pure_ (fuel := fuel + r.length) _ hi hN hl.1 hQ hy ha (h _ hl.2)
theorem ws_take {i : Nat} {r : List (Nat × Bool × Option Tmp)} {N : Option Tmp} {oi : Oper} {v : Value} {fuel : Nat} {lEnd : Array Bool} {a : Act} {w : World} (hi : ops[i]? = some oi) (hN : oi.dst = N)
  (hQ : ∀ c a w, Q (.panic c) (a.put oi.dst v) w → Q (.panic c) a w) (hy : YieldsIf P ops S oi v a) (hS : S w) {a' : Act} (ha : a.put N v = a')
  (h : WS P md ops Q S ds fuel lEnd r a' w) : WS P md ops Q S ds fuel lEnd ((i, true, N) :: r) a w := fun l hl => by
 simp only [schedOk, Bool.and_eq_true] at hl
 exact take_ (fuel := fuel + r.length) _ hi hN hl.1 hQ hy hS ha (h _ hl.2)
end
end Go.Proofs.Ytihpndignekheaa.F
end

section
namespace Go.Proofs.Ytihpndignekheaa.F
open Go.RowKit Go.Proofs.YtihpndignekheaaW.PrintWords Go.Proofs.YtihpndignekheaaW.PrintLast Go.Proofs.YtihpndignekheaaW.PrintMore
attribute [local go_sem] max2_int min2_int max_two min_two max_three min_three max_four min_four
set_option linter.unusedVariables false
set_option linter.unusedSimpArgs false
theorem itemB_shape {p : List S37} {i : Nat} {x : S37} (h : itemB p i x = true) : (0 ≤ x.f4 ∧ x.f4 ≤ 4) ∧ (i ≠ 0 → 0 ≤ x.f5 ∧ x.f5 < i ∧ 0 ≤ x.f6 ∧ x.f6 < (rd_T37 p x.f5).f4) ∧ (i = 0 → x.f5 = -1) := by
 unfold itemB at h
 by_cases c1 : x.f4 < 0
 ·rw [if_pos c1] at h; cases h
 rw [if_neg c1] at h
 by_cases c2 : 4 < x.f4
 ·rw [if_pos c2] at h; cases h
 rw [if_neg c2] at h
 by_cases c3 : x.f7.any (strayB p.length) = true
 ·rw [if_pos c3] at h; cases h
 rw [if_neg c3] at h
 refine ⟨by omega, ?_, ?_⟩
 ·intro hz
  rw [if_neg hz] at h
  by_cases c4 : x.f5 < 0
  ·rw [if_pos c4] at h; cases h
  rw [if_neg c4] at h
  by_cases c5 : (i : Int) ≤ x.f5
  ·rw [if_pos c5] at h; cases h
  rw [if_neg c5] at h
  by_cases c6 : x.f6 < 0
  ·rw [if_pos c6] at h; cases h
  rw [if_neg c6] at h
  have := of_decide_eq_true h
  omega
 ·intro hz
  rw [if_pos hz] at h
  exact of_decide_eq_true h
theorem shapedL_of_ {p : List S37} : ∀ (q : List S37) (i : Nat), shapedL p i q = true → ∀ k (hk : k < q.length), itemB p (i + k) q[k] = true
 | [], _, _, k, hk => by simp at hk
 | x :: q, i, h, k, hk => by
  unfold shapedL at h
  rw [Bool.and_eq_true] at h
  cases k with
  | zero => exact h.1
  | succ k =>
   have := shapedL_of_ q (i + 1) h.2 k (by simpa using hk)
   rw [show i + 1 + k = i + (k + 1) from by omega] at this
   simpa using this
theorem rd_at {p : List S37} {i : Nat} (h : i < p.length) : rd_T37 p (i : Int) = p[i] := by
 unfold rd_T37
 rw [Int.toNat_natCast, List.getD_eq_getElem?_getD, List.getElem?_eq_getElem h]
 rfl
theorem shape_item {p : List S37} (h : shapedB p = true) {i : Nat} (hi : i < p.length) : itemB p i (rd_T37 p (i : Int)) = true := by
 unfold shapedB at h
 simp only [Bool.and_eq_true] at h
 have := shapedL_of_ p 0 h.1 i hi
 rw [Nat.zero_add] at this
 rw [rd_at hi]
 exact this
theorem shape_few {p : List S37} (h : shapedB p = true) : 0 < p.length ∧ p.length ≤ 64 := by
 unfold shapedB at h
 simp only [Bool.and_eq_true, decide_eq_true_eq] at h
 exact h.2
theorem shape_of {p : List S37} (h : shapedB p = true) : ShapeP p := by
 refine ⟨(shape_few h).2, fun i hi => ?_⟩
 obtain ⟨h1, h2, -⟩ := itemB_shape (shape_item h hi)
 refine ⟨h1, fun hz => ?_⟩
 obtain ⟨q1, q2, q3, q4⟩ := h2 hz
 refine ⟨q1, q2, q3, ?_⟩
 obtain ⟨j, hj⟩ := Int.eq_ofNat_of_zero_le q1
 have hjl : j < p.length := by omega
 have := (itemB_shape (shape_item h hjl)).1
 rw [hj] at q4
 omega
theorem facts_shape {p : List S37} {l : List S59} (h : factsB p l = true) : l.length = p.length ∧ shapedB p = true := by
 unfold factsB at h
 simp only [Bool.and_eq_true, decide_eq_true_eq] at h
 have h2 := h.2.1
 unfold rightB at h2
 rw [Bool.and_eq_true] at h2
 exact ⟨h.1, h2.1⟩
def SeeP (p : List S37) (Ap : Option Addr) (cp : Nat) (l : List S59) (w : World) (r : Option Nat) (w' : World) : Prop :=
 Below w.heap.size w w' ∧ match r with | some g => factsB p l = true ∧ ∃ Al cl, BdAt w' g p Ap cp l Al cl (madeS p l) ∧ w.heap.size ≤ g ∧ Kd.F k59 w' (fun k_ => w.heap.size ≤ k_) Al l.length l | none => factsB p l = false
theorem SeeP.lower {p : List S37} {Ap : Option Addr} {cp : Nat} {l : List S59} {w W w' : World} {r : Option Nat} (h : SeeP p Ap cp l W r w') (hb : Below w.heap.size w W) : SeeP p Ap cp l w r w' := by
 refine ⟨hb.trans (h.1.mono hb.size), ?_⟩
 cases r with
 | none => exact h.2
 | some g =>
  obtain ⟨h1, Al, cl, h2, h3, h4⟩ := h.2
  exact ⟨h1, Al, cl, h2, Nat.le_trans hb.size h3, Kd.F_mono h4 (fun k hk => Nat.le_trans hb.size hk)⟩
def ptrV : Option Nat → Value
 | none => .pointer none
 | some g => .pointer (some ⟨g, 0, none⟩)
set_option maxHeartbeats 8000000 in
set_option maxRecDepth 100000 in
theorem see_walk (p : List S37) (Ap : Option Addr) (cp : Nat) (l : List S59) (Al : Option Addr) (cl : Nat) (w : World) (hp : Kd.C k37 w Ap p.length p) (hcp : p.length ≤ cp) (hl : Kd.C k59 w Al l.length l) (hcl : l.length ≤ cl) (hsm : smallP p = true) (hl6 : l.length ≤ 1000000) :
  Calls Try.prog 18 #[.agg #[.slice Ap p.length cp], .slice Al l.length cl] w fun e w' => ∃ r, e = .returned (.tuple #[ptrV r, .int .i64 (if factsB p l then 0 else 2)]) ∧ SeeP p Ap cp l w r w' := by
 have HP := Aside0.mk hp
 have HL := Aside0.mk hl
 have HGA := Aside0.mk (blk_new w (.cells #[.slice Ap p.length cp] 24 (0, 0)))
 have HB0 := Aside0.mk (below_alloc (Below.refl w.heap.size w) (.cells #[.slice Ap p.length cp] 24 (0, 0)))
 have HCK := Aside0.mk (fun (W : World) (hb : Below w.heap.size w W) => fact_Check.calls _ Ap cp p Al cl l _ W (Kd.C_below hp hb) hcp (Kd.C_below hl hb) hcl (fact_check_at p l hsm hl6))
 obtain ⟨v, hv⟩ : ∃ v, factsB p l = v := ⟨_, rfl⟩
 have HV := Aside0.mk hv
 rw [hv] at HCK ⊢
 clear hp hcp hl hcl hsm hl6 hv
 cases v with
 | false =>
  go_enter Try.func18, Try.ntmps18
  go_wp2_with (go_at_call 28; refine (HCK.out _ HB0.out).mono ?_; rintro e w2 ⟨rfl, hb⟩; have HB2 := Aside0.mk (HB0.out.trans (hb.mono HB0.out.size)); clear hb)
  go_ret2
  exact ⟨none, rfl, HB2.out, HV.out⟩
 | true =>
  have HSH := Aside0.mk (facts_shape HV.out)
  have HMD := Aside0.mk (fun (W : World) (hb : Below w.heap.size w W) => made_board_walk p Ap cp l Al cl W (Kd.C_below HP.out hb) (Kd.C_below HL.out hb) HSH.out.1 (shape_of HSH.out.2))
  go_enter Try.func18, Try.ntmps18
  go_wp2_with (first
   | (go_at_call 28; refine (HCK.out _ HB0.out).mono ?_; rintro e w2 ⟨rfl, hb⟩; have HB2 := Aside0.mk (HB0.out.trans (hb.mono HB0.out.size)); have HG2 := Aside0.mk (blk_below HGA.out hb); clear hb; have x0 : w2.cell? ⟨w.heap.size, 0, none⟩ = some (.slice Ap p.length cp) := (blk_cell HG2.out 0).trans rfl)
   | (go_at_call 29; refine (HMD.out _ HB2.out).mono ?_; rintro e w3 ⟨g, rfl, hm⟩; have HM := Aside0.mk hm; clear hm))
  go_ret2
  obtain ⟨q1, q2, A3, c3, q3, q4⟩ := HM.out
  have hb3 := HB2.out.trans (q1.mono HB2.out.size)
  exact ⟨some g, rfl, hb3, HV.out, A3, c3, ⟨q3, Kd.C_below HP.out hb3, Kd.F_now q4, HSH.out.1, (shape_few HSH.out.2).2⟩, Nat.le_trans HB2.out.size q2, Kd.F_mono q4 (fun k hk => Nat.le_trans HB2.out.size hk)⟩
set_option maxHeartbeats 8000000 in
set_option maxRecDepth 100000 in
theorem asked_walk (p : List S37) (Ap : Option Addr) (cp : Nat) (l : List S59) (Al : Option Addr) (cl : Nat) (w : World) (hp : Kd.C k37 w Ap p.length p) (hcp : p.length ≤ cp) (hl : Kd.C k59 w Al l.length l) (hcl : l.length ≤ cl) (hsm : smallP p = true) (hl6 : l.length ≤ 1000000) :
  Calls Try.prog 24 #[.agg #[.slice Ap p.length cp], .slice Al l.length cl] w fun e w' => ∃ r, e = .returned (ptrV r) ∧ SeeP p Ap cp l w r w' := by
 have HB0 := Aside0.mk (below_alloc (Below.refl w.heap.size w) (.cells #[.slice Ap p.length cp] 24 (0, 0)))
 have HSW := Aside0.mk (fun (W : World) (hb : Below w.heap.size w W) => see_walk p Ap cp l Al cl W (Kd.C_below hp hb) hcp (Kd.C_below hl hb) hcl hsm hl6)
 clear hp hcp hl hcl hsm hl6
 go_enter Try.func24, Try.ntmps24
 go_wp2_with (go_at_call 18; refine (HSW.out _ HB0.out).mono ?_; rintro e w2 ⟨r, rfl, hm⟩; have HM := Aside0.mk hm; clear hm)
 all_goals
  go_ret
  exact ⟨r, rfl, HM.out.lower HB0.out⟩
def okArgs (p : List S37) (l : List S59) : Bool := smallP p && decide (l.length ≤ 1000000)
def state_All.f (l0_0 : List S37) (l1 : List S59) : Option (List Int × Int) := if okArgs l0_0 l1 then some (if factsB l0_0 l1 then (allB l0_0 l1 (madeS l0_0 l1), 0) else ([], 2)) else none
def state_Verdict.f (l0_0 : List S37) (l1 : List S59) : Option Int := if okArgs l0_0 l1 then some (if factsB l0_0 l1 then verdictB l0_0 l1 (madeS l0_0 l1) else 0) else none
def state_At.f (l0_0 : List S37) (l1 : List S59) (a2 : Int) : Option Int := if okArgs l0_0 l1 then some (if factsB l0_0 l1 then atB l0_0 (madeS l0_0 l1) a2 else 0) else none
def fallB (p : List S37) (s : St) (i a : Int) : Bool := subB p i && (decide (0 ≤ a) && (decide (a < (rd_T37 p i).f4) && ((s.bo i.toNat a.toNat).fa || (s.it i.toNat).ha)))
def state_Falling.f (l0_0 : List S37) (l1 : List S59) (a2 a3 : Int) : Option Bool := if okArgs l0_0 l1 then some (if factsB l0_0 l1 then fallB l0_0 (madeS l0_0 l1) a2 a3 else false) else none
def state_Clean.f (l0_0 : List S37) (l1 : List S59) (a2 : Int) : Option Bool := if okArgs l0_0 l1 then some (if factsB l0_0 l1 then cleanB l0_0 (madeS l0_0 l1) a2 else false) else none
set_option maxHeartbeats 8000000 in
theorem falling_walk {w : World} {g : Nat} {p : List S37} {Ap : Option Addr} {cp : Nat} {l : List S59} {Al : Option Addr} {cl : Nat} {s : St} (h : BdAt w g p Ap cp l Al cl s) (hs : ShapeP p) (i a : Int) : Calls Try.prog 16 #[.pointer (some ⟨g, 0, none⟩), .int .i64 i, .int .i64 a] w fun e w' => e = .returned (.bool (fallB p s i a)) ∧ w' = w := by
 have HS := Aside0.mk (sub_walk h i)
 unfold fallB
 cases hb : subB p i with
 | false =>
  rw [hb] at HS
  clear h hb hs
  go_enter Try.func16, Try.ntmps16
  go_wp2_with (go_at_call 27; refine HS.out.mono ?_; rintro e w2 ⟨rfl, rfl⟩)
  go_ret
  exact ⟨rfl, rfl⟩
 | true =>
  have hx := hb
  unfold subB at hx
  simp only [Bool.and_eq_true, decide_eq_true_eq] at hx
  obtain ⟨n, rfl⟩ := Int.eq_ofNat_of_zero_le hx.1
  have hn : n < p.length := by omega
  have h6 : (n : Int) < 64 := by have := h.few; omega
  have h0 : (0 : Int) ≤ n := by omega
  have h1 : (n : Int) < (p.length : Int) := by omega
  have h4 := (hs.2 n hn).1
  obtain ⟨ad, A7, c7, e0, x0, x1, x2, x3, x4, x5, x6, x7, _, _⟩ := at_T37 h.pl (n : Int) h0 h1
  subst e0
  have y0 : w.cell? ⟨g, 0, none⟩ = some (.slice (some ad) p.length cp) := h.bd.cell 0 (by omega)
  rw [hb] at HS
  obtain ⟨m, hm⟩ : ∃ m, (rd_T37 p (n : Int)).f4 = m := ⟨_, rfl⟩
  rw [hm] at x4 h4 ⊢
  rw [Int.toNat_natCast] at x4
  clear x0 x1 x2 x3 x5 x6 x7 hb hx hm
  by_cases c1 : a < 0
  ·have hd : decide (0 ≤ a) = false := decide_eq_false (by omega)
   clear h
   go_enter Try.func16, Try.ntmps16
   go_wp2_with (go_at_call 27; refine HS.out.mono ?_; rintro e w2 ⟨rfl, rfl⟩)
   go_ret
   exact ⟨by rw [hd]; rfl, rfl⟩
  ·obtain ⟨k, rfl⟩ := Int.eq_ofNat_of_zero_le (Int.not_lt.1 c1)
   have hd : decide ((0 : Int) ≤ k) = true := decide_eq_true (by omega)
   by_cases c2 : (k : Int) ≥ m
   ·have hd2 : decide ((k : Int) < m) = false := decide_eq_false (by omega)
    clear h
    go_enter Try.func16, Try.ntmps16
    go_wp2_with (go_at_call 27; refine HS.out.mono ?_; rintro e w2 ⟨rfl, rfl⟩)
    go_ret
    exact ⟨by rw [hd, hd2]; rfl, rfl⟩
   ·have hd2 : decide ((k : Int) < m) = true := decide_eq_true (by omega)
    have k4 : (k : Int) < 4 := by omega
    have k0 : (0 : Int) ≤ k := by omega
    have z0 : w.cell? ⟨g, 386 + n * 12 + k * 3, none⟩ = some (.bool (s.bo n k).fa) := h.bd.bo n k 0 (by omega) (by omega) (by omega)
    have z1 : w.cell? ⟨g, 2 + n * 6 + 4, none⟩ = some (.bool (s.it n).ha) := h.bd.it n 4 (by omega) (by omega)
    rw [hd, hd2, Int.toNat_natCast, Int.toNat_natCast]
    clear h hd hd2
    obtain ⟨fa, hfa⟩ : ∃ b, (s.bo n k).fa = b := ⟨_, rfl⟩
    rw [hfa] at z0 ⊢
    clear hfa
    cases fa
    all_goals
     go_enter Try.func16, Try.ntmps16
     go_wp2_with (go_at_call 27; refine HS.out.mono ?_; rintro e w2 ⟨rfl, rfl⟩)
     go_ret
     exact ⟨rfl, rfl⟩
theorem SeeP.has {p : List S37} {Ap : Option Addr} {cp : Nat} {l : List S59} {w w' : World} {g : Nat} (h : SeeP p Ap cp l w (some g) w') : factsB p l = true ∧ 0 < p.length ∧ shapedB p = true ∧ ∃ Al cl, BdAt w' g p Ap cp l Al cl (madeS p l) := by
 obtain ⟨h1, h2, Al, cl, h3, -⟩ := h
 exact ⟨h2, (shape_few (facts_shape h2).2).1, (facts_shape h2).2, Al, cl, h3⟩
theorem SeeP.hasnt {p : List S37} {Ap : Option Addr} {cp : Nat} {l : List S59} {w w' : World} (h : SeeP p Ap cp l w none w') : factsB p l = false := h.2
section
variable {p : List S37} {Ap : Option Addr} {cp : Nat} {l : List S59} {w w' : World} {r : Option Nat}
theorem verdict_ptr (h : SeeP p Ap cp l w r w') : Calls Try.prog 14 #[ptrV r] w' fun e w2 => e = .returned (.int .i64 (if factsB p l then verdictB p l (madeS p l) else 0)) ∧ Below w'.heap.size w' w2 := by
 cases r with
 | none => rw [h.hasnt]; refine (verdict_none w').mono ?_; rintro e w2 ⟨rfl, rfl⟩; exact ⟨rfl, Below.refl _ _⟩
 | some g => obtain ⟨h1, h2, h3, Al, cl, h4⟩ := h.has; rw [h1]; exact verdict_walk h4 h2
theorem at_ptr (h : SeeP p Ap cp l w r w') (i : Int) : Calls Try.prog 15 #[ptrV r, .int .i64 i] w' fun e w2 => e = .returned (.int .i64 (if factsB p l then atB p (madeS p l) i else 0)) ∧ Below w'.heap.size w' w2 := by
 cases r with
 | none => rw [h.hasnt]; refine (at_none i w').mono ?_; rintro e w2 ⟨rfl, rfl⟩; exact ⟨rfl, Below.refl _ _⟩
 | some g => obtain ⟨h1, h2, h3, Al, cl, h4⟩ := h.has; rw [h1]; refine (at_walk h4 h2 i).mono ?_; rintro e w2 ⟨rfl, rfl⟩; exact ⟨rfl, Below.refl _ _⟩
theorem clean_ptr (h : SeeP p Ap cp l w r w') (i : Int) : Calls Try.prog 17 #[ptrV r, .int .i64 i] w' fun e w2 => e = .returned (.bool (if factsB p l then cleanB p (madeS p l) i else false)) ∧ Below w'.heap.size w' w2 := by
 cases r with
 | none => rw [h.hasnt]; refine (clean_none i w').mono ?_; rintro e w2 ⟨rfl, rfl⟩; exact ⟨rfl, Below.refl _ _⟩
 | some g => obtain ⟨h1, h2, h3, Al, cl, h4⟩ := h.has; rw [h1]; refine (clean_walk h4 i).mono ?_; rintro e w2 ⟨rfl, rfl⟩; exact ⟨rfl, Below.refl _ _⟩
theorem all_ptr (h : SeeP p Ap cp l w r w') : Calls Try.prog 13 #[ptrV r] w' fun e w2 => ∃ v, e = .returned v ∧ Kd.R (Kd.int .i64) 32 w2 w'.heap.size (fun _ => True) v (if factsB p l then allB p l (madeS p l) else []) ∧ Below w'.heap.size w' w2 := by
 cases r with
 | none => rw [h.hasnt]; exact all_none w'
 | some g => obtain ⟨h1, h2, h3, Al, cl, h4⟩ := h.has; rw [h1]; exact all_walk h4
theorem falling_ptr (h : SeeP p Ap cp l w r w') (i a : Int) : Calls Try.prog 16 #[ptrV r, .int .i64 i, .int .i64 a] w' fun e w2 => e = .returned (.bool (if factsB p l then fallB p (madeS p l) i a else false)) ∧ Below w'.heap.size w' w2 := by
 cases r with
 | none => rw [h.hasnt]; refine (falling_none i a w').mono ?_; rintro e w2 ⟨rfl, rfl⟩; exact ⟨rfl, Below.refl _ _⟩
 | some g => obtain ⟨h1, h2, h3, Al, cl, h4⟩ := h.has; rw [h1]; refine (falling_walk h4 (shape_of h3) i a).mono ?_; rintro e w2 ⟨rfl, rfl⟩; exact ⟨rfl, Below.refl _ _⟩
end
section
variable (A0_0 : Option Addr) (c0_0 : Nat) (l0_0 : List S37) (A1 : Option Addr) (c1 : Nat) (l1 : List S59)
theorem state_All.calls (r1 : List Int) (r2 : Int) (w : World) (hr0_0 : Kd.C k37 w A0_0 l0_0.length l0_0) (hc0_0 : l0_0.length ≤ c0_0) (hr1 : Kd.C k59 w A1 l1.length l1) (hc1 : l1.length ≤ c1) (h : state_All.f l0_0 l1 = some (r1, r2)) :
  Calls Try.prog 9 #[.agg #[.slice A0_0 l0_0.length c0_0], .slice A1 l1.length c1] w fun e w' => ∃ v0_ : Value, e = .returned (.tuple #[v0_, .int .i64 r2]) ∧ Kd.R (Kd.int .i64) 32 w' w.heap.size (fun _ => True) v0_ r1 ∧ Below w.heap.size w w' := by
 unfold state_All.f at h
 by_cases hok : okArgs l0_0 l1 = true
 ·rw [if_pos hok] at h
  unfold okArgs at hok
  rw [Bool.and_eq_true, decide_eq_true_eq] at hok
  have HB0 := Aside0.mk (below_alloc (Below.refl w.heap.size w) (.cells #[.slice A0_0 l0_0.length c0_0] 24 (0, 0)))
  have HAS := Aside0.mk (fun (W : World) (hb : Below w.heap.size w W) => see_walk l0_0 A0_0 c0_0 l1 A1 c1 W (Kd.C_below hr0_0 hb) hc0_0 (Kd.C_below hr1 hb) hc1 hok.1 hok.2)
  have h3 := Option.some.inj h
  have H1 : Aside0 ((if factsB l0_0 l1 = true then allB l0_0 l1 (madeS l0_0 l1) else []) = r1) := ⟨(by split <;> rfl : (if factsB l0_0 l1 = true then allB l0_0 l1 (madeS l0_0 l1) else []) = (if factsB l0_0 l1 = true then (allB l0_0 l1 (madeS l0_0 l1), (0 : Int)) else ([], 2)).1).trans (congrArg Prod.fst h3)⟩
  have H2 : Aside0 ((if factsB l0_0 l1 = true then (0 : Int) else 2) = r2) := ⟨(by split <;> rfl : (if factsB l0_0 l1 = true then (0 : Int) else 2) = (if factsB l0_0 l1 = true then (allB l0_0 l1 (madeS l0_0 l1), (0 : Int)) else ([], 2)).2).trans (congrArg Prod.snd h3)⟩
  clear h3
  clear hr0_0 hc0_0 hr1 hc1 hok h
  go_enter Try.func9, Try.ntmps9
  go_wp2_with (first
   | (go_at_call 18; refine (HAS.out _ HB0.out).mono ?_; rw [H2.out]; rintro e w2 ⟨q, rfl, hm⟩; have HM := Aside0.mk hm; clear hm)
   | (go_at_call 13; refine (all_ptr HM.out).mono ?_; rw [H1.out]; rintro e w3 ⟨v, rfl, hR, hb⟩; have HR := Aside0.mk hR; have HB3 := Aside0.mk (HB0.out.trans ((HM.out.1.trans (hb.mono HM.out.1.size)).mono HB0.out.size)); clear hb))
  go_ret2
  exact ⟨v, rfl, Kd.R_lower HR.out (Nat.le_trans HB0.out.size HM.out.1.size), HB3.out⟩
 ·rw [if_neg hok] at h
  cases h
theorem state_Verdict.calls (r : Int) (w : World) (hr0_0 : Kd.C k37 w A0_0 l0_0.length l0_0) (hc0_0 : l0_0.length ≤ c0_0) (hr1 : Kd.C k59 w A1 l1.length l1) (hc1 : l1.length ≤ c1) (h : state_Verdict.f l0_0 l1 = some r) :
  Calls Try.prog 10 #[.agg #[.slice A0_0 l0_0.length c0_0], .slice A1 l1.length c1] w fun e w' => e = .returned (.int .i64 r) ∧ Below w.heap.size w w' := by
 unfold state_Verdict.f at h
 by_cases hok : okArgs l0_0 l1 = true
 ·rw [if_pos hok] at h
  unfold okArgs at hok
  rw [Bool.and_eq_true, decide_eq_true_eq] at hok
  have HB0 := Aside0.mk (below_alloc (Below.refl w.heap.size w) (.cells #[.slice A0_0 l0_0.length c0_0] 24 (0, 0)))
  have HAS := Aside0.mk (fun (W : World) (hb : Below w.heap.size w W) => asked_walk l0_0 A0_0 c0_0 l1 A1 c1 W (Kd.C_below hr0_0 hb) hc0_0 (Kd.C_below hr1 hb) hc1 hok.1 hok.2)
  have HRR := Aside0.mk (Option.some.inj h)
  clear hr0_0 hc0_0 hr1 hc1 hok h
  go_enter Try.func10, Try.ntmps10
  go_wp2_with (first
   | (go_at_call 24; refine (HAS.out _ HB0.out).mono ?_; rintro e w2 ⟨q, rfl, hm⟩; have HM := Aside0.mk hm; clear hm)
   | (go_at_call 14; refine (verdict_ptr HM.out).mono ?_; rw [HRR.out]; rintro e w3 ⟨rfl, hb⟩; have HB3 := Aside0.mk (HB0.out.trans ((HM.out.1.trans (hb.mono HM.out.1.size)).mono HB0.out.size)); clear hb))
  go_ret
  exact ⟨rfl, HB3.out⟩
 ·rw [if_neg hok] at h
  cases h
theorem state_Falling.calls (a2 a3 : Int) (r : Bool) (w : World) (hr0_0 : Kd.C k37 w A0_0 l0_0.length l0_0) (hc0_0 : l0_0.length ≤ c0_0) (hr1 : Kd.C k59 w A1 l1.length l1) (hc1 : l1.length ≤ c1) (h : state_Falling.f l0_0 l1 a2 a3 = some r) :
  Calls Try.prog 20 #[.agg #[.slice A0_0 l0_0.length c0_0], .slice A1 l1.length c1, .int .i64 a2, .int .i64 a3] w fun e w' => e = .returned (.bool r) ∧ Below w.heap.size w w' := by
 unfold state_Falling.f at h
 by_cases hok : okArgs l0_0 l1 = true
 ·rw [if_pos hok] at h
  unfold okArgs at hok
  rw [Bool.and_eq_true, decide_eq_true_eq] at hok
  have HB0 := Aside0.mk (below_alloc (Below.refl w.heap.size w) (.cells #[.slice A0_0 l0_0.length c0_0] 24 (0, 0)))
  have HAS := Aside0.mk (fun (W : World) (hb : Below w.heap.size w W) => asked_walk l0_0 A0_0 c0_0 l1 A1 c1 W (Kd.C_below hr0_0 hb) hc0_0 (Kd.C_below hr1 hb) hc1 hok.1 hok.2)
  have HRR := Aside0.mk (Option.some.inj h)
  clear hr0_0 hc0_0 hr1 hc1 hok h
  go_enter Try.func20, Try.ntmps20
  go_wp2_with (first
   | (go_at_call 24; refine (HAS.out _ HB0.out).mono ?_; rintro e w2 ⟨q, rfl, hm⟩; have HM := Aside0.mk hm; clear hm)
   | (go_at_call 16; refine (falling_ptr HM.out a2 a3).mono ?_; rw [HRR.out]; rintro e w3 ⟨rfl, hb⟩; have HB3 := Aside0.mk (HB0.out.trans ((HM.out.1.trans (hb.mono HM.out.1.size)).mono HB0.out.size)); clear hb))
  go_ret
  exact ⟨rfl, HB3.out⟩
 ·rw [if_neg hok] at h
  cases h
theorem state_Clean.calls (a2 : Int) (r : Bool) (w : World) (hr0_0 : Kd.C k37 w A0_0 l0_0.length l0_0) (hc0_0 : l0_0.length ≤ c0_0) (hr1 : Kd.C k59 w A1 l1.length l1) (hc1 : l1.length ≤ c1) (h : state_Clean.f l0_0 l1 a2 = some r) :
  Calls Try.prog 11 #[.agg #[.slice A0_0 l0_0.length c0_0], .slice A1 l1.length c1, .int .i64 a2] w fun e w' => e = .returned (.bool r) ∧ Below w.heap.size w w' := by
 unfold state_Clean.f at h
 by_cases hok : okArgs l0_0 l1 = true
 ·rw [if_pos hok] at h
  unfold okArgs at hok
  rw [Bool.and_eq_true, decide_eq_true_eq] at hok
  have HB0 := Aside0.mk (below_alloc (Below.refl w.heap.size w) (.cells #[.slice A0_0 l0_0.length c0_0] 24 (0, 0)))
  have HAS := Aside0.mk (fun (W : World) (hb : Below w.heap.size w W) => asked_walk l0_0 A0_0 c0_0 l1 A1 c1 W (Kd.C_below hr0_0 hb) hc0_0 (Kd.C_below hr1 hb) hc1 hok.1 hok.2)
  have HRR := Aside0.mk (Option.some.inj h)
  clear hr0_0 hc0_0 hr1 hc1 hok h
  go_enter Try.func11, Try.ntmps11
  go_wp2_with (first
   | (go_at_call 24; refine (HAS.out _ HB0.out).mono ?_; rintro e w2 ⟨q, rfl, hm⟩; have HM := Aside0.mk hm; clear hm)
   | (go_at_call 17; refine (clean_ptr HM.out a2).mono ?_; rw [HRR.out]; rintro e w3 ⟨rfl, hb⟩; have HB3 := Aside0.mk (HB0.out.trans ((HM.out.1.trans (hb.mono HM.out.1.size)).mono HB0.out.size)); clear hb))
  go_ret
  exact ⟨rfl, HB3.out⟩
 ·rw [if_neg hok] at h
  cases h
end
end Go.Proofs.Ytihpndignekheaa.F
end

section
namespace Go.Proofs.Ytihpndignekheaa.F
open Go.RowKit Go.Proofs.YtihpndignekheaaW.PrintWords Go.Proofs.YtihpndignekheaaW.PrintLast Go.Proofs.YtihpndignekheaaW.PrintMore
attribute [local go_sem] max2_int min2_int max_two min_two max_three min_three max_four min_four
set_option linter.unusedVariables false
set_option linter.unusedSimpArgs false
section
variable (A0_0 : Option Addr) (c0_0 : Nat) (l0_0 : List S37) (A1 : Option Addr) (c1 : Nat) (l1 : List S59)
theorem state_At.calls (a2 : Int) (r : Int) (w : World) (hr0_0 : Kd.C k37 w A0_0 l0_0.length l0_0) (hc0_0 : l0_0.length ≤ c0_0) (hr1 : Kd.C k59 w A1 l1.length l1) (hc1 : l1.length ≤ c1) (h : state_At.f l0_0 l1 a2 = some r) :
  Calls Try.prog 12 #[.agg #[.slice A0_0 l0_0.length c0_0], .slice A1 l1.length c1, .int .i64 a2] w fun e w' => e = .returned (.int .i64 r) ∧ Below w.heap.size w w' := by
 unfold state_At.f at h
 by_cases hok : okArgs l0_0 l1 = true
 ·rw [if_pos hok] at h
  unfold okArgs at hok
  rw [Bool.and_eq_true, decide_eq_true_eq] at hok
  have HB0 := Aside0.mk (below_alloc (Below.refl w.heap.size w) (.cells #[.slice A0_0 l0_0.length c0_0] 24 (0, 0)))
  have HAS := Aside0.mk (fun (W : World) (hb : Below w.heap.size w W) => asked_walk l0_0 A0_0 c0_0 l1 A1 c1 W (Kd.C_below hr0_0 hb) hc0_0 (Kd.C_below hr1 hb) hc1 hok.1 hok.2)
  have HRR := Aside0.mk (Option.some.inj h)
  clear hr0_0 hc0_0 hr1 hc1 hok h
  go_enter Try.func12, Try.ntmps12
  go_wp2_with (first
   | (go_at_call 24; refine (HAS.out _ HB0.out).mono ?_; rintro e w2 ⟨q, rfl, hm⟩; have HM := Aside0.mk hm; clear hm)
   | (go_at_call 15; refine (at_ptr HM.out a2).mono ?_; rw [HRR.out]; rintro e w3 ⟨rfl, hb⟩; have HB3 := Aside0.mk (HB0.out.trans ((HM.out.1.trans (hb.mono HM.out.1.size)).mono HB0.out.size)); clear hb))
  go_ret
  exact ⟨rfl, HB3.out⟩
 ·rw [if_neg hok] at h
  cases h
end
end Go.Proofs.Ytihpndignekheaa.F
end

section
namespace Go.Proofs.Ytihpndignekheaa.F
open Go.RowKit Go.Proofs.YtihpndignekheaaW.PrintWords Go.Proofs.YtihpndignekheaaW.PrintLast Go.Proofs.YtihpndignekheaaW.PrintMore
attribute [local go_sem] max2_int min2_int max_two min_two max_three min_three max_four min_four
set_option linter.unusedVariables false
set_option linter.unusedSimpArgs false
def argosylaw14_is.l0 : Nat → List Int → List Int → Int → Option (Bool)
 | 0, _, _, _ => none
 | k + 1, x0, x1, x5 => if x5 < (x0.length : Int) then (if 0 ≤ x5 then (if x5 < (x1.length : Int) then (if (rd x0 x5) = (rd x1 x5) then (argosylaw14_is.l0 k x0 x1 (wrap64 (x5 + 1))) else (some false)) else (none)) else (none)) else (some true)
def argosylaw14_is.f (k : Nat) (l0 : List Int) (l1 : List Int) : Option (Bool) := if (l0.length : Int) = (l1.length : Int) then (argosylaw14_is.l0 k l0 l1 0) else (some false)
theorem argosylaw14_is.mono_l : ∀ k, (∀ y0 y1 y2, LeO (argosylaw14_is.l0 k y0 y1 y2) (argosylaw14_is.l0 (k + 1) y0 y1 y2))
 | 0 => fun _ _ _ r h => by simp [argosylaw14_is.l0] at h
 | k + 1 => by
  have ih0 := argosylaw14_is.mono_l k
  ·intro y0 y1 y2
   unfold argosylaw14_is.l0
   repeat' first
   | (with_reducible exact ih0 _ _ _)
   | (with_reducible exact LeO.refl _)
   | (with_reducible exact LeO.none _)
   | (with_reducible refine LeO.ite ?_ ?_)
   | (with_reducible refine LeO.bind ?_ (fun _ => ?_))
   | exact ih0 _ _ _
   | exact LeO.none _
   | refine LeO.ite ?_ ?_
   | refine LeO.bind ?_ (fun _ => ?_)
theorem argosylaw14_is.mono : ∀ a0 a1 k, LeO (argosylaw14_is.f k a0 a1) (argosylaw14_is.f (k + 1) a0 a1) := by
 intro a0 a1 k
 have ih0 := argosylaw14_is.mono_l k
 unfold argosylaw14_is.f
 repeat' first
   | (with_reducible exact ih0 _ _ _)
   | (with_reducible exact LeO.refl _)
   | (with_reducible exact LeO.none _)
   | (with_reducible refine LeO.ite ?_ ?_)
   | (with_reducible refine LeO.bind ?_ (fun _ => ?_))
   | exact ih0 _ _ _
   | exact LeO.none _
   | refine LeO.ite ?_ ?_
   | refine LeO.bind ?_ (fun _ => ?_)
set_option maxHeartbeats 8000000 in
set_option maxRecDepth 100000 in
theorem argosylaw14_is.calls (k : Nat) (A0 : Option Addr) (c0 : Nat) (l0 : List Int) (A1 : Option Addr) (c1 : Nat) (l1 : List Int) (r : Bool) (w : World) (hr0 : Kd.C (Kd.int .i64) w A0 l0.length l0) (hc0 : l0.length ≤ c0) (hr1 : Kd.C (Kd.int .i64) w A1 l1.length l1) (hc1 : l1.length ≤ c1) (h : argosylaw14_is.f k l0 l1 = some r) :
  Calls Try.prog 19 #[.slice A0 l0.length c0, .slice A1 l1.length c1] w fun e w' => e = .returned (.bool r) ∧ Drawn0 w w' := by
 have HR0 := Aside0.mk hr0
 have HC0 := Aside0.mk hc0
 clear hr0 hc0
 have HR1 := Aside0.mk hr1
 have HC1 := Aside0.mk hc1
 clear hr1 hc1
 have H : (if (l0.length : Int) = (l1.length : Int) then (argosylaw14_is.l0 k l0 l1 0) else (some false)) = some r := h
 clear h
 by_cases c3 : (l0.length : Int) = (l1.length : Int)
 ·rw [if_pos c3] at H
  have c3b0 : ((l0.length : Int) == (l1.length : Int)) = true := beq_iff_eq.mpr c3
  have c3b1 : ((l0.length : Int) != (l1.length : Int)) = false := bne_eq_false_iff_eq.mpr c3
  have c3b2 : (l0.length == l1.length) = true := by first | simpa using c3 | (simp at c3 ⊢; omega)
  clear c3
  have H' := Aside0.mk H
  clear H
  go_enter Try.func19, Try.ntmps19
  go_wp2
  repeat (go_quiet (fail); try go_wp2)
  go_loopg [5] k (fun kq v5 w' => ∃ (x5_1 : Int), v5 = .int .i64 x5_1 ∧ Aside0 (argosylaw14_is.l0 kq l0 l1 x5_1 = some r) ∧ Aside0 (kq ≤ k) ∧ Drawn0 w w')
  case atStart => exact ⟨(0), (by first | rfl | (simp; done) | (simp [*]; done)), H', ⟨Nat.le_refl _⟩, by repeat (first | exact Drawn0.refl _ | apply Drawn0.step)⟩
  case round =>
   clear H'
   try clear c1
   try clear p2
   try clear c3
   try clear c3b0
   try clear c3b1
   try clear c3b2
   obtain ⟨x5_1, rfl, HA, HK1, ⟨m1, rfl⟩⟩ := hrel
   cases gk with
   | zero => exact absurd HA.out (by simp [argosylaw14_is.l0])
   | succ k1 =>
    have H := HA.out
    clear HA
    simp only [argosylaw14_is.l0] at H
    by_cases c4 : x5_1 < (l0.length : Int)
    ·rw [if_pos c4] at H
     have c4b0 : decide (x5_1 < (l0.length : Int)) = true := decide_eq_true c4
     clear c4
     by_cases c5 : 0 ≤ x5_1
     ·rw [if_pos c5] at H
      have c5b0 : decide (0 ≤ x5_1) = true := decide_eq_true c5
      clear c5
      by_cases c6 : x5_1 < (l1.length : Int)
      ·rw [if_pos c6] at H
       have c6b0 : decide (x5_1 < (l1.length : Int)) = true := decide_eq_true c6
       clear c6
       by_cases c7 : (rd l0 x5_1) = (rd l1 x5_1)
       ·rw [if_pos c7] at H
        have c7b0 : ((rd l0 x5_1) == (rd l1 x5_1)) = true := beq_iff_eq.mpr c7
        have c7b1 : ((rd l0 x5_1) != (rd l1 x5_1)) = false := bne_eq_false_iff_eq.mpr c7
        clear c7
        have H' := Aside0.mk H
        clear H
        have p135 : 0 ≤ (x5_1 : Int) := of_decide_eq_true (by first | (with_reducible assumption) | assumption)
        have q135 : x5_1 < (l0.length : Int) := of_decide_eq_true (by first | (with_reducible assumption) | assumption)
        obtain ⟨ad135, e135, hx135_0⟩ := Kd.at_int HR0.out x5_1 p135 q135
        cases e135
        replace p135 := eq_true p135
        replace q135 := eq_true q135
        have p136 : 0 ≤ (x5_1 : Int) := of_decide_eq_true (by first | (with_reducible assumption) | assumption)
        have q136 : x5_1 < (l1.length : Int) := of_decide_eq_true (by first | (with_reducible assumption) | assumption)
        obtain ⟨ad136, e136, hx136_0⟩ := Kd.at_int HR1.out x5_1 p136 q136
        cases e136
        replace p136 := eq_true p136
        replace q136 := eq_true q136
        go_wp2
        repeat (go_quiet (fail); try go_wp2)
        go_roundg k1
        case measure => have := HK1.out; omega
        case rel => exact ⟨(wrap64 (x5_1 + 1)), (by first | rfl | (simp; done) | (simp [*]; done)), H', ⟨by have := HK1.out; omega⟩, by repeat (first | exact Drawn0.refl _ | apply Drawn0.step)⟩
       ·rw [if_neg c7] at H
        have c7b0 : ((rd l0 x5_1) == (rd l1 x5_1)) = false := beq_eq_false_iff_ne.mpr c7
        have c7b1 : ((rd l0 x5_1) != (rd l1 x5_1)) = true := bne_iff_ne.mpr c7
        obtain rfl := Option.some.inj H
        have p135 : 0 ≤ (x5_1 : Int) := of_decide_eq_true (by first | (with_reducible assumption) | assumption)
        have q135 : x5_1 < (l0.length : Int) := of_decide_eq_true (by first | (with_reducible assumption) | assumption)
        obtain ⟨ad135, e135, hx135_0⟩ := Kd.at_int HR0.out x5_1 p135 q135
        cases e135
        replace p135 := eq_true p135
        replace q135 := eq_true q135
        have p136 : 0 ≤ (x5_1 : Int) := of_decide_eq_true (by first | (with_reducible assumption) | assumption)
        have q136 : x5_1 < (l1.length : Int) := of_decide_eq_true (by first | (with_reducible assumption) | assumption)
        obtain ⟨ad136, e136, hx136_0⟩ := Kd.at_int HR1.out x5_1 p136 q136
        cases e136
        replace p136 := eq_true p136
        replace q136 := eq_true q136
        go_wp2
        repeat (go_quiet (fail); try go_wp2)
        go_ret
        exact ⟨by first | rfl | (simp; done) | (simp [*]; done), by repeat (first | exact Drawn0.refl _ | apply Drawn0.step)⟩
      ·rw [if_neg c6] at H
       exact absurd H (by simp)
     ·rw [if_neg c5] at H
      exact absurd H (by simp)
    ·rw [if_neg c4] at H
     have c4b0 : decide (x5_1 < (l0.length : Int)) = false := decide_eq_false c4
     clear c4
     obtain rfl := Option.some.inj H
     go_wp2
     repeat (go_quiet (fail); try go_wp2)
     go_ret
     exact ⟨by first | rfl | (simp; done) | (simp [*]; done), by repeat (first | exact Drawn0.refl _ | apply Drawn0.step)⟩
 ·rw [if_neg c3] at H
  have c3b0 : ((l0.length : Int) == (l1.length : Int)) = false := beq_eq_false_iff_ne.mpr c3
  have c3b1 : ((l0.length : Int) != (l1.length : Int)) = true := bne_iff_ne.mpr c3
  have c3b2 : (l0.length == l1.length) = false := by first | simpa using c3 | (simp at c3 ⊢; omega)
  obtain rfl := Option.some.inj H
  go_enter Try.func19, Try.ntmps19
  go_wp2
  repeat (go_quiet (fail); try go_wp2)
  go_ret
  exact ⟨by first | rfl | (simp; done) | (simp [*]; done), by repeat (first | exact Drawn0.refl _ | apply Drawn0.step)⟩
end Go.Proofs.Ytihpndignekheaa.F
end

section
namespace Go.Proofs.Ytihpndignekheaa.F
open Go.RowKit Go.Proofs.YtihpndignekheaaW.PrintWords Go.Proofs.YtihpndignekheaaW.PrintLast Go.Proofs.YtihpndignekheaaW.PrintMore
attribute [local go_sem] max2_int min2_int max_two min_two max_three min_three max_four min_four
set_option linter.unusedVariables false
set_option linter.unusedSimpArgs false
def argosylaw14_either.f : Option (List S37) := (plan_Make.f (⟨#[116]⟩ : ByteArray) ([⟨[⟨⟨#[97]⟩, ⟨#[120]⟩, [], false, false, []⟩]⟩, ⟨[⟨⟨#[98]⟩, ⟨#[121]⟩, [], false, false, []⟩]⟩] : List BodyK)).bind fun bt => some bt.1
def Stop3_ (p : Prop) : Prop := p
theorem stop3_ {p : Prop} (h : Stop3_ p) : p := h
theorem rows2_ {W : World} {g : Nat} {A3 A5 : Option Addr} {c3 c5 : Nat} {x y : S79} (hg : W.heap[g]? = some (.cells #[.slice A3 1 c3, .slice A5 1 c5] 82 (0, 0))) (l3 : 1 ≤ c3) (h3 : Kd.C k79 W A3 1 [x]) (l5 : 1 ≤ c5) (h5 : Kd.C k79 W A5 1 [y]) :
  Kd.C k82 W (some ⟨g, 0, none⟩) 2 ([⟨[x]⟩, ⟨[y]⟩] : List S82) := by
 refine ⟨rfl, by omega, fun _ => ⟨_, rfl, fun j p hj => ?_⟩⟩
 match j, hj with
 | 0, hj =>
  obtain rfl := Option.some.inj hj
  refine ⟨[.slice A3 1 c3], rfl, k82_mk W _ l3 h3, fun i u hu => ?_⟩
  match i, hu with
  | 0, hu => obtain rfl := Option.some.inj hu; exact (blk_cell hg 0).trans rfl
 | 1, hj =>
  obtain rfl := Option.some.inj hj
  refine ⟨[.slice A5 1 c5], rfl, k82_mk W _ l5 h5, fun i u hu => ?_⟩
  match i, hu with
  | 0, hu => obtain rfl := Option.some.inj hu; exact (blk_cell hg 1).trans rfl
set_option maxHeartbeats 8000000 in
set_option maxRecDepth 100000 in
theorem argosylaw14_either.calls (r : List S37) (w : World) (h : argosylaw14_either.f = some r) :
  Calls Try.prog 23 #[] w fun e w' => ∃ v0_ : Value, e = .returned (.agg #[v0_]) ∧ Kd.N k37 37 w' w.heap.size (fun k_ => (w.heap.size ≤ k_)) v0_ r ∧ Below w.heap.size w w' := by
 obtain ⟨⟨t1, t2⟩, A1_, H⟩ := Option.bind_eq_some_iff.mp h
 have A1 := Aside0.mk A1_
 obtain rfl := Option.some.inj H
 clear h A1_ H
 have HB := Aside0.mk (Below.refl w.heap.size w)
 have hu := Try.underlying24
 have hu2 := Try.underlying82
 have hu3 := Try.underlying79
 go_enter Try.func23, Try.ntmps23
 go_wp2_with (first
  | ((with_reducible refine gate_dst (N := 0) rfl ?_); refine box_event ?hg (N := 0) ?hd (cs := #[.slice none 0 0]) (t := 24) ?hr ?_; (case hd => rfl); (case hg => rfl); (case hr => first | (go_simp; done) | (go_simp; rfl)); intro g0 hg w2 hbox hb; have K0 := Aside0.mk hbox; have n0_ := Aside0.mk (below_step (by repeat (first | (with_reducible first | exact HB.out | apply pw_below_drewN | apply below_drew1) | exact HB.out)) hb); have G0 := Aside0.mk (by rw [hg]; exact (below_size (by repeat (first | (with_reducible first | exact HB.out | apply pw_below_drewN | apply below_drew1) | exact HB.out))) : w.heap.size ≤ g0); clear HB; have HB := n0_; clear n0_ hbox hb hg)
  | ((with_reducible refine gate_dst (N := 6) rfl ?_); refine Kd.N_lit k79 _ 79 ?hg (N' := 6) ?hd (xs := ([⟨⟨#[97]⟩, ⟨#[120]⟩, [], false, false, []⟩] : List S79)) (inner := [.string ⟨#[97]⟩, .string ⟨#[120]⟩, .slice none 0 0, .bool false, .bool false, .slice none 0 0]) (ok := fun _ => True) (okp := fun _ => True) ?hr ?hp (fun _ hk => hk) trivial (Below.refl _ _) (Nat.le_refl _) (by simp) ?_; (case hd => rfl); (case hg => rfl); (case hr => first | (go_simp; done) | (go_simp; rfl)); (case hp => exact (Reps.c6 (show Kd.FK k79 _ _ (⟨⟨#[97]⟩, ⟨#[120]⟩, [], false, false, []⟩ : S79) [.string ⟨#[97]⟩, .string ⟨#[120]⟩, .slice none 0 0, .bool false, .bool false, .slice none 0 0] from (k79_mkF _ _ (⟨⟨#[97]⟩, ⟨#[120]⟩, [], false, false, []⟩ : S79) (Nat.le_refl _) (Kd.F_nil _ _ _) (Nat.le_refl _) (Kd.F_nil _ _ _))) (Reps.none _ _))); intro v3 w3 ho hb hg_ hnew_; clear hg_ hnew_; obtain ⟨A3, c3, rfl⟩ := Kd.N_slice ho; have C3 := Aside0.mk (Kd.N_reads' ho); have n0_ := Aside0.mk (below_step (by repeat (first | (with_reducible first | exact HB.out | apply pw_below_drewN | apply below_drew1) | exact HB.out)) hb); have n1_ := Aside0.mk (blk_below (g := g0) (o := .cells #[.slice none 0 0] 24 (0, 0)) (by (with_reducible repeat (first | refine blk_drewN ?_ _ | refine blk_drew ?_)); exact K0.out) hb); clear HB K0; have HB := n0_; have K0 := n1_; have HC := Aside0.mk (Below.refl w3.heap.size w3); clear n0_ n1_ ho hb)
  | ((with_reducible refine gate_dst (N := 1) rfl ?_); refine box_event ?hg (N := 1) ?hd (cs := #[.slice none 0 0]) (t := 82) ?hr ?_; (case hd => rfl); (case hg => rfl); (case hr => first | (go_simp; done) | (go_simp; rfl)); intro g1 hg w4 hbox hb; have K1 := Aside0.mk hbox; have n0_ := Aside0.mk (below_step (by repeat (first | (with_reducible first | exact HB.out | apply pw_below_drewN | apply below_drew1) | exact HB.out)) hb); have n1_ := Aside0.mk (below_step (by repeat (first | (with_reducible first | exact HC.out | apply pw_below_drewN | apply below_drew1) | exact HC.out)) hb); have n2_ := Aside0.mk (blk_below (g := g0) (o := .cells #[.slice none 0 0] 24 (0, 0)) (by (with_reducible repeat (first | refine blk_drewN ?_ _ | refine blk_drew ?_)); exact K0.out) hb); have G1 := Aside0.mk (by rw [hg]; exact (below_size (by repeat (first | (with_reducible first | exact HC.out | apply pw_below_drewN | apply below_drew1) | exact HC.out))) : w3.heap.size ≤ g1); have G1' := Aside0.mk (by rw [hg]; exact (below_size (by repeat (first | (with_reducible first | exact HB.out | apply pw_below_drewN | apply below_drew1) | exact HB.out))) : w.heap.size ≤ g1); have N01 := Aside0.mk (by rw [hg]; exact Nat.ne_of_lt (blk_lt (g := g0) (o := .cells #[.slice none 0 0] 24 (0, 0)) (by (with_reducible repeat (first | refine blk_drewN ?_ _ | refine blk_drew ?_)); exact K0.out)) : g0 ≠ g1); clear HB HC K0; have HB := n0_; have HC := n1_; have K0 := n2_; clear n0_ n1_ n2_ hbox hb hg; have hz1 : w4.cell? ⟨g1, 0, none⟩ = some (.slice none 0 0) := (blk_cell K1.out 0).trans rfl; have hf1 := blk_frozen K1.out 0)
  | ((with_reducible refine gate_dst (N := 9) rfl ?_); clear hz1 hf1; refine Kd.N_lit k79 _ 79 ?hg (N' := 9) ?hd (xs := ([⟨⟨#[98]⟩, ⟨#[121]⟩, [], false, false, []⟩] : List S79)) (inner := [.string ⟨#[98]⟩, .string ⟨#[121]⟩, .slice none 0 0, .bool false, .bool false, .slice none 0 0]) (ok := fun _ => True) (okp := fun _ => True) ?hr ?hp (fun _ hk => hk) trivial (Below.refl _ _) (Nat.le_refl _) (by simp) ?_; (case hd => rfl); (case hg => rfl); (case hr => first | (go_simp; done) | (go_simp; rfl)); (case hp => exact (Reps.c6 (show Kd.FK k79 _ _ (⟨⟨#[98]⟩, ⟨#[121]⟩, [], false, false, []⟩ : S79) [.string ⟨#[98]⟩, .string ⟨#[121]⟩, .slice none 0 0, .bool false, .bool false, .slice none 0 0] from (k79_mkF _ _ (⟨⟨#[98]⟩, ⟨#[121]⟩, [], false, false, []⟩ : S79) (Nat.le_refl _) (Kd.F_nil _ _ _) (Nat.le_refl _) (Kd.F_nil _ _ _))) (Reps.none _ _))); intro v5 w5 ho hb hg_ hnew_; clear hg_ hnew_; obtain ⟨A5, c5, rfl⟩ := Kd.N_slice ho; have C5 := Aside0.mk (Kd.N_reads' ho); have n0_ := Aside0.mk (below_step (by repeat (first | (with_reducible first | exact HB.out | apply pw_below_drewN | apply below_drew1 | refine below_set ?_ G1'.out) | exact HB.out)) hb); have n1_ := Aside0.mk (below_step (by repeat (first | (with_reducible first | exact HC.out | apply pw_below_drewN | apply below_drew1 | refine below_set ?_ G1.out) | exact HC.out)) hb); have n2_ := Aside0.mk (blk_below (g := g0) (o := .cells #[.slice none 0 0] 24 (0, 0)) (by (with_reducible repeat (first | refine blk_drewN ?_ _ | refine blk_drew ?_)); refine blk_far ?_ N01.out _; (with_reducible repeat (first | refine blk_drewN ?_ _ | refine blk_drew ?_)); exact K0.out) hb); have n3_ := Aside0.mk (blk_below (g := g1) (o := .cells #[.slice A3 1 c3] 82 (0, 0)) (by (with_reducible repeat (first | refine blk_drewN ?_ _ | refine blk_drew ?_)); refine blk_put (cs := #[.slice none 0 0]) ?_ 0 _ rfl; (with_reducible repeat (first | refine blk_drewN ?_ _ | refine blk_drew ?_)); exact K1.out) hb); clear HB HC K0 K1; have HB := n0_; have HC := n1_; have K0 := n2_; have K1 := n3_; have HD := Aside0.mk (Below.refl w5.heap.size w5); clear n0_ n1_ n2_ n3_ ho hb)
  | ((with_reducible refine gate_dst (N := 2) rfl ?_); refine box_event ?hg (N := 2) ?hd (cs := #[.slice none 0 0]) (t := 82) ?hr ?_; (case hd => rfl); (case hg => rfl); (case hr => first | (go_simp; done) | (go_simp; rfl)); intro g2 hg w6 hbox hb; have K2 := Aside0.mk hbox; have n0_ := Aside0.mk (below_step (by repeat (first | (with_reducible first | exact HB.out | apply pw_below_drewN | apply below_drew1) | exact HB.out)) hb); have n1_ := Aside0.mk (below_step (by repeat (first | (with_reducible first | exact HC.out | apply pw_below_drewN | apply below_drew1) | exact HC.out)) hb); have n4_ := Aside0.mk (below_step (by repeat (first | (with_reducible first | exact HD.out | apply pw_below_drewN | apply below_drew1) | exact HD.out)) hb); have n2_ := Aside0.mk (blk_below (g := g0) (o := .cells #[.slice none 0 0] 24 (0, 0)) (by (with_reducible repeat (first | refine blk_drewN ?_ _ | refine blk_drew ?_)); exact K0.out) hb); have n3_ := Aside0.mk (blk_below (g := g1) (o := .cells #[.slice A3 1 c3] 82 (0, 0)) (by (with_reducible repeat (first | refine blk_drewN ?_ _ | refine blk_drew ?_)); exact K1.out) hb); have G2 := Aside0.mk (by rw [hg]; exact (below_size (by repeat (first | (with_reducible first | exact HD.out | apply pw_below_drewN | apply below_drew1) | exact HD.out))) : w5.heap.size ≤ g2); have G2' := Aside0.mk (by rw [hg]; exact (below_size (by repeat (first | (with_reducible first | exact HB.out | apply pw_below_drewN | apply below_drew1) | exact HB.out))) : w.heap.size ≤ g2); have G2c := Aside0.mk (by rw [hg]; exact (below_size (by repeat (first | (with_reducible first | exact HC.out | apply pw_below_drewN | apply below_drew1) | exact HC.out))) : w3.heap.size ≤ g2); have N02 := Aside0.mk (by rw [hg]; exact Nat.ne_of_lt (blk_lt (g := g0) (o := .cells #[.slice none 0 0] 24 (0, 0)) (by (with_reducible repeat (first | refine blk_drewN ?_ _ | refine blk_drew ?_)); exact K0.out)) : g0 ≠ g2); have N12 := Aside0.mk (by rw [hg]; exact Nat.ne_of_lt (blk_lt (g := g1) (o := .cells #[.slice A3 1 c3] 82 (0, 0)) (by (with_reducible repeat (first | refine blk_drewN ?_ _ | refine blk_drew ?_)); exact K1.out)) : g1 ≠ g2); clear HB HC HD K0 K1; have HB := n0_; have HC := n1_; have HD := n4_; have K0 := n2_; have K1 := n3_; clear n0_ n1_ n2_ n3_ n4_ hbox hb hg; have hz2 : w6.cell? ⟨g2, 0, none⟩ = some (.slice none 0 0) := (blk_cell K2.out 0).trans rfl; have hf2 := blk_frozen K2.out 0; have hz1 : w6.cell? ⟨g1, 0, none⟩ = some (.slice A3 1 c3) := (blk_cell K1.out 0).trans rfl; have hn12 := N12.out; have hn21 := N12.out.symm)
  | (go_at_call 33; refine stop3_ ?_))
 unfold Stop3_
 have hBW := below_alloc (below_set HB.out G2'.out (v := .slice A5 1 c5) (j := 0)) (.cells #[.slice A3 1 c3, .slice A5 1 c5] 82 (0, 0))
 have hCW := below_alloc (below_set HC.out G2c.out (v := .slice A5 1 c5) (j := 0)) (.cells #[.slice A3 1 c3, .slice A5 1 c5] 82 (0, 0))
 have hDW := below_alloc (below_set HD.out G2.out (v := .slice A5 1 c5) (j := 0)) (.cells #[.slice A3 1 c3, .slice A5 1 c5] 82 (0, 0))
 have hKW : (((w6.setCell ⟨g2, 0, none⟩ (.slice A5 1 c5)).alloc (.cells #[.slice A3 1 c3, .slice A5 1 c5] 82 (0, 0))).heap[g0]?) = some (.cells #[.slice none 0 0] 24 (0, 0)) := blk_alloc (blk_far K0.out N02.out _) _
 refine (plan_Make.calls (⟨#[116]⟩ : ByteArray) _ _ ([⟨[⟨⟨#[97]⟩, ⟨#[120]⟩, [], false, false, []⟩]⟩, ⟨[⟨⟨#[98]⟩, ⟨#[121]⟩, [], false, false, []⟩]⟩] : List BodyK) t1 t2 _ (rows2_ (by have h_ := blk_new (w6.setCell ⟨g2, 0, none⟩ (.slice A5 1 c5)) (.cells #[.slice A3 1 c3, .slice A5 1 c5] 82 (0, 0)); rwa [World.size_setCell] at h_) C3.out.2.1 (Kd.C_below C3.out.2.2 hCW) C5.out.2.1 (Kd.C_below C5.out.2.2 hDW)) (Nat.le_refl _) A1.out).mono ?_
 rintro e w7 ⟨v7, rfl, ho, hb⟩
 have HB7 := Aside0.mk (hBW.trans (hb.mono hBW.size))
 have K7 := Aside0.mk (blk_below hKW hb)
 have G7 := Aside0.mk (blk_lt K7.out)
 obtain ⟨A7, c7, rfl⟩ := Kd.N_slice ho
 have HN := Aside0.mk (Kd.N_lower (Kd.N_mono (ok' := fun k_ => w.heap.size ≤ k_ ∧ k_ ≠ g0) ho (fun k_ hk_ => ⟨Nat.le_trans hBW.size hk_, fun e => by have := blk_lt hKW; omega⟩)) hBW.size)
 clear hBW hCW hDW hKW hb ho hz1 hz2 hf2 hn12 hn21
 go_wp2_with ((with_reducible refine gate_dst (N := 3) rfl ?_); refine stop3_ ?_)
 unfold Stop3_
 refine box_event ?hg (N := 3) ?hd (cs := #[.slice none 0 0]) (t := 24) ?hr ?_
 (case hd => rfl)
 (case hg => rfl)
 (case hr => first | (go_simp; done) | (go_simp; rfl))
 intro g3 hg w8 hbox hb
 have K8 := Aside0.mk (blk_below K7.out hb)
 have K3 := Aside0.mk hbox
 have HB8 := Aside0.mk (below_step HB7.out hb)
 have G3 : Aside0 (w.heap.size ≤ g3) := ⟨by rw [hg]; exact HB7.out.size⟩
 have HN8 := Aside0.mk (Kd.N_below (Kd.N_elderB HN.out g3 (Nat.le_of_eq hg.symm)) hb)
 have hn0 : g0 ≠ g3 := by rw [hg]; exact Nat.ne_of_lt G7.out
 have hn0' : g3 ≠ g0 := hn0.symm
 have NB := Aside0.mk hn0
 clear hbox hb hg
 have hz3 : w8.cell? ⟨g3, 0, none⟩ = some (.slice none 0 0) := (blk_cell K3.out 0).trans rfl
 have hf3 := blk_frozen K3.out 0
 have hz0 : w8.cell? ⟨g0, 0, none⟩ = some (.slice none 0 0) := (blk_cell K8.out 0).trans rfl
 have hf0 := blk_frozen K8.out 0
 go_wp2
 refine bodyPost_ret (results_cell_row rfl _ _ g0 24 #[.slice A7 t1.length c7] (0, 0) _ rfl (by (with_reducible repeat (first | refine blk_drewN ?_ _ | refine blk_drew ?_ | refine blk_alloc ?_ _)); refine blk_put (cs := #[.slice none 0 0]) ?_ 0 _ rfl; (with_reducible repeat (first | refine blk_drewN ?_ _ | refine blk_drew ?_ | refine blk_alloc ?_ _)); refine blk_far ?_ NB.out _; (with_reducible repeat (first | refine blk_drewN ?_ _ | refine blk_drew ?_ | refine blk_alloc ?_ _)); exact K8.out) Try.underlying24 rfl (by kernel_rfl)) rfl ?_
 exact ⟨_, rfl, by (with_reducible repeat (first | apply Kd.N_alloc | apply Kd.N_drewN | apply Kd.N_drew)); exact Kd.N_mono (Kd.N_far (p := ⟨g0, 0, none⟩) (Kd.N_far (p := ⟨g3, 0, none⟩) (Kd.N_mono HN8.out (fun k_ hk => (⟨hk.1, hk.2⟩ : _ ∧ k_ ≠ g3))) (fun k_ hk => hk.2) (.slice A7 t1.length c7)) (fun _ hk => hk.1.2) (.slice A7 t1.length c7)) (fun _ hk => hk.1.1), by repeat (first | (with_reducible first | exact HB8.out | apply below_alloc | apply pw_below_drewN | apply below_drew1 | refine below_set ?_ G0.out | refine below_set ?_ G3.out) | exact HB8.out)⟩
end Go.Proofs.Ytihpndignekheaa.F
end

section
namespace Go.Proofs.Ytihpndignekheaa.F
open Go.RowKit Go.Proofs.YtihpndignekheaaW.PrintWords Go.Proofs.YtihpndignekheaaW.PrintLast Go.Proofs.YtihpndignekheaaW.PrintMore
attribute [local go_sem] max2_int min2_int max_two min_two max_three min_three max_four min_four
set_option linter.unusedVariables false
set_option linter.unusedSimpArgs false
def argosylaw14_lives.f (k : Nat)  : Option (Bool) := (argosylaw14_either.f).bind fun t137 => (if 3 ≤ 8796093022208 then ((some (List.replicate 3 z59 : List (S59))).bind fun y141 => ((some (([(⟨0, 0, 0, false⟩ : S59), (⟨3, 0, 0, false⟩ : S59), (⟨0, 0, 0, false⟩ : S59)] : List (S59)) : List (S59))).bind fun y144 => ((state_All.f t137 y141).bind fun bt153 => ((state_All.f t137 y144).bind fun bt157 => ((argosylaw14_is.f k bt153.1 (([0, 0, 0] : List Int))).bind fun t164 => (if t164 = true then (if bt153.2 = 0 then ((argosylaw14_is.f k bt157.1 (([1, 3, 0] : List Int))).bind fun t168 => (if t168 = true then (if bt157.2 = 0 then ((state_At.f t137 y144 0).bind fun t169 => (if t169 = 1 then ((state_Verdict.f t137 (([(⟨0, 0, 0, false⟩ : S59), (⟨3, 0, 0, false⟩ : S59), (⟨3, 0, 0, false⟩ : S59)] : List (S59)))).bind fun t170 => (if t170 = 3 then ((state_Verdict.f t137 (([(⟨0, 0, 0, false⟩ : S59), (⟨3, 0, 0, false⟩ : S59), (⟨2, 0, 0, false⟩ : S59)] : List (S59)))).bind fun t171 => (if t171 = 2 then ((state_Verdict.f t137 y141).bind fun t172 => (if t172 = 1 then ((state_Falling.f t137 y144 0 0).bind fun t173 => (some t173)) else (some false))) else (some false))) else (some false))) else (some false))) else (some false)) else (some false))) else (some false)) else (some false))))))) else (none))
theorem argosylaw14_lives.mono : ∀ k, LeO (argosylaw14_lives.f k ) (argosylaw14_lives.f (k + 1) ) := by
 intro  k
 unfold argosylaw14_lives.f
 repeat' first
   | (with_reducible exact argosylaw14_is.mono _ _ _)
   | (with_reducible exact LeO.refl _)
   | (with_reducible exact LeO.none _)
   | (with_reducible refine LeO.ite ?_ ?_)
   | (with_reducible refine LeO.bind ?_ (fun _ => ?_))
   | exact argosylaw14_is.mono _ _ _
   | exact LeO.none _
   | refine LeO.ite ?_ ?_
   | refine LeO.bind ?_ (fun _ => ?_)
set_option maxHeartbeats 8000000 in
set_option maxRecDepth 100000 in
theorem argosylaw14_lives.calls_ (k : Nat)  (r : Bool) (w : World) (hr0 : r = true) (h : argosylaw14_lives.f k  = some r) :
  Calls Try.prog 8 #[] w fun e w' => e = .returned (.bool r) ∧ Below w.heap.size w w' := by
 have HR0 := Aside0.mk hr0
 clear hr0
 have hu24 := Try.underlying24
 have hu59 := Try.underlying59
 have HB := Aside0.mk (Below.refl w.heap.size w)
 have H : ((argosylaw14_either.f).bind fun t137 => (if 3 ≤ 8796093022208 then ((some (List.replicate 3 z59 : List (S59))).bind fun y141 => ((some (([(⟨0, 0, 0, false⟩ : S59), (⟨3, 0, 0, false⟩ : S59), (⟨0, 0, 0, false⟩ : S59)] : List (S59)) : List (S59))).bind fun y144 => ((state_All.f t137 y141).bind fun bt153 => ((state_All.f t137 y144).bind fun bt157 => ((argosylaw14_is.f k bt153.1 (([0, 0, 0] : List Int))).bind fun t164 => (if t164 = true then (if bt153.2 = 0 then ((argosylaw14_is.f k bt157.1 (([1, 3, 0] : List Int))).bind fun t168 => (if t168 = true then (if bt157.2 = 0 then ((state_At.f t137 y144 0).bind fun t169 => (if t169 = 1 then ((state_Verdict.f t137 (([(⟨0, 0, 0, false⟩ : S59), (⟨3, 0, 0, false⟩ : S59), (⟨3, 0, 0, false⟩ : S59)] : List (S59)))).bind fun t170 => (if t170 = 3 then ((state_Verdict.f t137 (([(⟨0, 0, 0, false⟩ : S59), (⟨3, 0, 0, false⟩ : S59), (⟨2, 0, 0, false⟩ : S59)] : List (S59)))).bind fun t171 => (if t171 = 2 then ((state_Verdict.f t137 y141).bind fun t172 => (if t172 = 1 then ((state_Falling.f t137 y144 0 0).bind fun t173 => (some t173)) else (some false))) else (some false))) else (some false))) else (some false))) else (some false)) else (some false))) else (some false)) else (some false))))))) else (none))) = some r := h
 clear h
 replace H := Option.bind_eq_some_iff.mp H
 obtain ⟨t137, A10, H⟩ := H
 replace H : (if 3 ≤ 8796093022208 then ((some (List.replicate 3 z59 : List (S59))).bind fun y141 => ((some (([(⟨0, 0, 0, false⟩ : S59), (⟨3, 0, 0, false⟩ : S59), (⟨0, 0, 0, false⟩ : S59)] : List (S59)) : List (S59))).bind fun y144 => ((state_All.f t137 y141).bind fun bt153 => ((state_All.f t137 y144).bind fun bt157 => ((argosylaw14_is.f k bt153.1 (([0, 0, 0] : List Int))).bind fun t164 => (if t164 = true then (if bt153.2 = 0 then ((argosylaw14_is.f k bt157.1 (([1, 3, 0] : List Int))).bind fun t168 => (if t168 = true then (if bt157.2 = 0 then ((state_At.f t137 y144 0).bind fun t169 => (if t169 = 1 then ((state_Verdict.f t137 (([(⟨0, 0, 0, false⟩ : S59), (⟨3, 0, 0, false⟩ : S59), (⟨3, 0, 0, false⟩ : S59)] : List (S59)))).bind fun t170 => (if t170 = 3 then ((state_Verdict.f t137 (([(⟨0, 0, 0, false⟩ : S59), (⟨3, 0, 0, false⟩ : S59), (⟨2, 0, 0, false⟩ : S59)] : List (S59)))).bind fun t171 => (if t171 = 2 then ((state_Verdict.f t137 y141).bind fun t172 => (if t172 = 1 then ((state_Falling.f t137 y144 0 0).bind fun t173 => (some t173)) else (some false))) else (some false))) else (some false))) else (some false))) else (some false)) else (some false))) else (some false)) else (some false))))))) else (none)) = some r := H
 have A1 := Aside0.mk A10
 clear A10
 by_cases c2 : 3 ≤ 8796093022208
 ·rw [if_pos c2] at H
  have c2b0 := eq_true c2
  have c2b1 : decide (3 ≤ 8796093022208) = true := decide_eq_true c2
  clear c2
  obtain ⟨y141, hy141⟩ : ∃ y_ : List (S59), y_ = (List.replicate 3 z59) := ⟨_, rfl⟩
  replace H : ((some (([(⟨0, 0, 0, false⟩ : S59), (⟨3, 0, 0, false⟩ : S59), (⟨0, 0, 0, false⟩ : S59)] : List (S59)) : List (S59))).bind fun y144 => ((state_All.f t137 y141).bind fun bt153 => ((state_All.f t137 y144).bind fun bt157 => ((argosylaw14_is.f k bt153.1 (([0, 0, 0] : List Int))).bind fun t164 => (if t164 = true then (if bt153.2 = 0 then ((argosylaw14_is.f k bt157.1 (([1, 3, 0] : List Int))).bind fun t168 => (if t168 = true then (if bt157.2 = 0 then ((state_At.f t137 y144 0).bind fun t169 => (if t169 = 1 then ((state_Verdict.f t137 (([(⟨0, 0, 0, false⟩ : S59), (⟨3, 0, 0, false⟩ : S59), (⟨3, 0, 0, false⟩ : S59)] : List (S59)))).bind fun t170 => (if t170 = 3 then ((state_Verdict.f t137 (([(⟨0, 0, 0, false⟩ : S59), (⟨3, 0, 0, false⟩ : S59), (⟨2, 0, 0, false⟩ : S59)] : List (S59)))).bind fun t171 => (if t171 = 2 then ((state_Verdict.f t137 y141).bind fun t172 => (if t172 = 1 then ((state_Falling.f t137 y144 0 0).bind fun t173 => (some t173)) else (some false))) else (some false))) else (some false))) else (some false))) else (some false)) else (some false))) else (some false)) else (some false)))))) = some r := by first | (rw [hy141]; with_reducible exact H) | (have H2_ := (Option.bind_some _ _).symm.trans H; rw [hy141]; with_reducible exact H2_) | (have H2_ := (Option.bind_some _ _).symm.trans H; with_reducible exact H2_) | with_reducible exact H | (rw [hy141]; exact H) | exact H
  have Ny141 := Aside0.mk hy141
  clear hy141
  obtain ⟨y144, hy144⟩ : ∃ y_ : List (S59), y_ = (([(⟨0, 0, 0, false⟩ : S59), (⟨3, 0, 0, false⟩ : S59), (⟨0, 0, 0, false⟩ : S59)] : List (S59))) := ⟨_, rfl⟩
  replace H : ((state_All.f t137 y141).bind fun bt153 => ((state_All.f t137 y144).bind fun bt157 => ((argosylaw14_is.f k bt153.1 (([0, 0, 0] : List Int))).bind fun t164 => (if t164 = true then (if bt153.2 = 0 then ((argosylaw14_is.f k bt157.1 (([1, 3, 0] : List Int))).bind fun t168 => (if t168 = true then (if bt157.2 = 0 then ((state_At.f t137 y144 0).bind fun t169 => (if t169 = 1 then ((state_Verdict.f t137 (([(⟨0, 0, 0, false⟩ : S59), (⟨3, 0, 0, false⟩ : S59), (⟨3, 0, 0, false⟩ : S59)] : List (S59)))).bind fun t170 => (if t170 = 3 then ((state_Verdict.f t137 (([(⟨0, 0, 0, false⟩ : S59), (⟨3, 0, 0, false⟩ : S59), (⟨2, 0, 0, false⟩ : S59)] : List (S59)))).bind fun t171 => (if t171 = 2 then ((state_Verdict.f t137 y141).bind fun t172 => (if t172 = 1 then ((state_Falling.f t137 y144 0 0).bind fun t173 => (some t173)) else (some false))) else (some false))) else (some false))) else (some false))) else (some false)) else (some false))) else (some false)) else (some false))))) = some r := by first | (rw [hy144]; with_reducible exact H) | (have H2_ := (Option.bind_some _ _).symm.trans H; rw [hy144]; with_reducible exact H2_) | (have H2_ := (Option.bind_some _ _).symm.trans H; with_reducible exact H2_) | with_reducible exact H | (rw [hy144]; exact H) | exact H
  have Ny144 := Aside0.mk hy144
  clear hy144
  obtain ⟨y147, hy147⟩ : ∃ y_ : List (S59), y_ = (([(⟨0, 0, 0, false⟩ : S59), (⟨3, 0, 0, false⟩ : S59), (⟨3, 0, 0, false⟩ : S59)] : List (S59))) := ⟨_, rfl⟩
  replace H : ((state_All.f t137 y141).bind fun bt153 => ((state_All.f t137 y144).bind fun bt157 => ((argosylaw14_is.f k bt153.1 (([0, 0, 0] : List Int))).bind fun t164 => (if t164 = true then (if bt153.2 = 0 then ((argosylaw14_is.f k bt157.1 (([1, 3, 0] : List Int))).bind fun t168 => (if t168 = true then (if bt157.2 = 0 then ((state_At.f t137 y144 0).bind fun t169 => (if t169 = 1 then ((state_Verdict.f t137 y147).bind fun t170 => (if t170 = 3 then ((state_Verdict.f t137 (([(⟨0, 0, 0, false⟩ : S59), (⟨3, 0, 0, false⟩ : S59), (⟨2, 0, 0, false⟩ : S59)] : List (S59)))).bind fun t171 => (if t171 = 2 then ((state_Verdict.f t137 y141).bind fun t172 => (if t172 = 1 then ((state_Falling.f t137 y144 0 0).bind fun t173 => (some t173)) else (some false))) else (some false))) else (some false))) else (some false))) else (some false)) else (some false))) else (some false)) else (some false))))) = some r := by first | (rw [hy147]; with_reducible exact H) | (have H2_ := (Option.bind_some _ _).symm.trans H; rw [hy147]; with_reducible exact H2_) | (have H2_ := (Option.bind_some _ _).symm.trans H; with_reducible exact H2_) | with_reducible exact H | (rw [hy147]; exact H) | exact H
  have Ny147 := Aside0.mk hy147
  clear hy147
  obtain ⟨y150, hy150⟩ : ∃ y_ : List (S59), y_ = (([(⟨0, 0, 0, false⟩ : S59), (⟨3, 0, 0, false⟩ : S59), (⟨2, 0, 0, false⟩ : S59)] : List (S59))) := ⟨_, rfl⟩
  replace H : ((state_All.f t137 y141).bind fun bt153 => ((state_All.f t137 y144).bind fun bt157 => ((argosylaw14_is.f k bt153.1 (([0, 0, 0] : List Int))).bind fun t164 => (if t164 = true then (if bt153.2 = 0 then ((argosylaw14_is.f k bt157.1 (([1, 3, 0] : List Int))).bind fun t168 => (if t168 = true then (if bt157.2 = 0 then ((state_At.f t137 y144 0).bind fun t169 => (if t169 = 1 then ((state_Verdict.f t137 y147).bind fun t170 => (if t170 = 3 then ((state_Verdict.f t137 y150).bind fun t171 => (if t171 = 2 then ((state_Verdict.f t137 y141).bind fun t172 => (if t172 = 1 then ((state_Falling.f t137 y144 0 0).bind fun t173 => (some t173)) else (some false))) else (some false))) else (some false))) else (some false))) else (some false)) else (some false))) else (some false)) else (some false))))) = some r := by first | (rw [hy150]; with_reducible exact H) | (have H2_ := (Option.bind_some _ _).symm.trans H; rw [hy150]; with_reducible exact H2_) | (have H2_ := (Option.bind_some _ _).symm.trans H; with_reducible exact H2_) | with_reducible exact H | (rw [hy150]; exact H) | exact H
  have Ny150 := Aside0.mk hy150
  clear hy150
  replace H := Option.bind_eq_some_iff.mp H
  obtain ⟨⟨t153, t156⟩, A30, H⟩ := H
  replace H : ((state_All.f t137 y144).bind fun bt157 => ((argosylaw14_is.f k t153 (([0, 0, 0] : List Int))).bind fun t164 => (if t164 = true then (if t156 = 0 then ((argosylaw14_is.f k bt157.1 (([1, 3, 0] : List Int))).bind fun t168 => (if t168 = true then (if bt157.2 = 0 then ((state_At.f t137 y144 0).bind fun t169 => (if t169 = 1 then ((state_Verdict.f t137 y147).bind fun t170 => (if t170 = 3 then ((state_Verdict.f t137 y150).bind fun t171 => (if t171 = 2 then ((state_Verdict.f t137 y141).bind fun t172 => (if t172 = 1 then ((state_Falling.f t137 y144 0 0).bind fun t173 => (some t173)) else (some false))) else (some false))) else (some false))) else (some false))) else (some false)) else (some false))) else (some false)) else (some false)))) = some r := H
  have A3 := Aside0.mk A30
  clear A30
  replace H := Option.bind_eq_some_iff.mp H
  obtain ⟨⟨t157, t160⟩, A40, H⟩ := H
  replace H : ((argosylaw14_is.f k t153 (([0, 0, 0] : List Int))).bind fun t164 => (if t164 = true then (if t156 = 0 then ((argosylaw14_is.f k t157 (([1, 3, 0] : List Int))).bind fun t168 => (if t168 = true then (if t160 = 0 then ((state_At.f t137 y144 0).bind fun t169 => (if t169 = 1 then ((state_Verdict.f t137 y147).bind fun t170 => (if t170 = 3 then ((state_Verdict.f t137 y150).bind fun t171 => (if t171 = 2 then ((state_Verdict.f t137 y141).bind fun t172 => (if t172 = 1 then ((state_Falling.f t137 y144 0 0).bind fun t173 => (some t173)) else (some false))) else (some false))) else (some false))) else (some false))) else (some false)) else (some false))) else (some false)) else (some false))) = some r := H
  have A4 := Aside0.mk A40
  clear A40
  obtain ⟨y161, hy161⟩ : ∃ y_ : List Int, y_ = (([0, 0, 0] : List Int)) := ⟨_, rfl⟩
  replace H : ((argosylaw14_is.f k t153 y161).bind fun t164 => (if t164 = true then (if t156 = 0 then ((argosylaw14_is.f k t157 (([1, 3, 0] : List Int))).bind fun t168 => (if t168 = true then (if t160 = 0 then ((state_At.f t137 y144 0).bind fun t169 => (if t169 = 1 then ((state_Verdict.f t137 y147).bind fun t170 => (if t170 = 3 then ((state_Verdict.f t137 y150).bind fun t171 => (if t171 = 2 then ((state_Verdict.f t137 y141).bind fun t172 => (if t172 = 1 then ((state_Falling.f t137 y144 0 0).bind fun t173 => (some t173)) else (some false))) else (some false))) else (some false))) else (some false))) else (some false)) else (some false))) else (some false)) else (some false))) = some r := by first | (rw [hy161]; with_reducible exact H) | (have H2_ := (Option.bind_some _ _).symm.trans H; rw [hy161]; with_reducible exact H2_) | (have H2_ := (Option.bind_some _ _).symm.trans H; with_reducible exact H2_) | with_reducible exact H | (rw [hy161]; exact H) | exact H
  have Ny161 := Aside0.mk hy161
  clear hy161
  replace H := Option.bind_eq_some_iff.mp H
  obtain ⟨t164, A50, H⟩ := H
  replace H : (if t164 = true then (if t156 = 0 then ((argosylaw14_is.f k t157 (([1, 3, 0] : List Int))).bind fun t168 => (if t168 = true then (if t160 = 0 then ((state_At.f t137 y144 0).bind fun t169 => (if t169 = 1 then ((state_Verdict.f t137 y147).bind fun t170 => (if t170 = 3 then ((state_Verdict.f t137 y150).bind fun t171 => (if t171 = 2 then ((state_Verdict.f t137 y141).bind fun t172 => (if t172 = 1 then ((state_Falling.f t137 y144 0 0).bind fun t173 => (some t173)) else (some false))) else (some false))) else (some false))) else (some false))) else (some false)) else (some false))) else (some false)) else (some false)) = some r := H
  have A5 := Aside0.mk A50
  clear A50
  by_cases c6 : t164 = true
  ·subst c6
   have H1 : (if t156 = 0 then ((argosylaw14_is.f k t157 (([1, 3, 0] : List Int))).bind fun t168 => (if t168 = true then (if t160 = 0 then ((state_At.f t137 y144 0).bind fun t169 => (if t169 = 1 then ((state_Verdict.f t137 y147).bind fun t170 => (if t170 = 3 then ((state_Verdict.f t137 y150).bind fun t171 => (if t171 = 2 then ((state_Verdict.f t137 y141).bind fun t172 => (if t172 = 1 then ((state_Falling.f t137 y144 0 0).bind fun t173 => (some t173)) else (some false))) else (some false))) else (some false))) else (some false))) else (some false)) else (some false))) else (some false)) = some r := by rw [if_pos rfl] at H; exact H
   clear H
   have H := H1
   clear H1
   by_cases c7 : t156 = 0
   ·rw [if_pos c7] at H
    have c7b0 : (t156 == 0) = true := beq_iff_eq.mpr c7
    have c7b1 : (t156 != 0) = false := bne_eq_false_iff_eq.mpr c7
    clear c7
    obtain ⟨y165, hy165⟩ : ∃ y_ : List Int, y_ = (([1, 3, 0] : List Int)) := ⟨_, rfl⟩
    replace H : ((argosylaw14_is.f k t157 y165).bind fun t168 => (if t168 = true then (if t160 = 0 then ((state_At.f t137 y144 0).bind fun t169 => (if t169 = 1 then ((state_Verdict.f t137 y147).bind fun t170 => (if t170 = 3 then ((state_Verdict.f t137 y150).bind fun t171 => (if t171 = 2 then ((state_Verdict.f t137 y141).bind fun t172 => (if t172 = 1 then ((state_Falling.f t137 y144 0 0).bind fun t173 => (some t173)) else (some false))) else (some false))) else (some false))) else (some false))) else (some false)) else (some false))) = some r := by first | (rw [hy165]; with_reducible exact H) | (have H2_ := (Option.bind_some _ _).symm.trans H; rw [hy165]; with_reducible exact H2_) | (have H2_ := (Option.bind_some _ _).symm.trans H; with_reducible exact H2_) | with_reducible exact H | (rw [hy165]; exact H) | exact H
    have Ny165 := Aside0.mk hy165
    clear hy165
    replace H := Option.bind_eq_some_iff.mp H
    obtain ⟨t168, A80, H⟩ := H
    replace H : (if t168 = true then (if t160 = 0 then ((state_At.f t137 y144 0).bind fun t169 => (if t169 = 1 then ((state_Verdict.f t137 y147).bind fun t170 => (if t170 = 3 then ((state_Verdict.f t137 y150).bind fun t171 => (if t171 = 2 then ((state_Verdict.f t137 y141).bind fun t172 => (if t172 = 1 then ((state_Falling.f t137 y144 0 0).bind fun t173 => (some t173)) else (some false))) else (some false))) else (some false))) else (some false))) else (some false)) else (some false)) = some r := H
    have A8 := Aside0.mk A80
    clear A80
    by_cases c9 : t168 = true
    ·subst c9
     have H1 : (if t160 = 0 then ((state_At.f t137 y144 0).bind fun t169 => (if t169 = 1 then ((state_Verdict.f t137 y147).bind fun t170 => (if t170 = 3 then ((state_Verdict.f t137 y150).bind fun t171 => (if t171 = 2 then ((state_Verdict.f t137 y141).bind fun t172 => (if t172 = 1 then ((state_Falling.f t137 y144 0 0).bind fun t173 => (some t173)) else (some false))) else (some false))) else (some false))) else (some false))) else (some false)) = some r := by rw [if_pos rfl] at H; exact H
     clear H
     have H := H1
     clear H1
     by_cases c10 : t160 = 0
     ·rw [if_pos c10] at H
      have c10b0 : (t160 == 0) = true := beq_iff_eq.mpr c10
      have c10b1 : (t160 != 0) = false := bne_eq_false_iff_eq.mpr c10
      clear c10
      replace H := Option.bind_eq_some_iff.mp H
      obtain ⟨t169, A110, H⟩ := H
      replace H : (if t169 = 1 then ((state_Verdict.f t137 y147).bind fun t170 => (if t170 = 3 then ((state_Verdict.f t137 y150).bind fun t171 => (if t171 = 2 then ((state_Verdict.f t137 y141).bind fun t172 => (if t172 = 1 then ((state_Falling.f t137 y144 0 0).bind fun t173 => (some t173)) else (some false))) else (some false))) else (some false))) else (some false)) = some r := H
      have A11 := Aside0.mk A110
      clear A110
      by_cases c12 : t169 = 1
      ·rw [if_pos c12] at H
       have c12b0 : (t169 == 1) = true := beq_iff_eq.mpr c12
       have c12b1 : (t169 != 1) = false := bne_eq_false_iff_eq.mpr c12
       clear c12
       replace H := Option.bind_eq_some_iff.mp H
       obtain ⟨t170, A130, H⟩ := H
       replace H : (if t170 = 3 then ((state_Verdict.f t137 y150).bind fun t171 => (if t171 = 2 then ((state_Verdict.f t137 y141).bind fun t172 => (if t172 = 1 then ((state_Falling.f t137 y144 0 0).bind fun t173 => (some t173)) else (some false))) else (some false))) else (some false)) = some r := H
       have A13 := Aside0.mk A130
       clear A130
       by_cases c14 : t170 = 3
       ·rw [if_pos c14] at H
        have c14b0 : (t170 == 3) = true := beq_iff_eq.mpr c14
        have c14b1 : (t170 != 3) = false := bne_eq_false_iff_eq.mpr c14
        clear c14
        replace H := Option.bind_eq_some_iff.mp H
        obtain ⟨t171, A150, H⟩ := H
        replace H : (if t171 = 2 then ((state_Verdict.f t137 y141).bind fun t172 => (if t172 = 1 then ((state_Falling.f t137 y144 0 0).bind fun t173 => (some t173)) else (some false))) else (some false)) = some r := H
        have A15 := Aside0.mk A150
        clear A150
        by_cases c16 : t171 = 2
        ·rw [if_pos c16] at H
         have c16b0 : (t171 == 2) = true := beq_iff_eq.mpr c16
         have c16b1 : (t171 != 2) = false := bne_eq_false_iff_eq.mpr c16
         clear c16
         replace H := Option.bind_eq_some_iff.mp H
         obtain ⟨t172, A170, H⟩ := H
         replace H : (if t172 = 1 then ((state_Falling.f t137 y144 0 0).bind fun t173 => (some t173)) else (some false)) = some r := H
         have A17 := Aside0.mk A170
         clear A170
         by_cases c18 : t172 = 1
         ·rw [if_pos c18] at H
          have c18b0 : (t172 == 1) = true := beq_iff_eq.mpr c18
          have c18b1 : (t172 != 1) = false := bne_eq_false_iff_eq.mpr c18
          clear c18
          replace H := Option.bind_eq_some_iff.mp H
          obtain ⟨t173, A190, H⟩ := H
          replace H : (some t173) = some r := H
          have A19 := Aside0.mk A190
          clear A190
          obtain rfl := Option.some.inj H
          go_enter Try.func8, Try.ntmps8
          go_wp2_with (first | ((with_reducible refine gate_callee (f := 23) rfl ?_); refine goesL_ (some 10) rfl rfl Try.func23 (by kernel_rfl) rfl #[] rfl (by (try simp only [List.map_toArray, List.map_cons, List.map_nil]); first | done | rfl | (simp only [List.length_drop, List.length_take]; rfl)) ?_; (with_reducible refine (argosylaw14_either.calls  t137 _ A1.out).mono ?_); rintro e w20 ⟨v138, rfl, ho0, hb⟩; refine ⟨_, rfl, ?_⟩; have n0_ := Aside0.mk (Kd.N_lower (Kd.N_mono (ok' := fun k_ => True) ho0 (fun k_ hk_ => trivial)) (below_size (by repeat (first | (with_reducible first | exact HB.out | apply below_alloc | apply pw_below_drewN | apply below_drew1) | exact HB.out)))); have n1_ := Aside0.mk (below_step (by repeat (first | (with_reducible first | exact HB.out | apply below_alloc | apply pw_below_drewN | apply below_drew1) | exact HB.out)) hb); clear HB; have HO139 := n0_; have HB := n1_; clear n0_ n1_; (try clear hb); (try clear hb2); (try clear hk); (try clear hi); (try clear ho0)) | ((with_reducible refine gate_dst (N := 1) rfl ?_); (try (refine gate_guard (by rfl) ?_; dsimp only)); refine box_event ?hg (N := 1) ?hd (cs := #[.slice none 0 0]) (t := 24) ?hr ?_; (case hd => rfl); (case hg => rfl); (case hr => first | (go_simp; done) | (go_simp; rfl)); intro gb140 hg w21 hbox hb; have n0_ := Aside0.mk (Kd.N_below (Kd.N_elderB (by (with_reducible repeat (first | apply Kd.N_alloc | apply Kd.N_drewN | apply Kd.N_drew)); exact HO139.out) gb140 (Nat.le_of_eq hg.symm)) hb); have n1_ := Aside0.mk (below_step (by repeat (first | (with_reducible first | exact HB.out | apply below_alloc | apply pw_below_drewN | apply below_drew1) | exact HB.out)) hb); have n2_ := Aside0.mk (hbox); have n3_ := Aside0.mk ((by rw [hg]; exact (below_size (by repeat (first | (with_reducible first | exact HB.out | apply below_alloc | apply pw_below_drewN | apply below_drew1) | exact HB.out))) : w.heap.size ≤ gb140)); have n4_ := Aside0.mk ((by rw [hg]; exact (below_size (by repeat (first | (with_reducible first | exact HB.out | apply below_alloc | apply pw_below_drewN | apply below_drew1) | exact HB.out))) : w.heap.size ≤ gb140)); clear HO139; clear HB; have HO139 := n0_; have HB := n1_; have BK140 := n2_; have GW140 := n3_; have GE140 := n4_; clear n0_ n1_ n2_ n3_ n4_; clear hb hbox hg; obtain ⟨Ao22, co22, eo22⟩ := Kd.N_slice HO139.out; subst eo22; have hcz23_0 : w21.cell? ⟨gb140, 0, none⟩ = some (.slice none 0 0) := (blk_cell BK140.out 0).trans rfl; have hfz23_0 := blk_frozen BK140.out 0) | ((with_reducible refine gate_dst (N := 11) rfl ?_); (try (refine gate_guard (by rfl) ?_; dsimp only)); refine Kd.R_make k59 _ 59 rfl (N := 11) rfl 25 _ _ rfl 3 rfl rfl Try.underlying25 (.agg #[(.int .i64 0), (.int .i64 0), (.int .i64 0), (.bool false)]) 32 info59 rfl (by decide) (by omega) z59 (ok := fun _ => True) (okp := fun _ => True) (k59_mkM _ _ _ z59 ) (fun _ hk => hk) trivial (by omega) (by omega) (Below.refl _ _) (Nat.le_refl _) ?_; intro v142 w24 ho25 hb hg_ hnew_; clear hg_ hnew_; (first | rw [← Ny141.out] at ho25 | (simp only [Int.reduceToNat] at ho25; rw [← Ny141.out] at ho25)); have n0_ := Aside0.mk (Kd.N_elder' (by (with_reducible repeat (first | apply Kd.N_alloc | apply Kd.N_drewN | apply Kd.N_drew)); exact (Kd.N_mono (Kd.N_far (p := ⟨gb140, 0, none⟩) (Kd.N_mono HO139.out (fun k_ hk => (⟨hk, hk.2⟩ : _ ∧ k_ ≠ gb140))) (fun _ hk => hk.2) (.slice Ao22 t137.length co22)) (fun _ h_ => h_.1))) (Kd.R_base ho25) hb); have n1_ := Aside0.mk (Kd.R_lower ho25 (below_size (by repeat (first | (with_reducible first | exact HB.out | apply below_alloc | apply pw_below_drewN | apply below_drew1 | refine below_set ?_ GE140.out) | exact HB.out)))); have n2_ := Aside0.mk (blk_below (g := gb140) (o := .cells #[.slice Ao22 t137.length co22] 24 (0, 0)) (by (with_reducible repeat (first | refine blk_drewN ?_ _ | refine blk_drew ?_ | refine blk_alloc ?_ _)); refine blk_put (cs := #[.slice none 0 0]) ?_ 0 _ rfl; (with_reducible repeat (first | refine blk_drewN ?_ _ | refine blk_drew ?_ | refine blk_alloc ?_ _)); exact BK140.out) hb); have n3_ := Aside0.mk (below_step (by repeat (first | (with_reducible first | exact HB.out | apply below_alloc | apply pw_below_drewN | apply below_drew1 | refine below_set ?_ GE140.out) | exact HB.out)) hb); clear HO139; clear BK140; clear HB; have HO139 := n0_; have HO143 := n1_; have BK140 := n2_; have HB := n3_; clear n0_ n1_ n2_ n3_; clear hb ho25) | ((with_reducible refine gate_dst (N := 15) rfl ?_); (try (refine gate_guard (by rfl) ?_; dsimp only)); refine Kd.R_lit k59 _ 59 ?hg (N := 15) ?hd (xs := ([(⟨0, 0, 0, false⟩ : S59), (⟨3, 0, 0, false⟩ : S59), (⟨0, 0, 0, false⟩ : S59)] : List (S59))) (inner := [.int .i64 0, .int .i64 0, .int .i64 0, .bool false, .int .i64 3, .int .i64 0, .int .i64 0, .bool false, .int .i64 0, .int .i64 0, .int .i64 0, .bool false]) (ok := fun _ => True) (okp := fun _ => True) ?hr ?hp (fun _ hk => hk) trivial (Below.refl _ _) (Nat.le_refl _) (by simp) ?_; (case hd => rfl); (case hg => rfl); (case hr => first | (go_simp; done) | (go_simp; rfl)); (case hp => exact (Reps.c4 (show Kd.M k59 _ _ _ (⟨0, 0, 0, false⟩ : S59) [.int .i64 0, .int .i64 0, .int .i64 0, .bool false] from (k59_mkM _ _ _ (⟨0, 0, 0, false⟩ : S59) )) (Reps.c4 (show Kd.M k59 _ _ _ (⟨3, 0, 0, false⟩ : S59) [.int .i64 3, .int .i64 0, .int .i64 0, .bool false] from (k59_mkM _ _ _ (⟨3, 0, 0, false⟩ : S59) )) (Reps.c4 (show Kd.M k59 _ _ _ (⟨0, 0, 0, false⟩ : S59) [.int .i64 0, .int .i64 0, .int .i64 0, .bool false] from (k59_mkM _ _ _ (⟨0, 0, 0, false⟩ : S59) )) (Reps.none _ _))))); intro v145 w26 ho27 hb hg_ hnew_; clear hg_ hnew_; (first | rw [← Ny144.out] at ho27 | (simp only [Int.reduceToNat] at ho27; rw [← Ny144.out] at ho27)); have n0_ := Aside0.mk (Kd.N_elder' (by (with_reducible repeat (first | apply Kd.N_alloc | apply Kd.N_drewN | apply Kd.N_drew)); exact HO139.out) (Kd.R_base ho27) hb); have n1_ := Aside0.mk (Kd.R_elder' (by (with_reducible repeat (first | apply Kd.R_alloc | apply Kd.R_drewN | apply Kd.R_drew)); exact HO143.out) (Kd.R_base ho27) hb); have n2_ := Aside0.mk (Kd.R_lower (Kd.R_new' ho27 (Kd.R_lt (by (with_reducible repeat (first | apply Kd.R_alloc | apply Kd.R_drewN | apply Kd.R_drew)); exact HO143.out))) (below_size (by repeat (first | (with_reducible first | exact HB.out | apply below_alloc | apply pw_below_drewN | apply below_drew1 | refine below_set ?_ GE140.out) | exact HB.out)))); have n3_ := Aside0.mk (blk_below (g := gb140) (o := .cells #[.slice Ao22 t137.length co22] 24 (0, 0)) (by (with_reducible repeat (first | refine blk_drewN ?_ _ | refine blk_drew ?_ | refine blk_alloc ?_ _)); exact BK140.out) hb); have n4_ := Aside0.mk (below_step (by repeat (first | (with_reducible first | exact HB.out | apply below_alloc | apply pw_below_drewN | apply below_drew1 | refine below_set ?_ GE140.out) | exact HB.out)) hb); clear HO139; clear HO143; clear BK140; clear HB; have HO139 := n0_; have HO143 := n1_; have HO146 := n2_; have BK140 := n3_; have HB := n4_; clear n0_ n1_ n2_ n3_ n4_; clear hb ho27) | ((with_reducible refine gate_dst (N := 19) rfl ?_); (try (refine gate_guard (by rfl) ?_; dsimp only)); refine Kd.R_lit k59 _ 59 ?hg (N := 19) ?hd (xs := ([(⟨0, 0, 0, false⟩ : S59), (⟨3, 0, 0, false⟩ : S59), (⟨3, 0, 0, false⟩ : S59)] : List (S59))) (inner := [.int .i64 0, .int .i64 0, .int .i64 0, .bool false, .int .i64 3, .int .i64 0, .int .i64 0, .bool false, .int .i64 3, .int .i64 0, .int .i64 0, .bool false]) (ok := fun _ => True) (okp := fun _ => True) ?hr ?hp (fun _ hk => hk) trivial (Below.refl _ _) (Nat.le_refl _) (by simp) ?_; (case hd => rfl); (case hg => rfl); (case hr => first | (go_simp; done) | (go_simp; rfl)); (case hp => exact (Reps.c4 (show Kd.M k59 _ _ _ (⟨0, 0, 0, false⟩ : S59) [.int .i64 0, .int .i64 0, .int .i64 0, .bool false] from (k59_mkM _ _ _ (⟨0, 0, 0, false⟩ : S59) )) (Reps.c4 (show Kd.M k59 _ _ _ (⟨3, 0, 0, false⟩ : S59) [.int .i64 3, .int .i64 0, .int .i64 0, .bool false] from (k59_mkM _ _ _ (⟨3, 0, 0, false⟩ : S59) )) (Reps.c4 (show Kd.M k59 _ _ _ (⟨3, 0, 0, false⟩ : S59) [.int .i64 3, .int .i64 0, .int .i64 0, .bool false] from (k59_mkM _ _ _ (⟨3, 0, 0, false⟩ : S59) )) (Reps.none _ _))))); intro v148 w28 ho29 hb hg_ hnew_; clear hg_ hnew_; (first | rw [← Ny147.out] at ho29 | (simp only [Int.reduceToNat] at ho29; rw [← Ny147.out] at ho29)); have n0_ := Aside0.mk (Kd.N_elder' (by (with_reducible repeat (first | apply Kd.N_alloc | apply Kd.N_drewN | apply Kd.N_drew)); exact HO139.out) (Kd.R_base ho29) hb); have n1_ := Aside0.mk (Kd.R_elder' (by (with_reducible repeat (first | apply Kd.R_alloc | apply Kd.R_drewN | apply Kd.R_drew)); exact HO143.out) (Kd.R_base ho29) hb); have n2_ := Aside0.mk (Kd.R_elder' (by (with_reducible repeat (first | apply Kd.R_alloc | apply Kd.R_drewN | apply Kd.R_drew)); exact HO146.out) (Kd.R_base ho29) hb); have n3_ := Aside0.mk (Kd.R_lower (Kd.R_new' (Kd.R_new' ho29 (Kd.R_lt (by (with_reducible repeat (first | apply Kd.R_alloc | apply Kd.R_drewN | apply Kd.R_drew)); exact HO143.out))) (Kd.R_lt (by (with_reducible repeat (first | apply Kd.R_alloc | apply Kd.R_drewN | apply Kd.R_drew)); exact HO146.out))) (below_size (by repeat (first | (with_reducible first | exact HB.out | apply below_alloc | apply pw_below_drewN | apply below_drew1 | refine below_set ?_ GE140.out) | exact HB.out)))); have n4_ := Aside0.mk (blk_below (g := gb140) (o := .cells #[.slice Ao22 t137.length co22] 24 (0, 0)) (by (with_reducible repeat (first | refine blk_drewN ?_ _ | refine blk_drew ?_ | refine blk_alloc ?_ _)); exact BK140.out) hb); have n5_ := Aside0.mk (below_step (by repeat (first | (with_reducible first | exact HB.out | apply below_alloc | apply pw_below_drewN | apply below_drew1 | refine below_set ?_ GE140.out) | exact HB.out)) hb); clear HO139; clear HO143; clear HO146; clear BK140; clear HB; have HO139 := n0_; have HO143 := n1_; have HO146 := n2_; have HO149 := n3_; have BK140 := n4_; have HB := n5_; clear n0_ n1_ n2_ n3_ n4_ n5_; clear hb ho29) | ((with_reducible refine gate_dst (N := 23) rfl ?_); (try (refine gate_guard (by rfl) ?_; dsimp only)); refine Kd.R_lit k59 _ 59 ?hg (N := 23) ?hd (xs := ([(⟨0, 0, 0, false⟩ : S59), (⟨3, 0, 0, false⟩ : S59), (⟨2, 0, 0, false⟩ : S59)] : List (S59))) (inner := [.int .i64 0, .int .i64 0, .int .i64 0, .bool false, .int .i64 3, .int .i64 0, .int .i64 0, .bool false, .int .i64 2, .int .i64 0, .int .i64 0, .bool false]) (ok := fun _ => True) (okp := fun _ => True) ?hr ?hp (fun _ hk => hk) trivial (Below.refl _ _) (Nat.le_refl _) (by simp) ?_; (case hd => rfl); (case hg => rfl); (case hr => first | (go_simp; done) | (go_simp; rfl)); (case hp => exact (Reps.c4 (show Kd.M k59 _ _ _ (⟨0, 0, 0, false⟩ : S59) [.int .i64 0, .int .i64 0, .int .i64 0, .bool false] from (k59_mkM _ _ _ (⟨0, 0, 0, false⟩ : S59) )) (Reps.c4 (show Kd.M k59 _ _ _ (⟨3, 0, 0, false⟩ : S59) [.int .i64 3, .int .i64 0, .int .i64 0, .bool false] from (k59_mkM _ _ _ (⟨3, 0, 0, false⟩ : S59) )) (Reps.c4 (show Kd.M k59 _ _ _ (⟨2, 0, 0, false⟩ : S59) [.int .i64 2, .int .i64 0, .int .i64 0, .bool false] from (k59_mkM _ _ _ (⟨2, 0, 0, false⟩ : S59) )) (Reps.none _ _))))); intro v151 w30 ho31 hb hg_ hnew_; clear hg_ hnew_; (first | rw [← Ny150.out] at ho31 | (simp only [Int.reduceToNat] at ho31; rw [← Ny150.out] at ho31)); have n0_ := Aside0.mk (Kd.N_elder' (by (with_reducible repeat (first | apply Kd.N_alloc | apply Kd.N_drewN | apply Kd.N_drew)); exact HO139.out) (Kd.R_base ho31) hb); have n1_ := Aside0.mk (Kd.R_elder' (by (with_reducible repeat (first | apply Kd.R_alloc | apply Kd.R_drewN | apply Kd.R_drew)); exact HO143.out) (Kd.R_base ho31) hb); have n2_ := Aside0.mk (Kd.R_elder' (by (with_reducible repeat (first | apply Kd.R_alloc | apply Kd.R_drewN | apply Kd.R_drew)); exact HO146.out) (Kd.R_base ho31) hb); have n3_ := Aside0.mk (Kd.R_elder' (by (with_reducible repeat (first | apply Kd.R_alloc | apply Kd.R_drewN | apply Kd.R_drew)); exact HO149.out) (Kd.R_base ho31) hb); have n4_ := Aside0.mk (Kd.R_lower (Kd.R_new' (Kd.R_new' (Kd.R_new' ho31 (Kd.R_lt (by (with_reducible repeat (first | apply Kd.R_alloc | apply Kd.R_drewN | apply Kd.R_drew)); exact HO143.out))) (Kd.R_lt (by (with_reducible repeat (first | apply Kd.R_alloc | apply Kd.R_drewN | apply Kd.R_drew)); exact HO146.out))) (Kd.R_lt (by (with_reducible repeat (first | apply Kd.R_alloc | apply Kd.R_drewN | apply Kd.R_drew)); exact HO149.out))) (below_size (by repeat (first | (with_reducible first | exact HB.out | apply below_alloc | apply pw_below_drewN | apply below_drew1 | refine below_set ?_ GE140.out) | exact HB.out)))); have n5_ := Aside0.mk (blk_below (g := gb140) (o := .cells #[.slice Ao22 t137.length co22] 24 (0, 0)) (by (with_reducible repeat (first | refine blk_drewN ?_ _ | refine blk_drew ?_ | refine blk_alloc ?_ _)); exact BK140.out) hb); have n6_ := Aside0.mk (below_step (by repeat (first | (with_reducible first | exact HB.out | apply below_alloc | apply pw_below_drewN | apply below_drew1 | refine below_set ?_ GE140.out) | exact HB.out)) hb); clear HO139; clear HO143; clear HO146; clear HO149; clear BK140; clear HB; have HO139 := n0_; have HO143 := n1_; have HO146 := n2_; have HO149 := n3_; have HO152 := n4_; have BK140 := n5_; have HB := n6_; clear n0_ n1_ n2_ n3_ n4_ n5_ n6_; clear hb ho31; have hcz32_0 : w30.cell? ⟨gb140, 0, none⟩ = some (.slice Ao22 t137.length co22) := (blk_cell BK140.out 0).trans rfl; have hfz32_0 := blk_frozen BK140.out 0; obtain ⟨Ao33, co33, eo33⟩ := Kd.R_slice HO143.out; subst eo33) | ((with_reducible refine gate_callee (f := 9) rfl ?_); refine goesL_ (some 27) rfl rfl Try.func9 (by kernel_rfl) rfl #[.agg #[.slice Ao22 t137.length co22], .slice Ao33 y141.length co33] rfl (by (try simp only [List.map_toArray, List.map_cons, List.map_nil]); first | done | rfl | (simp only [List.length_drop, List.length_take]; rfl)) ?_; (with_reducible refine (state_All.calls _ _ t137 _ _ y141 t153 t156 _ ?side1 ?side2 ?side3 ?side4 A3.out).mono ?_); (case side1 => repeat (first | exact (Kd.N_reads' HO139.out).2.2 | (with_reducible refine Kd.C_alloc ?_ _) | (with_reducible refine Kd.C_drewN ?_ _) | (with_reducible refine Kd.C_drew ?_))); (case side2 => exact (Kd.N_reads' HO139.out).2.1); (case side3 => repeat (first | exact (Kd.R_reads' HO143.out).2.2 | (with_reducible refine Kd.C_alloc ?_ _) | (with_reducible refine Kd.C_drewN ?_ _) | (with_reducible refine Kd.C_drew ?_))); (case side4 => exact (Kd.R_reads' HO143.out).2.1); rintro e w34 ⟨v154, rfl, ho0, hb⟩; refine ⟨_, rfl, ?_⟩; have n0_ := Aside0.mk (Kd.N_elder' (by (with_reducible repeat (first | apply Kd.N_alloc | apply Kd.N_drewN | apply Kd.N_drew)); exact HO139.out) (Kd.R_base ho0) hb); have n1_ := Aside0.mk (Kd.R_below (by (with_reducible repeat (first | apply Kd.R_alloc | apply Kd.R_drewN | apply Kd.R_drew)); exact HO143.out) hb); have n2_ := Aside0.mk (Kd.R_below (by (with_reducible repeat (first | apply Kd.R_alloc | apply Kd.R_drewN | apply Kd.R_drew)); exact HO146.out) hb); have n3_ := Aside0.mk (Kd.R_below (by (with_reducible repeat (first | apply Kd.R_alloc | apply Kd.R_drewN | apply Kd.R_drew)); exact HO149.out) hb); have n4_ := Aside0.mk (Kd.R_below (by (with_reducible repeat (first | apply Kd.R_alloc | apply Kd.R_drewN | apply Kd.R_drew)); exact HO152.out) hb); have n5_ := Aside0.mk (Kd.R_lower ho0 (below_size (by repeat (first | (with_reducible first | exact HB.out | apply below_alloc | apply pw_below_drewN | apply below_drew1 | refine below_set ?_ GE140.out) | exact HB.out)))); have n6_ := Aside0.mk (blk_below (g := gb140) (o := .cells #[.slice Ao22 t137.length co22] 24 (0, 0)) (by (with_reducible repeat (first | refine blk_drewN ?_ _ | refine blk_drew ?_ | refine blk_alloc ?_ _)); exact BK140.out) hb); have n7_ := Aside0.mk (below_step (by repeat (first | (with_reducible first | exact HB.out | apply below_alloc | apply pw_below_drewN | apply below_drew1 | refine below_set ?_ GE140.out) | exact HB.out)) hb); clear HO139; clear HO143; clear HO146; clear HO149; clear HO152; clear BK140; clear HB; have HO139 := n0_; have HO143 := n1_; have HO146 := n2_; have HO149 := n3_; have HO152 := n4_; have HO155 := n5_; have BK140 := n6_; have HB := n7_; clear n0_ n1_ n2_ n3_ n4_ n5_ n6_ n7_; (try clear hb); (try clear hb2); (try clear hk); (try clear hi); (try clear ho0); have hcz35_0 : w34.cell? ⟨gb140, 0, none⟩ = some (.slice Ao22 t137.length co22) := (blk_cell BK140.out 0).trans rfl; have hfz35_0 := blk_frozen BK140.out 0; obtain ⟨Ao36, co36, eo36⟩ := Kd.R_slice HO146.out; subst eo36) | ((with_reducible refine gate_callee (f := 9) rfl ?_); refine goesL_ (some 33) rfl rfl Try.func9 (by kernel_rfl) rfl #[.agg #[.slice Ao22 t137.length co22], .slice Ao36 y144.length co36] rfl (by (try simp only [List.map_toArray, List.map_cons, List.map_nil]); first | done | rfl | (simp only [List.length_drop, List.length_take]; rfl)) ?_; (with_reducible refine (state_All.calls _ _ t137 _ _ y144 t157 t160 _ ?side1 ?side2 ?side3 ?side4 A4.out).mono ?_); (case side1 => repeat (first | exact (Kd.N_reads' HO139.out).2.2 | (with_reducible refine Kd.C_alloc ?_ _) | (with_reducible refine Kd.C_drewN ?_ _) | (with_reducible refine Kd.C_drew ?_))); (case side2 => exact (Kd.N_reads' HO139.out).2.1); (case side3 => repeat (first | exact (Kd.R_reads' HO146.out).2.2 | (with_reducible refine Kd.C_alloc ?_ _) | (with_reducible refine Kd.C_drewN ?_ _) | (with_reducible refine Kd.C_drew ?_))); (case side4 => exact (Kd.R_reads' HO146.out).2.1); rintro e w37 ⟨v158, rfl, ho0, hb⟩; refine ⟨_, rfl, ?_⟩; have n0_ := Aside0.mk (Kd.N_elder' (by (with_reducible repeat (first | apply Kd.N_alloc | apply Kd.N_drewN | apply Kd.N_drew)); exact HO139.out) (Kd.R_base ho0) hb); have n1_ := Aside0.mk (Kd.R_below (by (with_reducible repeat (first | apply Kd.R_alloc | apply Kd.R_drewN | apply Kd.R_drew)); exact HO143.out) hb); have n2_ := Aside0.mk (Kd.R_below (by (with_reducible repeat (first | apply Kd.R_alloc | apply Kd.R_drewN | apply Kd.R_drew)); exact HO146.out) hb); have n3_ := Aside0.mk (Kd.R_below (by (with_reducible repeat (first | apply Kd.R_alloc | apply Kd.R_drewN | apply Kd.R_drew)); exact HO149.out) hb); have n4_ := Aside0.mk (Kd.R_below (by (with_reducible repeat (first | apply Kd.R_alloc | apply Kd.R_drewN | apply Kd.R_drew)); exact HO152.out) hb); have n5_ := Aside0.mk (Kd.R_elder' (by (with_reducible repeat (first | apply Kd.R_alloc | apply Kd.R_drewN | apply Kd.R_drew)); exact HO155.out) (Kd.R_base ho0) hb); have n6_ := Aside0.mk (Kd.R_lower (Kd.R_new' ho0 (Kd.R_lt (by (with_reducible repeat (first | apply Kd.R_alloc | apply Kd.R_drewN | apply Kd.R_drew)); exact HO155.out))) (below_size (by repeat (first | (with_reducible first | exact HB.out | apply below_alloc | apply pw_below_drewN | apply below_drew1 | refine below_set ?_ GE140.out) | exact HB.out)))); have n7_ := Aside0.mk (blk_below (g := gb140) (o := .cells #[.slice Ao22 t137.length co22] 24 (0, 0)) (by (with_reducible repeat (first | refine blk_drewN ?_ _ | refine blk_drew ?_ | refine blk_alloc ?_ _)); exact BK140.out) hb); have n8_ := Aside0.mk (below_step (by repeat (first | (with_reducible first | exact HB.out | apply below_alloc | apply pw_below_drewN | apply below_drew1 | refine below_set ?_ GE140.out) | exact HB.out)) hb); clear HO139; clear HO143; clear HO146; clear HO149; clear HO152; clear HO155; clear BK140; clear HB; have HO139 := n0_; have HO143 := n1_; have HO146 := n2_; have HO149 := n3_; have HO152 := n4_; have HO155 := n5_; have HO159 := n6_; have BK140 := n7_; have HB := n8_; clear n0_ n1_ n2_ n3_ n4_ n5_ n6_ n7_ n8_; (try clear hb); (try clear hb2); (try clear hk); (try clear hi); (try clear ho0)) | ((with_reducible refine gate_dst (N := 37) rfl ?_); (try (refine gate_guard (by rfl) ?_; dsimp only)); refine Kd.R_lit (Kd.int .i64) _ 32 ?hg (N := 37) ?hd (xs := ([0, 0, 0] : List Int)) (inner := [.int .i64 0, .int .i64 0, .int .i64 0]) (ok := fun _ => True) (okp := fun _ => True) ?hr ?hp (fun _ hk => hk) trivial (Below.refl _ _) (Nat.le_refl _) (by simp) ?_; (case hd => rfl); (case hg => rfl); (case hr => first | (go_simp; done) | (go_simp; rfl)); (case hp => exact (Reps.one (show Kd.M (Kd.int .i64) _ _ _ 0 [.int .i64 0] from rfl) (Reps.one (show Kd.M (Kd.int .i64) _ _ _ 0 [.int .i64 0] from rfl) (Reps.one (show Kd.M (Kd.int .i64) _ _ _ 0 [.int .i64 0] from rfl) (Reps.none _ _))))); intro v162 w38 ho39 hb hg_ hnew_; clear hg_ hnew_; (first | rw [← Ny161.out] at ho39 | (simp only [Int.reduceToNat] at ho39; rw [← Ny161.out] at ho39)); have n0_ := Aside0.mk (Kd.N_elder' (by (with_reducible repeat (first | apply Kd.N_alloc | apply Kd.N_drewN | apply Kd.N_drew)); exact HO139.out) (Kd.R_base ho39) hb); have n1_ := Aside0.mk (Kd.R_below (by (with_reducible repeat (first | apply Kd.R_alloc | apply Kd.R_drewN | apply Kd.R_drew)); exact HO143.out) hb); have n2_ := Aside0.mk (Kd.R_below (by (with_reducible repeat (first | apply Kd.R_alloc | apply Kd.R_drewN | apply Kd.R_drew)); exact HO146.out) hb); have n3_ := Aside0.mk (Kd.R_below (by (with_reducible repeat (first | apply Kd.R_alloc | apply Kd.R_drewN | apply Kd.R_drew)); exact HO149.out) hb); have n4_ := Aside0.mk (Kd.R_below (by (with_reducible repeat (first | apply Kd.R_alloc | apply Kd.R_drewN | apply Kd.R_drew)); exact HO152.out) hb); have n5_ := Aside0.mk (Kd.R_elder' (by (with_reducible repeat (first | apply Kd.R_alloc | apply Kd.R_drewN | apply Kd.R_drew)); exact HO155.out) (Kd.R_base ho39) hb); have n6_ := Aside0.mk (Kd.R_elder' (by (with_reducible repeat (first | apply Kd.R_alloc | apply Kd.R_drewN | apply Kd.R_drew)); exact HO159.out) (Kd.R_base ho39) hb); have n7_ := Aside0.mk (Kd.R_lower (Kd.R_new' (Kd.R_new' ho39 (Kd.R_lt (by (with_reducible repeat (first | apply Kd.R_alloc | apply Kd.R_drewN | apply Kd.R_drew)); exact HO155.out))) (Kd.R_lt (by (with_reducible repeat (first | apply Kd.R_alloc | apply Kd.R_drewN | apply Kd.R_drew)); exact HO159.out))) (below_size (by repeat (first | (with_reducible first | exact HB.out | apply below_alloc | apply pw_below_drewN | apply below_drew1 | refine below_set ?_ GE140.out) | exact HB.out)))); have n8_ := Aside0.mk (blk_below (g := gb140) (o := .cells #[.slice Ao22 t137.length co22] 24 (0, 0)) (by (with_reducible repeat (first | refine blk_drewN ?_ _ | refine blk_drew ?_ | refine blk_alloc ?_ _)); exact BK140.out) hb); have n9_ := Aside0.mk (below_step (by repeat (first | (with_reducible first | exact HB.out | apply below_alloc | apply pw_below_drewN | apply below_drew1 | refine below_set ?_ GE140.out) | exact HB.out)) hb); clear HO139; clear HO143; clear HO146; clear HO149; clear HO152; clear HO155; clear HO159; clear BK140; clear HB; have HO139 := n0_; have HO143 := n1_; have HO146 := n2_; have HO149 := n3_; have HO152 := n4_; have HO155 := n5_; have HO159 := n6_; have HO163 := n7_; have BK140 := n8_; have HB := n9_; clear n0_ n1_ n2_ n3_ n4_ n5_ n6_ n7_ n8_ n9_; clear hb ho39; obtain ⟨Ao40, co40, eo40⟩ := Kd.R_slice HO155.out; subst eo40; obtain ⟨Ao41, co41, eo41⟩ := Kd.R_slice HO163.out; subst eo41) | ((with_reducible refine gate_callee (f := 19) rfl ?_); refine goesL_ (some 38) rfl rfl Try.func19 (by kernel_rfl) rfl #[.slice Ao40 t153.length co40, .slice Ao41 y161.length co41] rfl (by (try simp only [List.map_toArray, List.map_cons, List.map_nil]); first | done | rfl | (simp only [List.length_drop, List.length_take]; rfl)) ?_; (with_reducible refine (argosylaw14_is.calls k _ _ t153 _ _ y161 true _ ?side1 ?side2 ?side3 ?side4 A5.out).mono ?_); (case side1 => repeat (first | exact (Kd.R_reads' HO155.out).2.2 | (with_reducible refine Kd.C_alloc ?_ _) | (with_reducible refine Kd.C_drewN ?_ _) | (with_reducible refine Kd.C_drew ?_))); (case side2 => exact (Kd.R_reads' HO155.out).2.1); (case side3 => repeat (first | exact (Kd.R_reads' HO163.out).2.2 | (with_reducible refine Kd.C_alloc ?_ _) | (with_reducible refine Kd.C_drewN ?_ _) | (with_reducible refine Kd.C_drew ?_))); (case side4 => exact (Kd.R_reads' HO163.out).2.1); rintro e w' ⟨rfl, ⟨nd, rfl⟩⟩; refine ⟨_, rfl, ?_⟩) | ((with_reducible refine gate_dst (N := 45) rfl ?_); (try (refine gate_guard (by rfl) ?_; dsimp only)); refine Kd.R_lit (Kd.int .i64) _ 32 ?hg (N := 45) ?hd (xs := ([1, 3, 0] : List Int)) (inner := [.int .i64 1, .int .i64 3, .int .i64 0]) (ok := fun _ => True) (okp := fun _ => True) ?hr ?hp (fun _ hk => hk) trivial (Below.refl _ _) (Nat.le_refl _) (by simp) ?_; (case hd => rfl); (case hg => rfl); (case hr => first | (go_simp; done) | (go_simp; rfl)); (case hp => exact (Reps.one (show Kd.M (Kd.int .i64) _ _ _ 1 [.int .i64 1] from rfl) (Reps.one (show Kd.M (Kd.int .i64) _ _ _ 3 [.int .i64 3] from rfl) (Reps.one (show Kd.M (Kd.int .i64) _ _ _ 0 [.int .i64 0] from rfl) (Reps.none _ _))))); intro v166 w42 ho43 hb hg_ hnew_; clear hg_ hnew_; (first | rw [← Ny165.out] at ho43 | (simp only [Int.reduceToNat] at ho43; rw [← Ny165.out] at ho43)); have n0_ := Aside0.mk (Kd.N_elder' (by (with_reducible repeat (first | apply Kd.N_alloc | apply Kd.N_drewN | apply Kd.N_drew)); exact HO139.out) (Kd.R_base ho43) hb); have n1_ := Aside0.mk (Kd.R_below (by (with_reducible repeat (first | apply Kd.R_alloc | apply Kd.R_drewN | apply Kd.R_drew)); exact HO143.out) hb); have n2_ := Aside0.mk (Kd.R_below (by (with_reducible repeat (first | apply Kd.R_alloc | apply Kd.R_drewN | apply Kd.R_drew)); exact HO146.out) hb); have n3_ := Aside0.mk (Kd.R_below (by (with_reducible repeat (first | apply Kd.R_alloc | apply Kd.R_drewN | apply Kd.R_drew)); exact HO149.out) hb); have n4_ := Aside0.mk (Kd.R_below (by (with_reducible repeat (first | apply Kd.R_alloc | apply Kd.R_drewN | apply Kd.R_drew)); exact HO152.out) hb); have n5_ := Aside0.mk (Kd.R_elder' (by (with_reducible repeat (first | apply Kd.R_alloc | apply Kd.R_drewN | apply Kd.R_drew)); exact HO155.out) (Kd.R_base ho43) hb); have n6_ := Aside0.mk (Kd.R_elder' (by (with_reducible repeat (first | apply Kd.R_alloc | apply Kd.R_drewN | apply Kd.R_drew)); exact HO159.out) (Kd.R_base ho43) hb); have n7_ := Aside0.mk (Kd.R_elder' (by (with_reducible repeat (first | apply Kd.R_alloc | apply Kd.R_drewN | apply Kd.R_drew)); exact HO163.out) (Kd.R_base ho43) hb); have n8_ := Aside0.mk (Kd.R_lower (Kd.R_new' (Kd.R_new' (Kd.R_new' ho43 (Kd.R_lt (by (with_reducible repeat (first | apply Kd.R_alloc | apply Kd.R_drewN | apply Kd.R_drew)); exact HO155.out))) (Kd.R_lt (by (with_reducible repeat (first | apply Kd.R_alloc | apply Kd.R_drewN | apply Kd.R_drew)); exact HO159.out))) (Kd.R_lt (by (with_reducible repeat (first | apply Kd.R_alloc | apply Kd.R_drewN | apply Kd.R_drew)); exact HO163.out))) (below_size (by repeat (first | (with_reducible first | exact HB.out | apply below_alloc | apply pw_below_drewN | apply below_drew1 | refine below_set ?_ GE140.out) | exact HB.out)))); have n9_ := Aside0.mk (blk_below (g := gb140) (o := .cells #[.slice Ao22 t137.length co22] 24 (0, 0)) (by (with_reducible repeat (first | refine blk_drewN ?_ _ | refine blk_drew ?_ | refine blk_alloc ?_ _)); exact BK140.out) hb); have n10_ := Aside0.mk (below_step (by repeat (first | (with_reducible first | exact HB.out | apply below_alloc | apply pw_below_drewN | apply below_drew1 | refine below_set ?_ GE140.out) | exact HB.out)) hb); clear HO139; clear HO143; clear HO146; clear HO149; clear HO152; clear HO155; clear HO159; clear HO163; clear BK140; clear HB; have HO139 := n0_; have HO143 := n1_; have HO146 := n2_; have HO149 := n3_; have HO152 := n4_; have HO155 := n5_; have HO159 := n6_; have HO163 := n7_; have HO167 := n8_; have BK140 := n9_; have HB := n10_; clear n0_ n1_ n2_ n3_ n4_ n5_ n6_ n7_ n8_ n9_ n10_; clear hb ho43; obtain ⟨Ao44, co44, eo44⟩ := Kd.R_slice HO159.out; subst eo44; obtain ⟨Ao45, co45, eo45⟩ := Kd.R_slice HO167.out; subst eo45) | (go_at_call 19; (with_reducible refine (argosylaw14_is.calls k _ _ t157 _ _ y165 true _ ?side1 ?side2 ?side3 ?side4 A8.out).mono ?_); (case side1 => repeat (first | exact (Kd.R_reads' HO159.out).2.2 | (with_reducible refine Kd.C_alloc ?_ _) | (with_reducible refine Kd.C_drewN ?_ _) | (with_reducible refine Kd.C_drew ?_))); (case side2 => exact (Kd.R_reads' HO159.out).2.1); (case side3 => repeat (first | exact (Kd.R_reads' HO167.out).2.2 | (with_reducible refine Kd.C_alloc ?_ _) | (with_reducible refine Kd.C_drewN ?_ _) | (with_reducible refine Kd.C_drew ?_))); (case side4 => exact (Kd.R_reads' HO167.out).2.1); rintro e w' ⟨rfl, ⟨nd, rfl⟩⟩; have hcz46_0 : w42.cell? ⟨gb140, 0, none⟩ = some (.slice Ao22 t137.length co22) := (blk_cell BK140.out 0).trans rfl; have hfz46_0 := blk_frozen BK140.out 0) | (go_at_call 12; (with_reducible refine (state_At.calls _ _ t137 _ _ y144 0 t169 _ ?side1 ?side2 ?side3 ?side4 A11.out).mono ?_); (case side1 => repeat (first | exact (Kd.N_reads' HO139.out).2.2 | (with_reducible refine Kd.C_alloc ?_ _) | (with_reducible refine Kd.C_drewN ?_ _) | (with_reducible refine Kd.C_drew ?_))); (case side2 => exact (Kd.N_reads' HO139.out).2.1); (case side3 => repeat (first | exact (Kd.R_reads' HO146.out).2.2 | (with_reducible refine Kd.C_alloc ?_ _) | (with_reducible refine Kd.C_drewN ?_ _) | (with_reducible refine Kd.C_drew ?_))); (case side4 => exact (Kd.R_reads' HO146.out).2.1); rintro e w47 ⟨rfl, hb⟩; have n0_ := Aside0.mk (Kd.N_below (by (with_reducible repeat (first | apply Kd.N_alloc | apply Kd.N_drewN | apply Kd.N_drew)); exact HO139.out) hb); have n1_ := Aside0.mk (Kd.R_below (by (with_reducible repeat (first | apply Kd.R_alloc | apply Kd.R_drewN | apply Kd.R_drew)); exact HO143.out) hb); have n2_ := Aside0.mk (Kd.R_below (by (with_reducible repeat (first | apply Kd.R_alloc | apply Kd.R_drewN | apply Kd.R_drew)); exact HO146.out) hb); have n3_ := Aside0.mk (Kd.R_below (by (with_reducible repeat (first | apply Kd.R_alloc | apply Kd.R_drewN | apply Kd.R_drew)); exact HO149.out) hb); have n4_ := Aside0.mk (Kd.R_below (by (with_reducible repeat (first | apply Kd.R_alloc | apply Kd.R_drewN | apply Kd.R_drew)); exact HO152.out) hb); have n5_ := Aside0.mk (Kd.R_below (by (with_reducible repeat (first | apply Kd.R_alloc | apply Kd.R_drewN | apply Kd.R_drew)); exact HO155.out) hb); have n6_ := Aside0.mk (Kd.R_below (by (with_reducible repeat (first | apply Kd.R_alloc | apply Kd.R_drewN | apply Kd.R_drew)); exact HO159.out) hb); have n7_ := Aside0.mk (Kd.R_below (by (with_reducible repeat (first | apply Kd.R_alloc | apply Kd.R_drewN | apply Kd.R_drew)); exact HO163.out) hb); have n8_ := Aside0.mk (Kd.R_below (by (with_reducible repeat (first | apply Kd.R_alloc | apply Kd.R_drewN | apply Kd.R_drew)); exact HO167.out) hb); have n9_ := Aside0.mk (blk_below (g := gb140) (o := .cells #[.slice Ao22 t137.length co22] 24 (0, 0)) (by (with_reducible repeat (first | refine blk_drewN ?_ _ | refine blk_drew ?_ | refine blk_alloc ?_ _)); exact BK140.out) hb); have n10_ := Aside0.mk (below_step (by repeat (first | (with_reducible first | exact HB.out | apply below_alloc | apply pw_below_drewN | apply below_drew1 | refine below_set ?_ GE140.out) | exact HB.out)) hb); clear HO139; clear HO143; clear HO146; clear HO149; clear HO152; clear HO155; clear HO159; clear HO163; clear HO167; clear BK140; clear HB; have HO139 := n0_; have HO143 := n1_; have HO146 := n2_; have HO149 := n3_; have HO152 := n4_; have HO155 := n5_; have HO159 := n6_; have HO163 := n7_; have HO167 := n8_; have BK140 := n9_; have HB := n10_; clear n0_ n1_ n2_ n3_ n4_ n5_ n6_ n7_ n8_ n9_ n10_; (try clear hb); (try clear hb2); (try clear hk); (try clear hi); have hcz48_0 : w47.cell? ⟨gb140, 0, none⟩ = some (.slice Ao22 t137.length co22) := (blk_cell BK140.out 0).trans rfl; have hfz48_0 := blk_frozen BK140.out 0; obtain ⟨Ao49, co49, eo49⟩ := Kd.R_slice HO149.out; subst eo49) | (go_at_call 10; (with_reducible refine (state_Verdict.calls _ _ t137 _ _ y147 t170 _ ?side1 ?side2 ?side3 ?side4 A13.out).mono ?_); (case side1 => repeat (first | exact (Kd.N_reads' HO139.out).2.2 | (with_reducible refine Kd.C_alloc ?_ _) | (with_reducible refine Kd.C_drewN ?_ _) | (with_reducible refine Kd.C_drew ?_))); (case side2 => exact (Kd.N_reads' HO139.out).2.1); (case side3 => repeat (first | exact (Kd.R_reads' HO149.out).2.2 | (with_reducible refine Kd.C_alloc ?_ _) | (with_reducible refine Kd.C_drewN ?_ _) | (with_reducible refine Kd.C_drew ?_))); (case side4 => exact (Kd.R_reads' HO149.out).2.1); rintro e w50 ⟨rfl, hb⟩; have n0_ := Aside0.mk (Kd.N_below (by (with_reducible repeat (first | apply Kd.N_alloc | apply Kd.N_drewN | apply Kd.N_drew)); exact HO139.out) hb); have n1_ := Aside0.mk (Kd.R_below (by (with_reducible repeat (first | apply Kd.R_alloc | apply Kd.R_drewN | apply Kd.R_drew)); exact HO143.out) hb); have n2_ := Aside0.mk (Kd.R_below (by (with_reducible repeat (first | apply Kd.R_alloc | apply Kd.R_drewN | apply Kd.R_drew)); exact HO146.out) hb); have n3_ := Aside0.mk (Kd.R_below (by (with_reducible repeat (first | apply Kd.R_alloc | apply Kd.R_drewN | apply Kd.R_drew)); exact HO149.out) hb); have n4_ := Aside0.mk (Kd.R_below (by (with_reducible repeat (first | apply Kd.R_alloc | apply Kd.R_drewN | apply Kd.R_drew)); exact HO152.out) hb); have n5_ := Aside0.mk (Kd.R_below (by (with_reducible repeat (first | apply Kd.R_alloc | apply Kd.R_drewN | apply Kd.R_drew)); exact HO155.out) hb); have n6_ := Aside0.mk (Kd.R_below (by (with_reducible repeat (first | apply Kd.R_alloc | apply Kd.R_drewN | apply Kd.R_drew)); exact HO159.out) hb); have n7_ := Aside0.mk (Kd.R_below (by (with_reducible repeat (first | apply Kd.R_alloc | apply Kd.R_drewN | apply Kd.R_drew)); exact HO163.out) hb); have n8_ := Aside0.mk (Kd.R_below (by (with_reducible repeat (first | apply Kd.R_alloc | apply Kd.R_drewN | apply Kd.R_drew)); exact HO167.out) hb); have n9_ := Aside0.mk (blk_below (g := gb140) (o := .cells #[.slice Ao22 t137.length co22] 24 (0, 0)) (by (with_reducible repeat (first | refine blk_drewN ?_ _ | refine blk_drew ?_ | refine blk_alloc ?_ _)); exact BK140.out) hb); have n10_ := Aside0.mk (below_step (by repeat (first | (with_reducible first | exact HB.out | apply below_alloc | apply pw_below_drewN | apply below_drew1 | refine below_set ?_ GE140.out) | exact HB.out)) hb); clear HO139; clear HO143; clear HO146; clear HO149; clear HO152; clear HO155; clear HO159; clear HO163; clear HO167; clear BK140; clear HB; have HO139 := n0_; have HO143 := n1_; have HO146 := n2_; have HO149 := n3_; have HO152 := n4_; have HO155 := n5_; have HO159 := n6_; have HO163 := n7_; have HO167 := n8_; have BK140 := n9_; have HB := n10_; clear n0_ n1_ n2_ n3_ n4_ n5_ n6_ n7_ n8_ n9_ n10_; (try clear hb); (try clear hb2); (try clear hk); (try clear hi); have hcz51_0 : w50.cell? ⟨gb140, 0, none⟩ = some (.slice Ao22 t137.length co22) := (blk_cell BK140.out 0).trans rfl; have hfz51_0 := blk_frozen BK140.out 0; obtain ⟨Ao52, co52, eo52⟩ := Kd.R_slice HO152.out; subst eo52) | (go_at_call 10; (with_reducible refine (state_Verdict.calls _ _ t137 _ _ y150 t171 _ ?side1 ?side2 ?side3 ?side4 A15.out).mono ?_); (case side1 => repeat (first | exact (Kd.N_reads' HO139.out).2.2 | (with_reducible refine Kd.C_alloc ?_ _) | (with_reducible refine Kd.C_drewN ?_ _) | (with_reducible refine Kd.C_drew ?_))); (case side2 => exact (Kd.N_reads' HO139.out).2.1); (case side3 => repeat (first | exact (Kd.R_reads' HO152.out).2.2 | (with_reducible refine Kd.C_alloc ?_ _) | (with_reducible refine Kd.C_drewN ?_ _) | (with_reducible refine Kd.C_drew ?_))); (case side4 => exact (Kd.R_reads' HO152.out).2.1); rintro e w53 ⟨rfl, hb⟩; have n0_ := Aside0.mk (Kd.N_below (by (with_reducible repeat (first | apply Kd.N_alloc | apply Kd.N_drewN | apply Kd.N_drew)); exact HO139.out) hb); have n1_ := Aside0.mk (Kd.R_below (by (with_reducible repeat (first | apply Kd.R_alloc | apply Kd.R_drewN | apply Kd.R_drew)); exact HO143.out) hb); have n2_ := Aside0.mk (Kd.R_below (by (with_reducible repeat (first | apply Kd.R_alloc | apply Kd.R_drewN | apply Kd.R_drew)); exact HO146.out) hb); have n3_ := Aside0.mk (Kd.R_below (by (with_reducible repeat (first | apply Kd.R_alloc | apply Kd.R_drewN | apply Kd.R_drew)); exact HO149.out) hb); have n4_ := Aside0.mk (Kd.R_below (by (with_reducible repeat (first | apply Kd.R_alloc | apply Kd.R_drewN | apply Kd.R_drew)); exact HO152.out) hb); have n5_ := Aside0.mk (Kd.R_below (by (with_reducible repeat (first | apply Kd.R_alloc | apply Kd.R_drewN | apply Kd.R_drew)); exact HO155.out) hb); have n6_ := Aside0.mk (Kd.R_below (by (with_reducible repeat (first | apply Kd.R_alloc | apply Kd.R_drewN | apply Kd.R_drew)); exact HO159.out) hb); have n7_ := Aside0.mk (Kd.R_below (by (with_reducible repeat (first | apply Kd.R_alloc | apply Kd.R_drewN | apply Kd.R_drew)); exact HO163.out) hb); have n8_ := Aside0.mk (Kd.R_below (by (with_reducible repeat (first | apply Kd.R_alloc | apply Kd.R_drewN | apply Kd.R_drew)); exact HO167.out) hb); have n9_ := Aside0.mk (blk_below (g := gb140) (o := .cells #[.slice Ao22 t137.length co22] 24 (0, 0)) (by (with_reducible repeat (first | refine blk_drewN ?_ _ | refine blk_drew ?_ | refine blk_alloc ?_ _)); exact BK140.out) hb); have n10_ := Aside0.mk (below_step (by repeat (first | (with_reducible first | exact HB.out | apply below_alloc | apply pw_below_drewN | apply below_drew1 | refine below_set ?_ GE140.out) | exact HB.out)) hb); clear HO139; clear HO143; clear HO146; clear HO149; clear HO152; clear HO155; clear HO159; clear HO163; clear HO167; clear BK140; clear HB; have HO139 := n0_; have HO143 := n1_; have HO146 := n2_; have HO149 := n3_; have HO152 := n4_; have HO155 := n5_; have HO159 := n6_; have HO163 := n7_; have HO167 := n8_; have BK140 := n9_; have HB := n10_; clear n0_ n1_ n2_ n3_ n4_ n5_ n6_ n7_ n8_ n9_ n10_; (try clear hb); (try clear hb2); (try clear hk); (try clear hi); have hcz54_0 : w53.cell? ⟨gb140, 0, none⟩ = some (.slice Ao22 t137.length co22) := (blk_cell BK140.out 0).trans rfl; have hfz54_0 := blk_frozen BK140.out 0) | (go_at_call 10; (with_reducible refine (state_Verdict.calls _ _ t137 _ _ y141 t172 _ ?side1 ?side2 ?side3 ?side4 A17.out).mono ?_); (case side1 => repeat (first | exact (Kd.N_reads' HO139.out).2.2 | (with_reducible refine Kd.C_alloc ?_ _) | (with_reducible refine Kd.C_drewN ?_ _) | (with_reducible refine Kd.C_drew ?_))); (case side2 => exact (Kd.N_reads' HO139.out).2.1); (case side3 => repeat (first | exact (Kd.R_reads' HO143.out).2.2 | (with_reducible refine Kd.C_alloc ?_ _) | (with_reducible refine Kd.C_drewN ?_ _) | (with_reducible refine Kd.C_drew ?_))); (case side4 => exact (Kd.R_reads' HO143.out).2.1); rintro e w55 ⟨rfl, hb⟩; have n0_ := Aside0.mk (Kd.N_below (by (with_reducible repeat (first | apply Kd.N_alloc | apply Kd.N_drewN | apply Kd.N_drew)); exact HO139.out) hb); have n1_ := Aside0.mk (Kd.R_below (by (with_reducible repeat (first | apply Kd.R_alloc | apply Kd.R_drewN | apply Kd.R_drew)); exact HO143.out) hb); have n2_ := Aside0.mk (Kd.R_below (by (with_reducible repeat (first | apply Kd.R_alloc | apply Kd.R_drewN | apply Kd.R_drew)); exact HO146.out) hb); have n3_ := Aside0.mk (Kd.R_below (by (with_reducible repeat (first | apply Kd.R_alloc | apply Kd.R_drewN | apply Kd.R_drew)); exact HO149.out) hb); have n4_ := Aside0.mk (Kd.R_below (by (with_reducible repeat (first | apply Kd.R_alloc | apply Kd.R_drewN | apply Kd.R_drew)); exact HO152.out) hb); have n5_ := Aside0.mk (Kd.R_below (by (with_reducible repeat (first | apply Kd.R_alloc | apply Kd.R_drewN | apply Kd.R_drew)); exact HO155.out) hb); have n6_ := Aside0.mk (Kd.R_below (by (with_reducible repeat (first | apply Kd.R_alloc | apply Kd.R_drewN | apply Kd.R_drew)); exact HO159.out) hb); have n7_ := Aside0.mk (Kd.R_below (by (with_reducible repeat (first | apply Kd.R_alloc | apply Kd.R_drewN | apply Kd.R_drew)); exact HO163.out) hb); have n8_ := Aside0.mk (Kd.R_below (by (with_reducible repeat (first | apply Kd.R_alloc | apply Kd.R_drewN | apply Kd.R_drew)); exact HO167.out) hb); have n9_ := Aside0.mk (blk_below (g := gb140) (o := .cells #[.slice Ao22 t137.length co22] 24 (0, 0)) (by (with_reducible repeat (first | refine blk_drewN ?_ _ | refine blk_drew ?_ | refine blk_alloc ?_ _)); exact BK140.out) hb); have n10_ := Aside0.mk (below_step (by repeat (first | (with_reducible first | exact HB.out | apply below_alloc | apply pw_below_drewN | apply below_drew1 | refine below_set ?_ GE140.out) | exact HB.out)) hb); clear HO139; clear HO143; clear HO146; clear HO149; clear HO152; clear HO155; clear HO159; clear HO163; clear HO167; clear BK140; clear HB; have HO139 := n0_; have HO143 := n1_; have HO146 := n2_; have HO149 := n3_; have HO152 := n4_; have HO155 := n5_; have HO159 := n6_; have HO163 := n7_; have HO167 := n8_; have BK140 := n9_; have HB := n10_; clear n0_ n1_ n2_ n3_ n4_ n5_ n6_ n7_ n8_ n9_ n10_; (try clear hb); (try clear hb2); (try clear hk); (try clear hi); have hcz56_0 : w55.cell? ⟨gb140, 0, none⟩ = some (.slice Ao22 t137.length co22) := (blk_cell BK140.out 0).trans rfl; have hfz56_0 := blk_frozen BK140.out 0) | (go_at_call 20; (with_reducible refine (state_Falling.calls _ _ t137 _ _ y144 0 0 t173 _ ?side1 ?side2 ?side3 ?side4 A19.out).mono ?_); (case side1 => repeat (first | exact (Kd.N_reads' HO139.out).2.2 | (with_reducible refine Kd.C_alloc ?_ _) | (with_reducible refine Kd.C_drewN ?_ _) | (with_reducible refine Kd.C_drew ?_))); (case side2 => exact (Kd.N_reads' HO139.out).2.1); (case side3 => repeat (first | exact (Kd.R_reads' HO146.out).2.2 | (with_reducible refine Kd.C_alloc ?_ _) | (with_reducible refine Kd.C_drewN ?_ _) | (with_reducible refine Kd.C_drew ?_))); (case side4 => exact (Kd.R_reads' HO146.out).2.1); rintro e w57 ⟨rfl, hb⟩; have n0_ := Aside0.mk (Kd.N_below (by (with_reducible repeat (first | apply Kd.N_alloc | apply Kd.N_drewN | apply Kd.N_drew)); exact HO139.out) hb); have n1_ := Aside0.mk (Kd.R_below (by (with_reducible repeat (first | apply Kd.R_alloc | apply Kd.R_drewN | apply Kd.R_drew)); exact HO143.out) hb); have n2_ := Aside0.mk (Kd.R_below (by (with_reducible repeat (first | apply Kd.R_alloc | apply Kd.R_drewN | apply Kd.R_drew)); exact HO146.out) hb); have n3_ := Aside0.mk (Kd.R_below (by (with_reducible repeat (first | apply Kd.R_alloc | apply Kd.R_drewN | apply Kd.R_drew)); exact HO149.out) hb); have n4_ := Aside0.mk (Kd.R_below (by (with_reducible repeat (first | apply Kd.R_alloc | apply Kd.R_drewN | apply Kd.R_drew)); exact HO152.out) hb); have n5_ := Aside0.mk (Kd.R_below (by (with_reducible repeat (first | apply Kd.R_alloc | apply Kd.R_drewN | apply Kd.R_drew)); exact HO155.out) hb); have n6_ := Aside0.mk (Kd.R_below (by (with_reducible repeat (first | apply Kd.R_alloc | apply Kd.R_drewN | apply Kd.R_drew)); exact HO159.out) hb); have n7_ := Aside0.mk (Kd.R_below (by (with_reducible repeat (first | apply Kd.R_alloc | apply Kd.R_drewN | apply Kd.R_drew)); exact HO163.out) hb); have n8_ := Aside0.mk (Kd.R_below (by (with_reducible repeat (first | apply Kd.R_alloc | apply Kd.R_drewN | apply Kd.R_drew)); exact HO167.out) hb); have n9_ := Aside0.mk (blk_below (g := gb140) (o := .cells #[.slice Ao22 t137.length co22] 24 (0, 0)) (by (with_reducible repeat (first | refine blk_drewN ?_ _ | refine blk_drew ?_ | refine blk_alloc ?_ _)); exact BK140.out) hb); have n10_ := Aside0.mk (below_step (by repeat (first | (with_reducible first | exact HB.out | apply below_alloc | apply pw_below_drewN | apply below_drew1 | refine below_set ?_ GE140.out) | exact HB.out)) hb); clear HO139; clear HO143; clear HO146; clear HO149; clear HO152; clear HO155; clear HO159; clear HO163; clear HO167; clear BK140; clear HB; have HO139 := n0_; have HO143 := n1_; have HO146 := n2_; have HO149 := n3_; have HO152 := n4_; have HO155 := n5_; have HO159 := n6_; have HO163 := n7_; have HO167 := n8_; have BK140 := n9_; have HB := n10_; clear n0_ n1_ n2_ n3_ n4_ n5_ n6_ n7_ n8_ n9_ n10_; (try clear hb); (try clear hb2); (try clear hk); (try clear hi)))
          go_ret
          exact ⟨by first | rfl | (simp [errW_none, errW_some] <;> rfl) | (simp [*, errW_none, errW_some] <;> rfl), by repeat (first | (with_reducible first | exact HB.out | apply below_alloc | apply pw_below_drewN | apply below_drew1 | refine below_set ?_ GE140.out) | exact HB.out)⟩
         ·rw [if_neg c18] at H
          have c18b0 : (t172 == 1) = false := beq_eq_false_iff_ne.mpr c18
          have c18b1 : (t172 != 1) = true := bne_iff_ne.mpr c18
          obtain rfl := Option.some.inj H
          exact absurd HR0.out (by decide)
        ·rw [if_neg c16] at H
         have c16b0 : (t171 == 2) = false := beq_eq_false_iff_ne.mpr c16
         have c16b1 : (t171 != 2) = true := bne_iff_ne.mpr c16
         obtain rfl := Option.some.inj H
         exact absurd HR0.out (by decide)
       ·rw [if_neg c14] at H
        have c14b0 : (t170 == 3) = false := beq_eq_false_iff_ne.mpr c14
        have c14b1 : (t170 != 3) = true := bne_iff_ne.mpr c14
        obtain rfl := Option.some.inj H
        exact absurd HR0.out (by decide)
      ·rw [if_neg c12] at H
       have c12b0 : (t169 == 1) = false := beq_eq_false_iff_ne.mpr c12
       have c12b1 : (t169 != 1) = true := bne_iff_ne.mpr c12
       obtain rfl := Option.some.inj H
       exact absurd HR0.out (by decide)
     ·rw [if_neg c10] at H
      have c10b0 : (t160 == 0) = false := beq_eq_false_iff_ne.mpr c10
      have c10b1 : (t160 != 0) = true := bne_iff_ne.mpr c10
      obtain rfl := Option.some.inj H
      exact absurd HR0.out (by decide)
    ·replace c9 := Bool.eq_false_iff.mpr c9
     subst c9
     have H1 : (some false) = some r := by rw [if_neg (show ¬ (false = true) by decide)] at H; exact H
     clear H
     have H := H1
     clear H1
     obtain rfl := Option.some.inj H
     exact absurd HR0.out (by decide)
   ·rw [if_neg c7] at H
    have c7b0 : (t156 == 0) = false := beq_eq_false_iff_ne.mpr c7
    have c7b1 : (t156 != 0) = true := bne_iff_ne.mpr c7
    obtain rfl := Option.some.inj H
    exact absurd HR0.out (by decide)
  ·replace c6 := Bool.eq_false_iff.mpr c6
   subst c6
   have H1 : (some false) = some r := by rw [if_neg (show ¬ (false = true) by decide)] at H; exact H
   clear H
   have H := H1
   clear H1
   obtain rfl := Option.some.inj H
   exact absurd HR0.out (by decide)
 ·rw [if_neg c2] at H
  exact absurd H (by simp)
theorem argosylaw14_lives.at_ : argosylaw14_lives.f 80 = some true := by decide +kernel
theorem argosylaw14_lives.up_ : ∀ (m k : Nat) (r : Bool), argosylaw14_lives.f k = some r → argosylaw14_lives.f (k + m) = some r
 | 0, _, _, h => h
 | m + 1, k, r, h => argosylaw14_lives.mono _ _ (argosylaw14_lives.up_ m k r h)
theorem argosylaw14_lives.only_ {k : Nat} {r : Bool} (h : argosylaw14_lives.f k = some r) : r = true := by
 have a := argosylaw14_lives.up_ 80 k r h
 have b := argosylaw14_lives.up_ k 80 true argosylaw14_lives.at_
 rw [Nat.add_comm] at b
 exact Option.some.inj (a.symm.trans b)
theorem argosylaw14_lives.calls (k : Nat)  (r : Bool) (w : World) (h : argosylaw14_lives.f k  = some r) :
  Calls Try.prog 8 #[] w fun e w' => e = .returned (.bool r) ∧ Below w.heap.size w w' := argosylaw14_lives.calls_ k r w (argosylaw14_lives.only_ h) h
end Go.Proofs.Ytihpndignekheaa.F
end

section
namespace Go.Proofs.Ytihpndignekheaa.Pure
set_option linter.unusedVariables false
set_option linter.unusedSectionVars false
open Go.RowKit Go.Proofs.Ytihpndignekheaa.F Go.Proofs.YtihpndignekheaaW.PrintWords Go.Proofs.YtihpndignekheaaW.PrintLast
section
variable {Q : S37 → Prop} (hQ : ∀ (x : S37) (m : List Int), Q x → Q ⟨x.f0, x.f1, x.f2, x.f3, x.f4, x.f5, x.f6, m⟩)
 (hN : ∀ (x : S79) (inn alt : Int), fitsS x = true → Q ⟨x.f0, x.f1, x.f3, x.f4, (x.f5.length : Int), inn, alt, []⟩)
def QA (Q : S37 → Prop) (l : List S37) : Prop := ∀ x ∈ l, Q x
theorem QA.snoc {l : List S37} (h : QA Q l) {x : S37} (hx : Q x) : QA Q (l ++ [x]) := by
 intro y hy
 rcases List.mem_append.1 hy with hy | hy
 ·exact h y hy
 ·rw [List.mem_singleton.1 hy]; exact hx
include hQ in
theorem QA.after {l : List S37} (h : QA Q l) (a k : Int) : QA Q (addAfter l a k) := by
 intro y hy
 unfold addAfter at hy
 by_cases hl : a.toNat < l.length
 ·have hr : rd_T37 l a = l[a.toNat] := by unfold rd_T37; rw [List.getD_eq_getElem?_getD, List.getElem?_eq_getElem hl]; rfl
  rcases List.mem_or_eq_of_mem_set hy with hy | hy
  ·exact h y hy
  ·rw [hy]; exact hQ _ _ (by rw [hr]; exact h _ (List.getElem_mem hl))
 ·rw [List.set_eq_of_length_le (by omega)] at hy
  exact h y hy
include hQ in
theorem QA.arcs (b : List S79) (ats : List Int) (a : Int) : ∀ (s : List ByteArray) (l : List S37), QA Q l → QA Q (arcsTo b ats a s l)
 | [], _, h => h
 | x :: s, l, h => by rw [arcsTo]; exact QA.arcs b ats a s _ (QA.after hQ h _ _)
include hQ in
theorem QA.pass2 (b : List S79) (ats : List Int) : ∀ (n : List S79) (i : Nat) (l : List S37), QA Q l → QA Q (F.pass2 b ats i n l)
 | [], _, _, h => h
 | x :: n, i, l, h => by rw [F.pass2]; exact QA.pass2 b ats n (i + 1) _ (QA.arcs hQ _ _ _ _ _ h)
theorem fits_alts {nm un : ByteArray} {af : List ByteArray} {sb vi : Bool} {al : List (SB82 S79)} (h : fitsS ⟨nm, un, af, sb, vi, al⟩ = true) : altsFit al = true ∧ (sb = false → al = []) ∧ (sb = true → 0 < al.length) := by
 unfold fitsS at h
 split at h
 ·cases h
 ·cases sb with
  | true =>
   simp only [if_true, Bool.and_eq_true, decide_eq_true_eq] at h
   exact ⟨h.2.1, fun e => (by cases e), fun _ => h.2.2⟩
  | false =>
   simp only [Bool.false_eq_true, if_false, Bool.and_eq_true, decide_eq_true_eq] at h
   obtain rfl := List.length_eq_zero_iff.1 h.2.1
   exact ⟨by unfold altsFit; rfl, fun _ => rfl, fun e => by cases e⟩
include hQ hN in
mutual
theorem QA.node (inn alt : Int) (out : List S37) (h : QA Q out) : ∀ x : S79, fitsS x = true → QA Q (flNode inn alt out x)
 | ⟨nm, un, af, sb, vi, al⟩, hf => by
  unfold flNode
  exact QA.alts _ _ _ (QA.snoc h (hN ⟨nm, un, af, sb, vi, al⟩ inn alt hf)) al (fits_alts hf).1
theorem QA.nodes (inn alt : Int) (out : List S37) (nums : List Int) (h : QA Q out) : ∀ l : List S79, nodesFit l = true → QA Q (flNodes inn alt out nums l).1
 | [], _ => by simpa [flNodes] using h
 | x :: l, hf => by
  unfold nodesFit at hf
  rw [Bool.and_eq_true] at hf
  unfold flNodes
  exact QA.nodes inn alt _ _ (QA.node inn alt out h x hf.1) l hf.2
theorem QA.body (inn alt : Int) (out : List S37) (h : QA Q out) : ∀ b : SB82 S79, bodyFits b = true → QA Q (flBody inn alt out b)
 | ⟨l⟩, hf => by
  unfold bodyFits at hf
  unfold flBody
  exact QA.pass2 hQ _ _ _ _ _ (QA.nodes inn alt out [] h l hf)
theorem QA.alts (inn alt : Int) (out : List S37) (h : QA Q out) : ∀ l : List (SB82 S79), altsFit l = true → QA Q (flAlts inn alt out l)
 | [], _ => by simpa [flAlts] using h
 | b :: l, hf => by
  unfold altsFit at hf
  rw [Bool.and_eq_true] at hf
  unfold flAlts
  exact QA.alts inn (alt + 1) _ (QA.body inn alt out h b hf.1) l hf.2
end
end
end Go.Proofs.Ytihpndignekheaa.Pure
end

section
namespace Go.Proofs.Ytihpndignekheaa.Pure
set_option linter.unusedVariables false
open Go.RowKit Go.Proofs.Ytihpndignekheaa.F Go.Proofs.YtihpndignekheaaW.PrintWords Go.Proofs.YtihpndignekheaaW.PrintLast
abbrev I_ (p : List S37) (i : Nat) : S37 := rd_T37 p (i : Int)
abbrev L_ (l : List S59) (i : Nat) : S59 := rd_T59 l (i : Int)
def kid (p : List S37) (i a k : Nat) : Prop := i ≠ 0 ∧ (I_ p i).f5.toNat = a ∧ (I_ p i).f6.toNat = k
def flLow (t : Bool) : Fl := ⟨false, t, false, false, false, 0⟩
def Fl.noHa (f : Fl) : Fl := ⟨f.cl, f.tc, f.dn, f.sp, false, f.at_⟩
structure MadeAt (p : List S37) (l : List S59) (s : St) : Prop where
 fa : ∀ a k, (s.bo a k).fa = true ↔ ∃ i, i < p.length ∧ kid p i a k ∧ ((L_ l i).f0 = 3 ∨ ((I_ p i).f3 = true ∧ (s.it i).sp = true))
 cl : ∀ a k, (s.bo a k).cl = true ↔ ∀ i, i < p.length → kid p i a k → (s.it i).cl = true
 wh : ∀ a k, (s.bo a k).wh = true ↔ ∀ i, i < p.length → kid p i a k → ((s.it i).dn = true ∨ ((s.it i).sp = true ∧ (I_ p i).f3 = false))
 tc : ∀ a, (I_ p a).f2 = true → ((s.it a).tc = true ↔ ∃ i, i < p.length ∧ i ≠ 0 ∧ (I_ p i).f5.toNat = a ∧ (s.it i).tc = true)
 step : ∀ i, i < p.length → (I_ p i).f2 = false → Fl.noHa (s.it i) = stepS (L_ l i)
 saga : ∀ i, i < p.length → (I_ p i).f2 = true → Fl.noHa (s.it i) = sagaS (I_ p i).f4.toNat (s.bo i) (flLow (s.it i).tc)
 ha0 : (s.it 0).ha = false
 ha : ∀ j, 0 < j → j < p.length → (s.it j).ha = ((s.bo (I_ p j).f5.toNat (I_ p j).f6.toNat).fa || (s.it (I_ p j).f5.toNat).ha)
end Go.Proofs.Ytihpndignekheaa.Pure
end

section
namespace Go.Proofs.Ytihpndignekheaa.Pure
set_option linter.unusedVariables false
open Go.RowKit Go.Proofs.Ytihpndignekheaa.F Go.Proofs.YtihpndignekheaaW.PrintWords Go.Proofs.YtihpndignekheaaW.PrintLast
theorem small_plan {p : List S37} (hl : p.length ≤ 70 ∧ ∀ j (h : j < p.length), 0 ≤ j → p[j].f7.length ≤ 100) : smallP p = true := by
 unfold smallP
 rw [List.all_eq_true]
 intro y hy
 obtain ⟨j, hj, rfl⟩ := List.getElem_of_mem hy
 have := hl.2 j hj (by omega)
 simp only [decide_eq_true_eq]
 omega
theorem small_ok {p : List S37} (hp : smallP p = true) {l : List S59} (hl : l.length ≤ 100) : okArgs p l = true := by
 unfold okArgs
 rw [hp, decide_eq_true (by omega : l.length ≤ 1000000)]
 rfl
section
variable {p : List S37} {l : List S59}
variable {s : St} (M : MadeAt p l s)
include M
end
theorem w64_next {i : Nat} (h : i ≤ 1000000) : wrap64 ((i : Int) + 1) = ((i + 1 : Nat) : Int) := by unfold wrap64; omega
section
variable {p : List S37} (hp : smallP p = true) {l : List S59} (hl : l.length ≤ 100)
include hp hl
theorem all_ev : state_All.f p l = some (if factsB p l then (allB p l (madeS p l), 0) else ([], 2)) := by unfold state_All.f; rw [if_pos (small_ok hp hl)]
theorem verdict_ev : state_Verdict.f p l = some (if factsB p l then verdictB p l (madeS p l) else 0) := by unfold state_Verdict.f; rw [if_pos (small_ok hp hl)]
theorem at_ev (i : Int) : state_At.f p l i = some (if factsB p l then atB p (madeS p l) i else 0) := by unfold state_At.f; rw [if_pos (small_ok hp hl)]
theorem falling_ev (i a : Int) : state_Falling.f p l i a = some (if factsB p l then fallB p (madeS p l) i a else false) := by unfold state_Falling.f; rw [if_pos (small_ok hp hl)]
theorem clean_ev (i : Int) : state_Clean.f p l i = some (if factsB p l then cleanB p (madeS p l) i else false) := by unfold state_Clean.f; rw [if_pos (small_ok hp hl)]
theorem all_yes (h : factsB p l = true) : state_All.f p l = some (allB p l (madeS p l), 0) := by rw [all_ev hp hl, h]; rfl
theorem all_no (h : factsB p l = false) : state_All.f p l = some ([], 2) := by rw [all_ev hp hl, h]; rfl
theorem verdict_yes (h : factsB p l = true) : state_Verdict.f p l = some (verdictB p l (madeS p l)) := by rw [verdict_ev hp hl, h]; rfl
theorem verdict_no (h : factsB p l = false) : state_Verdict.f p l = some 0 := by rw [verdict_ev hp hl, h]; rfl
theorem at_yes (h : factsB p l = true) (i : Int) : state_At.f p l i = some (atB p (madeS p l) i) := by rw [at_ev hp hl, h]; rfl
theorem at_no (h : factsB p l = false) (i : Int) : state_At.f p l i = some 0 := by rw [at_ev hp hl, h]; rfl
theorem falling_yes (h : factsB p l = true) (i a : Int) : state_Falling.f p l i a = some (fallB p (madeS p l) i a) := by rw [falling_ev hp hl, h]; rfl
theorem falling_no (h : factsB p l = false) (i a : Int) : state_Falling.f p l i a = some false := by rw [falling_ev hp hl, h]; rfl
theorem clean_yes (h : factsB p l = true) (i : Int) : state_Clean.f p l i = some (cleanB p (madeS p l) i) := by rw [clean_ev hp hl, h]; rfl
theorem clean_no (h : factsB p l = false) (i : Int) : state_Clean.f p l i = some false := by rw [clean_ev hp hl, h]; rfl
end
end Go.Proofs.Ytihpndignekheaa.Pure
end

section
namespace Go.Proofs.Ytihpndignekheaa.Pure
set_option linter.unusedVariables false
open Go.RowKit Go.Proofs.Ytihpndignekheaa.F Go.Proofs.YtihpndignekheaaW.PrintWords Go.Proofs.YtihpndignekheaaW.PrintLast
theorem small_ev (l : List S37) (d : Nat) : ∀ i : Nat, i + d = 70 → ∃ b, Ev (fun k => argosylaw14_small.l0 k (i : Int) l) b ∧ (b = true → l.length ≤ 70 ∧ ∀ j (h : j < l.length), i ≤ j → l[j].f7.length ≤ 100) := by
 induction d with
 | zero =>
  intro i hi
  refine ⟨decide ((l.length : Int) ≤ 70), ⟨2, fun k hk => ?_⟩, fun h => ?_⟩
  ·obtain ⟨k, rfl⟩ : ∃ m, k = m + 2 := ⟨k - 2, by omega⟩
   simp only [argosylaw14_small.l0, argosylaw14_small.j1]
   rw [decide_eq_false (by omega : ¬ (i : Int) < 70)]
   simp
  ·have := of_decide_eq_true h
   exact ⟨by omega, fun j h1 h2 => by omega⟩
 | succ d ih =>
  intro i hi
  by_cases hl : i < l.length
  ·obtain ⟨b, ⟨K, hK⟩, hb⟩ := ih (i + 1) (by omega)
   have hrd : rd_T37 l (i : Int) = l[i] := by unfold rd_T37; rw [Int.toNat_natCast, List.getD_eq_getElem?_getD, List.getElem?_eq_getElem hl]; rfl
   by_cases h1 : ((l[i].f0).size : Int) > 200 ∨ ((l[i].f1).size : Int) > 200 ∨ ((l[i].f7).length : Int) > 100
   ·refine ⟨false, ⟨2, fun k hk => ?_⟩, fun h => by cases h⟩
    obtain ⟨k, rfl⟩ : ∃ m, k = m + 2 := ⟨k - 2, by omega⟩
    simp only [argosylaw14_small.l0, argosylaw14_small.j1]
    rw [if_pos (by omega), decide_eq_true (by omega : (i : Int) < 70), if_pos rfl, if_pos (by omega), if_pos (by omega), hrd]
    by_cases h2 : ((l[i].f0).size : Int) > 200
    ·rw [if_pos h2]
    ·rw [if_neg h2]
     by_cases h3 : ((l[i].f1).size : Int) > 200
     ·rw [if_pos h3]
     ·rw [if_neg h3, if_pos (by omega)]
   ·refine ⟨b, ⟨K + 2, fun k hk => ?_⟩, fun h => ⟨(hb h).1, fun j h2 h3 => ?_⟩⟩
    ·obtain ⟨k, rfl⟩ : ∃ m, k = m + 2 := ⟨k - 2, by omega⟩
     simp only [argosylaw14_small.l0, argosylaw14_small.j1]
     rw [if_pos (by omega), decide_eq_true (by omega : (i : Int) < 70), if_pos rfl, if_pos (by omega), if_pos (by omega), hrd, if_neg (by omega), if_neg (by omega), if_neg (by omega), show wrap64 ((i : Int) + 1) = ((i + 1 : Nat) : Int) by unfold wrap64; omega]
     exact hK k (by omega)
    ·by_cases hj : j = i
     ·subst hj; omega
     ·exact (hb h).2 j h2 (by omega)
  ·refine ⟨decide ((l.length : Int) ≤ 70), ⟨2, fun k hk => ?_⟩, fun h => ?_⟩
   ·obtain ⟨k, rfl⟩ : ∃ m, k = m + 2 := ⟨k - 2, by omega⟩
    simp only [argosylaw14_small.l0, argosylaw14_small.j1]
    rw [if_neg (by omega)]
    simp
   ·have := of_decide_eq_true h
    exact ⟨by omega, fun j h1 h2 => by omega⟩
theorem small_f (p : List S37) : ∃ b K, (∀ k, K ≤ k → argosylaw14_small.f k p = some b) ∧ (b = true → smallP p = true ∧ p.length ≤ 70) := by
 obtain ⟨b, ⟨K, hK⟩, hb⟩ := small_ev p 70 0 (by omega)
 exact ⟨b, K, fun k hk => hK k hk, fun h => ⟨small_plan (hb h), (hb h).1⟩⟩
theorem lives_ev (k : Nat) (hk : 80 ≤ k) : argosylaw14_lives.f k = some true := by
 obtain ⟨m, rfl⟩ : ∃ m, k = 80 + m := ⟨k - 80, by omega⟩
 exact argosylaw14_lives.up_ m 80 true argosylaw14_lives.at_
end Go.Proofs.Ytihpndignekheaa.Pure
end

section
namespace Go.Proofs.Ytihpndignekheaa.F
open Go.RowKit Go.Proofs.YtihpndignekheaaW.PrintWords Go.Proofs.YtihpndignekheaaW.PrintLast Go.Proofs.YtihpndignekheaaW.PrintMore
structure Stay (n : Nat) (X X' : World) : Prop where
 below : Below n X X'
 cells : ∀ (k : Nat) (o : Obj), o.isCells = true → X.heap[k]? = some o → X'.heap[k]? = some o
theorem Stay.mono {n m : Nat} {X X' : World} (h : Stay m X X') (hn : n ≤ m) : Stay n X X' := ⟨h.below.mono hn, h.cells⟩
theorem Stay.trans {n : Nat} {X Y Z : World} (h : Stay n X Y) (k : Stay n Y Z) : Stay n X Z := ⟨h.below.trans k.below, fun i o ho e => k.cells i o ho (h.cells i o ho e)⟩
theorem Stay.of_below {n m : Nat} {X X' : World} (h : Below m X X') (hm : X.heap.size ≤ m) (hn : n ≤ m) : Stay n X X' := ⟨h.mono hn, fun k _ _ e => (h.block k (Nat.lt_of_lt_of_le (Array.getElem?_eq_some_iff.1 e).1 hm)).trans e⟩
theorem Stay.alloc {n : Nat} {X : World} (o : Obj) (hn : n ≤ X.heap.size) : Stay n X (X.alloc o) := Stay.of_below ((Below.refl X.heap.size X).alloc (Nat.le_refl _) o) (Nat.le_refl _) hn
theorem Stay.refl (n : Nat) (X : World) : Stay n X X := ⟨Below.refl _ _, fun _ _ _ e => e⟩
theorem Stay.putObj {n l : Nat} {X : World} (o : Obj) (hn : n ≤ l) (hc : ∀ o : Obj, X.heap[l]? = some o → o.isCells = false) : Stay n X (X.putObj l o) :=
 ⟨below_putObj (Below.refl _ _) _ hn, fun k o ho e => (World.putObj_heap_other (fun h => by subst h; rw [hc o e] at ho; cases ho)).trans e⟩
def Calm (Ex : World → Nat → Prop) (n : Nat) : Prop := ∀ X X' : World, Below n X X' → ∀ k, Ex X' k → Ex X k
theorem Calm.mono {Ex : World → Nat → Prop} {n m : Nat} (h : Calm Ex n) (hm : n ≤ m) : Calm Ex m := fun X X' hb k => h X X' (hb.mono hm) k
structure KeepX (Ex : World → Nat → Prop) (B : Nat) (X X' : World) : Prop where
 size : X.heap.size ≤ X'.heap.size
 same : ∀ k, B ≤ k → k < X.heap.size → ¬ Ex X k → X'.heap[k]? = X.heap[k]? ∧ ¬ Ex X' k
section
variable {Ex : World → Nat → Prop}
theorem KeepX.trans {B : Nat} {X Y Z : World} (h : KeepX Ex B X Y) (k : KeepX Ex B Y Z) : KeepX Ex B X Z := ⟨Nat.le_trans h.size k.size, fun i hB hi hx => by
 obtain ⟨h1, h2⟩ := h.same i hB hi hx
 obtain ⟨h3, h4⟩ := k.same i hB (Nat.lt_of_lt_of_le hi h.size) h2
 exact ⟨h3.trans h1, h4⟩⟩
theorem KeepX.mono {B B' : Nat} {X Y : World} (h : KeepX Ex B X Y) (hb : B ≤ B') : KeepX Ex B' X Y := ⟨h.size, fun i hi => h.same i (Nat.le_trans hb hi)⟩
theorem KeepX.blk {B : Nat} {X Y : World} (h : KeepX Ex B X Y) {k : Nat} {o : Obj} (hB : B ≤ k) (hk : X.heap[k]? = some o) (hx : ¬ Ex X k) : Y.heap[k]? = some o ∧ ¬ Ex Y k := by
 obtain ⟨h1, h2⟩ := h.same k hB (Array.getElem?_eq_some_iff.1 hk).1 hx
 exact ⟨h1.trans hk, h2⟩
theorem KeepX.of_below {B n m : Nat} {X Y : World} (hc : Calm Ex n) (h : Below m X Y) (hm : X.heap.size ≤ m) (hn : n ≤ m) : KeepX Ex B X Y := ⟨h.size, fun i _ hi hx => ⟨h.block i (Nat.lt_of_lt_of_le hi hm), fun hy => hx (hc X Y (h.mono hn) i hy)⟩⟩
theorem KeepX.putObj {B l n : Nat} {X : World} (hc : Calm Ex n) (o : Obj) (hn : n ≤ l) (hl : l < B) : KeepX Ex B X (X.putObj l o) := ⟨by simp, fun k hk _ hx => ⟨World.putObj_heap_other (by omega), fun hy => hx (hc X _ (below_putObj (Below.refl _ _) _ hn) k hy)⟩⟩
end
structure MarksX (Ex : World → Nat → Prop) (B : Nat) (X : World) (ds : List Nat) : Prop where
 nodup : ds.Nodup
 here : ∀ r, r ∈ ds → B ≤ r ∧ X.heap[r]? = some (.deferred (some []))
 free : ∀ r, r ∈ ds → ¬ Ex X r
section
variable {Ex : World → Nat → Prop}
theorem MarksX.nil (B : Nat) (X : World) : MarksX Ex B X [] := ⟨List.nodup_nil, fun r h => (by cases h), fun r h => (by cases h)⟩
theorem MarksX.keep {B : Nat} {X X' : World} {ds : List Nat} (h : MarksX Ex B X ds) (hk : KeepX Ex B X X') : MarksX Ex B X' ds := ⟨h.nodup, fun r hr => ⟨(h.here r hr).1, (hk.blk (h.here r hr).1 (h.here r hr).2 (h.free r hr)).1⟩, fun r hr => (hk.blk (h.here r hr).1 (h.here r hr).2 (h.free r hr)).2⟩
theorem MarksX.lt {B : Nat} {X : World} {ds : List Nat} (h : MarksX Ex B X ds) : ∀ r ∈ ds, r < X.heap.size := fun r hr => (Array.getElem?_eq_some_iff.1 (h.here r hr).2).1
theorem MarksX.below {B n m : Nat} {X X' : World} {ds : List Nat} (h : MarksX Ex B X ds) (hc : Calm Ex m) (hm : m ≤ n) (hb : Below n X X') (hlt : ∀ r ∈ ds, r < n) : MarksX Ex B X' ds := ⟨h.nodup, fun r hr => ⟨(h.here r hr).1, (hb.block r (hlt r hr)).trans (h.here r hr).2⟩, fun r hr hx => h.free r hr (hc X X' (hb.mono hm) r hx)⟩
theorem MarksX.cons {B d : Nat} {X : World} {ds : List Nat} (h : MarksX Ex B X ds) (hd : B ≤ d) (hn : d ∉ ds) (hh : X.heap[d]? = some (.deferred (some []))) (hx : ¬ Ex X d) : MarksX Ex B X (d :: ds) :=
 ⟨List.nodup_cons.2 ⟨hn, h.nodup⟩, fun r hr => (List.mem_cons.1 hr).elim (fun e => by subst e; exact ⟨hd, hh⟩) (fun hr => h.here r hr), fun r hr => (List.mem_cons.1 hr).elim (fun e => by subst e; exact hx) (fun hr => h.free r hr)⟩
end
def rowEx (n8 : Nat) (t : TypeId) (X : World) (k : Nat) : Prop := ∃ v : Value, X.heap[n8]? = some (.cells #[v] t (0, 0)) ∧ v.ownBlock = some k
structure RowX (t e : TypeId) (size : Nat) (o1 o2 : Obj) (w : World) (n8 b1 b2 : Nat) (n : Nat) (xs : List Value) (X : World) : Prop where
 b : Below w.heap.size w X
 row : ∃ v : Value, X.heap[n8]? = some (.cells #[v] t (0, 0)) ∧ X.ownsRow w.heap.size e size v n xs ∧ v.ownBlock ≠ some b1 ∧ v.ownBlock ≠ some b2
 d1 : X.heap[b1]? = some o1
 d2 : X.heap[b2]? = some o2
 lo : w.heap.size ≤ n8 ∧ n8 < b1 ∧ b1 < b2
section
variable {t e : TypeId} {size : Nat} {o1 o2 : Obj} {w : World} {n8 b1 b2 : Nat} {n : Nat} {xs : List Value} {X : World}
theorem RowX.step {tmp : Obj} {v v' : Value} {m : Nat} {ys : List Value} {w1 : World} (h : RowX t e size o1 o2 w n8 b1 b2 n xs X) (hv : X.heap[n8]? = some (.cells #[v] t (0, 0))) (hte : t ≠ e)
  (hown' : w1.ownsRow w.heap.size e size v' m ys) (hgrow : (X.alloc tmp).grownBy w1 v.ownBlock) (hfr : v'.ownBlock = v.ownBlock ∨ v'.ownBlock = some (X.alloc tmp).heap.size) :
  RowX t e size o1 o2 w n8 b1 b2 m ys (w1.setCell ⟨n8, 0, none⟩ v') ∧ ∀ B, n8 < B → KeepX (rowEx n8 t) B X (w1.setCell ⟨n8, 0, none⟩ v') := by
 obtain ⟨v0, r1, r2, r3, r4⟩ := h.row
 rw [hv] at r1
 cases r1
 have hlo := h.lo
 have hbs := h.b.size
 have hb2 : b2 < X.heap.size := (Array.getElem?_eq_some_iff.1 h.d2).1
 have hb1 : b1 < X.heap.size := (Array.getElem?_eq_some_iff.1 h.d1).1
 obtain ⟨q1, q2, q3, q4, q5⟩ := Boxed.appended (W := X) (B := n8) (n₀ := w.heap.size) hv hte r2 hbs hlo.1 hown' hgrow
 have hsz : X.heap.size < (X.alloc tmp).heap.size := by simp
 have hk : ∀ k, k < X.heap.size → k ≠ n8 → v.ownBlock ≠ some k → (w1.setCell ⟨n8, 0, none⟩ v').heap[k]? = X.heap[k]? := fun k hk hn hx => by
  rw [Below.heap_setCell w1 ⟨n8, 0, none⟩ v' k hn, hgrow.block k (by omega) (fun e => hx e.symm)]
  exact ((Below.refl X.heap.size X).alloc (Nat.le_refl _) tmp).block k hk
 have hne : ∀ k, k < X.heap.size → v.ownBlock ≠ some k → v'.ownBlock ≠ some k := fun k hk hx e => by
  rcases hfr with h1 | h1
  ·exact hx (h1.symm.trans e)
  ·rw [h1] at e; cases e; omega
 refine ⟨⟨h.b.trans q5, ⟨v', q2, q3, hne _ hb1 r3, hne _ hb2 r4⟩, (hk _ hb1 (by omega) r3).trans h.d1, (hk _ hb2 (by omega) r4).trans h.d2, hlo⟩, fun B hB => ⟨q5.size, fun k hB2 hlt hx => ?_⟩⟩
 have hxv : v.ownBlock ≠ some k := fun e => hx ⟨v, hv, e⟩
 refine ⟨hk k hlt (by omega) hxv, ?_⟩
 rintro ⟨u, u1, u2⟩
 rw [show (w1.setCell ⟨n8, 0, none⟩ v').heap[n8]? = some (.cells #[v'] t (0, 0)) from q2] at u1
 cases u1
 exact hne k hlt hxv u2
end
end Go.Proofs.Ytihpndignekheaa.F
end

section
namespace Go.Proofs.Ytihpndignekheaa.F
open Go.RowKit Go.Proofs.YtihpndignekheaaW.PrintWords Go.Proofs.YtihpndignekheaaW.PrintLast Go.Proofs.YtihpndignekheaaW.PrintMore
structure StayE (E : Nat → Prop) (n : Nat) (X X' : World) : Prop where
 os : X'.os = X.os
 tape : X'.tape = X.tape
 output : X'.output = X.output
 size : X.heap.size ≤ X'.heap.size
 block : ∀ k, k < n → ¬ E k → X'.heap[k]? = X.heap[k]?
 cells : ∀ (k : Nat) (o : Obj), ¬ E k → o.isCells = true → X.heap[k]? = some o → X'.heap[k]? = some o
theorem StayE.refl (E : Nat → Prop) (n : Nat) (X : World) : StayE E n X X := ⟨rfl, rfl, rfl, Nat.le_refl _, fun _ _ _ => rfl, fun _ _ _ _ e => e⟩
theorem StayE.trans {E : Nat → Prop} {n : Nat} {X Y Z : World} (h : StayE E n X Y) (k : StayE E n Y Z) : StayE E n X Z := ⟨k.os.trans h.os, k.tape.trans h.tape, k.output.trans h.output, Nat.le_trans h.size k.size, fun i hi he => (k.block i hi he).trans (h.block i hi he), fun i o he ho e => k.cells i o he ho (h.cells i o he ho e)⟩
theorem StayE.mono {E : Nat → Prop} {n m : Nat} {X X' : World} (h : StayE E m X X') (hn : n ≤ m) : StayE E n X X' := ⟨h.os, h.tape, h.output, h.size, fun k hk => h.block k (Nat.lt_of_lt_of_le hk hn), h.cells⟩
structure KeepE (E : Nat → Prop) (X X' : World) : Prop where
 os : X'.os = X.os
 tape : X'.tape = X.tape
 output : X'.output = X.output
 size : X.heap.size ≤ X'.heap.size
 block : ∀ k, k < X.heap.size → ¬ E k → X'.heap[k]? = X.heap[k]?
theorem KeepE.refl (E : Nat → Prop) (X : World) : KeepE E X X := ⟨rfl, rfl, rfl, Nat.le_refl _, fun _ _ _ => rfl⟩
theorem KeepE.trans {E : Nat → Prop} {X Y Z : World} (h : KeepE E X Y) (k : KeepE E Y Z) : KeepE E X Z := ⟨k.os.trans h.os, k.tape.trans h.tape, k.output.trans h.output, Nat.le_trans h.size k.size, fun i hi he => (k.block i (Nat.lt_of_lt_of_le hi h.size) he).trans (h.block i hi he)⟩
theorem KeepE.of_below {E : Nat → Prop} {n : Nat} {X X' : World} (h : Below n X X') (hn : X.heap.size ≤ n) : KeepE E X X' := ⟨h.os, h.tape, h.output, h.size, fun k hk _ => h.block k (Nat.lt_of_lt_of_le hk hn)⟩
theorem KeepE.blk {E : Nat → Prop} {X X' : World} (h : KeepE E X X') {k : Nat} {o : Obj} (hk : X.heap[k]? = some o) (he : ¬ E k) : X'.heap[k]? = some o := (h.block k (Array.getElem?_eq_some_iff.1 hk).1 he).trans hk
theorem KeepE.below {E : Nat → Prop} {n : Nat} {X X' : World} (h : KeepE E X X') (hn : n ≤ X.heap.size) (he : ∀ k, k < n → ¬ E k) : Below n X X' := ⟨h.os, h.tape, h.output, h.size, fun k hk => h.block k (Nat.lt_of_lt_of_le hk hn) (he k hk)⟩
theorem KeepE.put {E : Nat → Prop} {g : Nat} (X : World) (he : E g) (a : Nat) (v : Value) : KeepE E X (X.setCell ⟨g, a, none⟩ v) := ⟨rfl, rfl, rfl, by simp [World.setCell], fun k _ hk => Below.heap_setCell X ⟨g, a, none⟩ v k (fun e => hk (by subst e; exact he))⟩
def CalmE (E : Nat → Prop) (Ex : World → Nat → Prop) (n : Nat) : Prop := ∀ X X' : World, (∀ k, k < n → ¬ E k → X'.heap[k]? = X.heap[k]?) → ∀ k, Ex X' k → Ex X k
theorem CalmE.mono {E : Nat → Prop} {Ex : World → Nat → Prop} {n m : Nat} (h : CalmE E Ex n) (hm : n ≤ m) : CalmE E Ex m := fun X X' hb k => h X X' (fun i hi => hb i (Nat.lt_of_lt_of_le hi hm)) k
end Go.Proofs.Ytihpndignekheaa.F
end

section
namespace Go.Proofs.Ytihpndignekheaa.F
open Go.RowKit Go.Proofs.YtihpndignekheaaW.PrintWords Go.Proofs.YtihpndignekheaaW.PrintLast Go.Proofs.YtihpndignekheaaW.PrintMore
attribute [local go_sem] max2_int min2_int max_two min_two max_three min_three max_four min_four
set_option linter.unusedVariables false
set_option linter.unusedSimpArgs false
def NoneP (w : World) : Option Nat → Prop
 | none => True
 | some g => BdAt w g [] none 0 [] none 0 stZ
theorem NoneP.below {w w' : World} {r : Option Nat} (h : NoneP w r) (hb : Below w.heap.size w w') : NoneP w' r := by
 cases r with
 | none => trivial
 | some g => exact BdAt.below h hb
theorem bd_zero {W : World} {g : Nat} (h : W.heap[g]? = some (.cells Try.zeroCells49 49 (0, 0))) : NoneP W (some g) :=
 ⟨h.trans (congrArg (fun c => some (Obj.cells c 49 (0, 0))) (show Try.zeroCells49 = bCells (memOf (.slice none 0 0) (.slice none 0 0) stZ) by kernel_rfl)), Kd.C_nil _ _, Kd.C_nil _ _, rfl, Nat.zero_le _⟩
section
variable {w : World} {r : Option Nat} (h : NoneP w r)
include h
theorem size_z : Calls Try.prog 25 #[ptrV r] w fun e w' => e = .returned (.int .i64 0) ∧ w' = w := by
 cases r with
 | none => exact size_none w
 | some g => exact size_walk h
theorem sub_z (i : Int) : Calls Try.prog 27 #[ptrV r, .int .i64 i] w fun e w' => e = .returned (.bool false) ∧ w' = w := by
 cases r with
 | none => exact sub_none i w
 | some g =>
  have hb : subB [] i = false := by
   unfold subB
   cases h0 : decide (0 ≤ i)
   ·rfl
   ·have := of_decide_eq_true h0
    have h1 : decide (i < ((([] : List S37).length : Nat) : Int)) = false := decide_eq_false (by simp; omega)
    rw [h1]; rfl
  have := sub_walk h i
  rw [hb] at this
  exact this
theorem all_z : Calls Try.prog 13 #[ptrV r] w fun e w' => ∃ v, e = .returned v ∧ Kd.R (Kd.int .i64) 32 w' w.heap.size (fun _ => True) v [] ∧ Below w.heap.size w w' := by
 cases r with
 | none => exact all_none w
 | some g => exact all_walk h
theorem verdict_z : Calls Try.prog 14 #[ptrV r] w fun e w' => e = .returned (.int .i64 0) ∧ w' = w := by
 have HZ := Aside0.mk (size_z h)
 generalize ptrV r = v at HZ ⊢
 clear h
 go_enter Try.func14, Try.ntmps14
 go_wp2_with (go_at_call 25; refine HZ.out.mono ?_; rintro e w2 ⟨rfl, rfl⟩)
 go_ret
 exact ⟨rfl, rfl⟩
theorem at_z (i : Int) : Calls Try.prog 15 #[ptrV r, .int .i64 i] w fun e w' => e = .returned (.int .i64 0) ∧ w' = w := by
 have HZ := Aside0.mk (size_z h)
 generalize ptrV r = v at HZ ⊢
 clear h
 go_enter Try.func15, Try.ntmps15
 go_wp2_with (go_at_call 25; refine HZ.out.mono ?_; rintro e w2 ⟨rfl, rfl⟩)
 go_ret
 exact ⟨rfl, rfl⟩
theorem clean_z (i : Int) : Calls Try.prog 17 #[ptrV r, .int .i64 i] w fun e w' => e = .returned (.bool false) ∧ w' = w := by
 have HZ := Aside0.mk (size_z h)
 generalize ptrV r = v at HZ ⊢
 clear h
 by_cases h : 0 ≤ i
 all_goals
  go_enter Try.func17, Try.ntmps17
  go_wp2_with (go_at_call 25; refine HZ.out.mono ?_; rintro e w2 ⟨rfl, rfl⟩)
  go_ret
  exact ⟨by simp; try omega, rfl⟩
theorem falling_z (i a : Int) : Calls Try.prog 16 #[ptrV r, .int .i64 i, .int .i64 a] w fun e w' => e = .returned (.bool false) ∧ w' = w := by
 have HZ := Aside0.mk (sub_z h i)
 generalize ptrV r = v at HZ ⊢
 clear h
 go_enter Try.func16, Try.ntmps16
 go_wp2_with (go_at_call 27; refine HZ.out.mono ?_; rintro e w2 ⟨rfl, rfl⟩)
 go_ret
 exact ⟨rfl, rfl⟩
end
set_option maxHeartbeats 8000000 in
theorem is_same (A0 : Option Addr) (c0 : Nat) (A1 : Option Addr) (c1 : Nat) (l : List Int) (w : World) (h0 : Kd.C (Kd.int .i64) w A0 l.length l) (h1 : Kd.C (Kd.int .i64) w A1 l.length l) : Calls Try.prog 19 #[.slice A0 l.length c0, .slice A1 l.length c1] w fun e w' => e = .returned (.bool true) ∧ Below w.heap.size w w' := by
 have H0 := Aside0.mk h0
 have H1 := Aside0.mk h1
 have HM := Aside0.mk (Kd.C_max h0)
 clear h0 h1
 go_enter Try.func19, Try.ntmps19
 go_wp2
 go_loopg [5] l.length (fun kq v5 w' => ∃ i : Nat, i + kq = l.length ∧ v5 = .int .i64 i ∧ Aside0 (Below w.heap.size w w'))
 case atStart => exact ⟨0, by omega, rfl, ⟨Below.refl _ _⟩⟩
 case round =>
  obtain ⟨i, hi, rfl, HB⟩ := hrel
  cases gk with
  | zero =>
   obtain rfl : i = l.length := by omega
   go_wp2
   go_ret
   exact ⟨rfl, HB.out⟩
  | succ d =>
   have hlt : (i : Int) < (l.length : Int) := by omega
   have h0i : (0 : Int) ≤ i := by omega
   obtain ⟨a0, e0, x0⟩ := Kd.at_int (Kd.C_below H0.out HB.out) (i : Int) h0i hlt
   obtain ⟨a1, e1, y0⟩ := Kd.at_int (Kd.C_below H1.out HB.out) (i : Int) h0i hlt
   obtain rfl := e0
   obtain rfl := e1
   rw [Int.toNat_natCast] at x0 y0
   generalize rd l (i : Int) = u at x0 y0
   have hwi : wrap64 ((i : Int) + 1) = ((i + 1 : Nat) : Int) := by have := HM.out; unfold wrap64; omega
   have HWI := Aside0.mk hi
   clear hi
   go_upto_region 6 with (fail)
   go_region
   go_wp2
   go_roundg d
   case measure => omega
   case rel => exact ⟨i + 1, by have := HWI.out; omega, by go_num, ⟨HB.out.drew⟩⟩
theorem SeeP.later {p : List S37} {Ap : Option Addr} {cp : Nat} {l : List S59} {w w' w2 : World} {r : Option Nat} (h : SeeP p Ap cp l w r w') (hb : Below w'.heap.size w' w2) : SeeP p Ap cp l w r w2 := by
 refine ⟨h.1.trans (hb.mono h.1.size), ?_⟩
 cases r with
 | none => exact h.2
 | some g =>
  obtain ⟨h1, Al, cl, h2, h3, h4⟩ := h.2
  exact ⟨h1, Al, cl, h2.below hb, h3, Kd.F_below h4 hb⟩
theorem SeeP.keep {p : List S37} {Ap : Option Addr} {cp : Nat} {l : List S59} {w6 w7 w8 W : World} {r : Option Nat} {gb : Nat} (h : SeeP p Ap cp l w7 r w8) (hK : KeepE (fun k => k = gb) w8 W) (hgb : gb < w7.heap.size) (hg6 : w6.heap.size ≤ gb) (h67 : Below w6.heap.size w6 w7) (hp : Kd.C k37 W Ap p.length p) : SeeP p Ap cp l w6 r W := by
 refine ⟨(h67.trans (h.1.mono h67.size)).trans (hK.below (Nat.le_trans h67.size h.1.size) (fun k hk e => by omega)), ?_⟩
 cases r with
 | none => exact h.2
 | some g =>
  obtain ⟨h1, Al, cl, h2, h3, h4⟩ := h.2
  have hs := h67.size
  have hF := Kd.F_step h4 (W1 := W) (fun k hk hlt => hK.block k hlt (fun e => by omega))
  exact ⟨h1, Al, cl, ⟨hK.blk h2.bd (fun e => by omega), hp, Kd.F_now hF, h2.len, h2.few⟩, by omega, Kd.F_mono hF (fun k hk => Nat.le_trans hs hk)⟩
def OwnAt (W : World) (gb n : Nat) : Prop := ∃ cur : Array Value, W.heap[gb]? = some (.cells cur 59 (0, 0)) ∧ n * 4 ≤ cur.size
theorem OwnAt.put {W : World} {gb n : Nat} (h : OwnAt W gb n) (a : Nat) (v : Value) : OwnAt (W.setCell ⟨gb, a, none⟩ v) gb n := by
 obtain ⟨cur, h1, h2⟩ := h
 exact ⟨_, blk_put h1 a v rfl, by simpa using h2⟩
theorem OwnAt.cell {W : World} {gb n : Nat} (h : OwnAt W gb n) (i q : Nat) (hi : i < n) (hq : q < 4) : ∃ u, W.cell? ⟨gb, i * 4 + q, none⟩ = some u := by
 obtain ⟨cur, h1, h2⟩ := h
 exact ⟨cur[i * 4 + q]'(by omega), (blk_cell h1 _).trans (Array.getElem?_eq_getElem (by omega))⟩
theorem OwnAt.free {W : World} {gb n : Nat} (h : OwnAt W gb n) (a : Nat) : W.frozen? ⟨gb, a, none⟩ = false := by
 obtain ⟨cur, h1, -⟩ := h
 exact blk_frozen h1 a
theorem info_sees : (Try.prog.info? 59).map (fun i => (i.zero, i.size, i.bytes)) = some (some (.agg #[(.int .i64 0), (.int .i64 0), (.int .i64 0), (.bool false)]), 4, 32) := by kernel_rfl
def argosylaw14_StateSees.f (k : Nat) (l0_0 : List S37) (l1 : List S59) (a2 : Int) (a3 : Int) (a4 : Bool) : Option Bool := some true
open Go.Proofs.Ytihpndignekheaa.Pure in
set_option maxHeartbeats 16000000 in
set_option maxRecDepth 100000 in
theorem argosylaw14_StateSees.calls (k : Nat) (A0_0 : Option Addr) (c0_0 : Nat) (l0_0 : List S37) (A1 : Option Addr) (c1 : Nat) (l1 : List S59) (a2 : Int) (a3 : Int) (a4 : Bool) (r : Bool) (w : World) (hr0_0 : Kd.C k37 w A0_0 l0_0.length l0_0) (hc0_0 : l0_0.length ≤ c0_0) (hr1 : Kd.C k59 w A1 l1.length l1) (hc1 : l1.length ≤ c1) (h : argosylaw14_StateSees.f k l0_0 l1 a2 a3 a4 = some r) :
  Calls Try.prog 4 #[.agg #[.slice A0_0 l0_0.length c0_0], .slice A1 l1.length c1, .int .i64 a2, .int .i64 a3, .bool a4] w fun e w' => e = .returned (.bool r) ∧ Below w.heap.size w w' := by
 obtain rfl := Option.some.inj h
 obtain ⟨b, K, hK, hb⟩ := small_f l0_0
 have HB0 := Aside0.mk (below_alloc (Below.refl w.heap.size w) (.cells #[.slice A0_0 l0_0.length c0_0] 24 (0, 0)))
 have HG0 := Aside0.mk (blk_new w (.cells #[.slice A0_0 l0_0.length c0_0] 24 (0, 0)))
 have HP := Aside0.mk hr0_0
 have HF := Aside0.mk hr1
 have HSM := Aside0.mk (fun (W : World) (hb : Below w.heap.size w W) => argosylaw14_small.calls K A0_0 c0_0 l0_0 b W (Kd.C_below hr0_0 hb) hc0_0 (hK K (Nat.le_refl _)))
 have HLV := Aside0.mk (fun (W : World) => argosylaw14_lives.calls 80 true W (lives_ev 80 (by omega)))
 clear h hK
 cases b with
 | false =>
  clear hr0_0 hc0_0 hr1 hc1 hb HP HF
  go_enter Try.func4, Try.ntmps4
  go_wp2_with (first
   | (go_at_call 7; refine (HSM.out _ HB0.out).mono ?_; rintro e w2 ⟨rfl, hb⟩; have HB2 := Aside0.mk (HB0.out.trans (hb.mono HB0.out.size)); clear hb)
   | (go_at_call 8; refine (HLV.out _).mono ?_; rintro e w3 ⟨rfl, hb⟩; have HB3 := Aside0.mk (HB2.out.trans (hb.mono HB2.out.size)); clear hb))
  go_ret
  exact ⟨rfl, HB3.out⟩
 | true =>
  obtain ⟨hsm, h70⟩ := hb rfl
  clear hb
  by_cases hl : (l1.length : Int) > 100
  ·clear hr0_0 hc0_0 hr1 hc1 HP HF hsm h70
   go_enter Try.func4, Try.ntmps4
   go_wp2_with (first
    | (go_at_call 7; refine (HSM.out _ HB0.out).mono ?_; rintro e w2 ⟨rfl, hb⟩; have HB2 := Aside0.mk (HB0.out.trans (hb.mono HB0.out.size)); clear hb)
    | (go_at_call 8; refine (HLV.out _).mono ?_; rintro e w3 ⟨rfl, hb⟩; have HB3 := Aside0.mk (HB2.out.trans (hb.mono HB2.out.size)); clear hb))
   go_ret
   exact ⟨rfl, HB3.out⟩
  ·have hl2 : l1.length ≤ 100 := by omega
   have hl6 : l1.length ≤ 1000000 := by omega
   obtain ⟨v, hv⟩ : ∃ v, factsB l0_0 l1 = v := ⟨_, rfl⟩
   obtain ⟨E, hE⟩ : ∃ E : Int, (if v then 0 else 2) = E := ⟨_, rfl⟩
   obtain ⟨SA, hSA⟩ : ∃ S : List Int, (if v then allB l0_0 l1 (madeS l0_0 l1) else []) = S := ⟨_, rfl⟩
   obtain ⟨qv, hqv⟩ : ∃ q : Int, (if v then verdictB l0_0 l1 (madeS l0_0 l1) else 0) = q := ⟨_, rfl⟩
   obtain ⟨qa, hqa⟩ : ∃ q : Int, (if v then atB l0_0 (madeS l0_0 l1) a2 else 0) = q := ⟨_, rfl⟩
   obtain ⟨qf, hqf⟩ : ∃ q : Bool, (if v then fallB l0_0 (madeS l0_0 l1) a2 a3 else false) = q := ⟨_, rfl⟩
   obtain ⟨qc, hqc⟩ : ∃ q : Bool, (if v then cleanB l0_0 (madeS l0_0 l1) a2 else false) = q := ⟨_, rfl⟩
   have HALL : Aside0 (∀ (W : World) (hb : Below w.heap.size w W), Calls Try.prog 9 #[.agg #[.slice A0_0 l0_0.length c0_0], .slice A1 l1.length c1] W fun e w' => ∃ v0_ : Value, e = .returned (.tuple #[v0_, .int .i64 E]) ∧ Kd.R (Kd.int .i64) 32 w' W.heap.size (fun _ => True) v0_ SA ∧ Below W.heap.size W w') := ⟨fun W hb => state_All.calls A0_0 c0_0 l0_0 A1 c1 l1 SA E W (Kd.C_below hr0_0 hb) hc0_0 (Kd.C_below hr1 hb) hc1 (by rw [← hE, ← hSA]; cases v; exact all_no hsm hl2 hv; exact all_yes hsm hl2 hv)⟩
   have HVD : Aside0 (∀ (W : World) (hb : Below w.heap.size w W), Calls Try.prog 10 #[.agg #[.slice A0_0 l0_0.length c0_0], .slice A1 l1.length c1] W fun e w' => e = .returned (.int .i64 qv) ∧ Below W.heap.size W w') := ⟨fun W hb => state_Verdict.calls A0_0 c0_0 l0_0 A1 c1 l1 qv W (Kd.C_below hr0_0 hb) hc0_0 (Kd.C_below hr1 hb) hc1 (by rw [← hqv]; cases v; exact verdict_no hsm hl2 hv; exact verdict_yes hsm hl2 hv)⟩
   have HATT : Aside0 (∀ (W : World) (hb : Below w.heap.size w W), Calls Try.prog 12 #[.agg #[.slice A0_0 l0_0.length c0_0], .slice A1 l1.length c1, .int .i64 a2] W fun e w' => e = .returned (.int .i64 qa) ∧ Below W.heap.size W w') := ⟨fun W hb => state_At.calls A0_0 c0_0 l0_0 A1 c1 l1 a2 qa W (Kd.C_below hr0_0 hb) hc0_0 (Kd.C_below hr1 hb) hc1 (by rw [← hqa]; cases v; exact at_no hsm hl2 hv a2; exact at_yes hsm hl2 hv a2)⟩
   have HFAL : Aside0 (∀ (W : World) (hb : Below w.heap.size w W), Calls Try.prog 20 #[.agg #[.slice A0_0 l0_0.length c0_0], .slice A1 l1.length c1, .int .i64 a2, .int .i64 a3] W fun e w' => e = .returned (.bool qf) ∧ Below W.heap.size W w') := ⟨fun W hb => state_Falling.calls A0_0 c0_0 l0_0 A1 c1 l1 a2 a3 qf W (Kd.C_below hr0_0 hb) hc0_0 (Kd.C_below hr1 hb) hc1 (by rw [← hqf]; cases v; exact falling_no hsm hl2 hv a2 a3; exact falling_yes hsm hl2 hv a2 a3)⟩
   have HCLE : Aside0 (∀ (W : World) (hb : Below w.heap.size w W), Calls Try.prog 11 #[.agg #[.slice A0_0 l0_0.length c0_0], .slice A1 l1.length c1, .int .i64 a2] W fun e w' => e = .returned (.bool qc) ∧ Below W.heap.size W w') := ⟨fun W hb => state_Clean.calls A0_0 c0_0 l0_0 A1 c1 l1 a2 qc W (Kd.C_below hr0_0 hb) hc0_0 (Kd.C_below hr1 hb) hc1 (by rw [← hqc]; cases v; exact clean_no hsm hl2 hv a2; exact clean_yes hsm hl2 hv a2)⟩
   have HSEE : Aside0 (∀ (A7 : Option Addr) (c7 : Nat) (W : World) (hb : Below w.heap.size w W), Kd.C k59 W A7 l1.length l1 → l1.length ≤ c7 → Calls Try.prog 18 #[.agg #[.slice A0_0 l0_0.length c0_0], .slice A7 l1.length c7] W fun e w' => ∃ r, e = .returned (.tuple #[ptrV r, .int .i64 E]) ∧ SeeP l0_0 A0_0 c0_0 l1 W r w') := ⟨fun A7 c7 W hb hC hc => by
    have h2 := see_walk l0_0 A0_0 c0_0 l1 A7 c7 W (Kd.C_below hr0_0 hb) hc0_0 hC hc hsm hl6
    rw [hv, hE] at h2
    exact h2⟩
   have HPA : Aside0 (∀ (W : World) (r : Option Nat) (w6 : World), SeeP l0_0 A0_0 c0_0 l1 w6 r W → Calls Try.prog 13 #[ptrV r] W fun e w2 => ∃ A c, e = .returned (.slice A SA.length c) ∧ Kd.C (Kd.int .i64) w2 A SA.length SA ∧ Below W.heap.size W w2) := ⟨fun W r w6 hs => (by
    have h2 := all_ptr hs
    rw [hv, hSA] at h2
    refine h2.mono ?_
    rintro e w2 ⟨x, rfl, hR, hb⟩
    obtain ⟨A, c, rfl, -, hC⟩ := Kd.R_reads hR
    exact ⟨A, c, rfl, hC, hb⟩)⟩
   have HPV : Aside0 (∀ (W : World) (r : Option Nat) (w6 : World), SeeP l0_0 A0_0 c0_0 l1 w6 r W → Calls Try.prog 14 #[ptrV r] W fun e w2 => e = .returned (.int .i64 qv) ∧ Below W.heap.size W w2) := ⟨fun W r w6 hs => (by have h2 := verdict_ptr hs; rw [hv, hqv] at h2; exact h2)⟩
   have HPT : Aside0 (∀ (W : World) (r : Option Nat) (w6 : World), SeeP l0_0 A0_0 c0_0 l1 w6 r W → Calls Try.prog 15 #[ptrV r, .int .i64 a2] W fun e w2 => e = .returned (.int .i64 qa) ∧ Below W.heap.size W w2) := ⟨fun W r w6 hs => (by have h2 := at_ptr hs a2; rw [hv, hqa] at h2; exact h2)⟩
   have HPF : Aside0 (∀ (W : World) (r : Option Nat) (w6 : World), SeeP l0_0 A0_0 c0_0 l1 w6 r W → Calls Try.prog 16 #[ptrV r, .int .i64 a2, .int .i64 a3] W fun e w2 => e = .returned (.bool qf) ∧ Below W.heap.size W w2) := ⟨fun W r w6 hs => (by have h2 := falling_ptr hs a2 a3; rw [hv, hqf] at h2; exact h2)⟩
   have HPC : Aside0 (∀ (W : World) (r : Option Nat) (w6 : World), SeeP l0_0 A0_0 c0_0 l1 w6 r W → Calls Try.prog 17 #[ptrV r, .int .i64 a2] W fun e w2 => e = .returned (.bool qc) ∧ Below W.heap.size W w2) := ⟨fun W r w6 hs => (by have h2 := clean_ptr hs a2; rw [hv, hqc] at h2; exact h2)⟩
   have HRE : Aside0 (∀ (r : Option Nat) (w6 W : World), SeeP l0_0 A0_0 c0_0 l1 w6 r W → (r = none ∧ E = 2) ∨ ∃ g, r = some g ∧ E = 0) := ⟨fun r w6 W hs => by
    cases r with
    | none => have := hs.2; rw [hv] at this; subst this; exact .inl ⟨rfl, hE.symm⟩
    | some g => have := hs.2.1; rw [hv] at this; subst this; exact .inr ⟨g, rfl, hE.symm⟩⟩
   have HL100 := Aside0.mk hl2
   clear hr0_0 hc0_0 hr1 hc1 hsm h70 hl2 hl6 hv hE hSA hqv hqa hqf hqc
   go_enter Try.func4, Try.ntmps4
   go_upto_if 27 with (go_at_call 7; refine (HSM.out _ HB0.out).mono ?_; rintro e w2 ⟨rfl, hb⟩; have HB2 := Aside0.mk (HB0.out.trans (hb.mono HB0.out.size)); have HG2 := Aside0.mk (blk_below HG0.out hb); clear hb)
   go_cut [11] (fun v11 wc => ∃ r, v11 = ptrV r ∧ Aside0 (NoneP wc r) ∧ Aside0 (Below w2.heap.size w2 wc))
   case first =>
    cases a4
    ·go_wp2
     go_meet
     case rel => exact ⟨none, rfl, ⟨trivial⟩, ⟨Below.refl _ _⟩⟩
    ·go_wp2
     go_meet
     case rel => exact ⟨some w2.heap.size, rfl, ⟨bd_zero (blk_new _ _)⟩, ⟨below_alloc (Below.refl _ _) _⟩⟩
   case rest =>
    obtain ⟨rz, rfl, HNZ, HBC⟩ := hcut
    have HBc := Aside0.mk (HB2.out.trans (HBC.out.mono HB2.out.size))
    have HGc := Aside0.mk (blk_below HG2.out HBC.out)
    have HZA := Aside0.mk (all_z HNZ.out)
    have HZV := Aside0.mk (fun (W : World) (hb : Below wc.heap.size wc W) => verdict_z (HNZ.out.below hb))
    have HZT := Aside0.mk (fun (W : World) (hb : Below wc.heap.size wc W) => at_z (HNZ.out.below hb) a2)
    have HZF := Aside0.mk (fun (W : World) (hb : Below wc.heap.size wc W) => falling_z (HNZ.out.below hb) a2 a3)
    have HZC := Aside0.mk (fun (W : World) (hb : Below wc.heap.size wc W) => clean_z (HNZ.out.below hb) a2)
    clear HNZ
    generalize ptrV rz = pz at HZA HZV HZT HZF HZC ⊢
    go_upto_region 8 with (first
     | (go_at_call 13; refine HZA.out.mono ?_; rintro e w3 ⟨v3, rfl, hR, hb⟩; have HB3 := Aside0.mk hb; obtain ⟨A3, c3, rfl⟩ := Kd.R_slice hR; rw [show (([] : List Int).length) = 0 from rfl]; clear hb hR)
     | (go_at_call 14; refine (HZV.out _ HB3.out).mono ?_; rintro e w4 ⟨rfl, hw⟩; rw [hw]; clear hw w4)
     | (go_at_call 15; refine (HZT.out _ HB3.out).mono ?_; rintro e w4 ⟨rfl, hw⟩; rw [hw]; clear hw w4)
     | (go_at_call 16; refine (HZF.out _ HB3.out).mono ?_; rintro e w4 ⟨rfl, hw⟩; rw [hw]; clear hw w4)
     | (go_at_call 17; refine (HZC.out _ HB3.out).mono ?_; rintro e w4 ⟨rfl, hw⟩; rw [hw]; clear hw w4))
    have HBw3 := Aside0.mk (HBc.out.trans (HB3.out.mono HBc.out.size))
    have HG3 := Aside0.mk (blk_below HGc.out HB3.out)
    have h2 := World.ownsRow_lit (base := w3.heap.size) (e := 59) (size := k59.sz) w3 #[] 0 (Nat.le_refl _) (by simp) (by simp)
    have HO0 : Aside0 (Kd.R k59 59 (w3.alloc (.cells #[] 59 (0, 0))) w3.heap.size (fun _ => True) (.slice (some ⟨w3.heap.size, 0, none⟩) 0 0) []) := ⟨⟨fun _ _ => trivial, [], by simpa using h2, Reps.none _ _⟩⟩
    clear h2
    go_upto_region 9 with ((with_reducible refine gate_builtin (b := .append) (xs := #[.tmp 56, .tmp 57]) rfl ?_); at_builtin; refine Kd.R_append_rows k59 (w0 := w3) w3.heap.size rfl (.tmp 56) (.tmp 57) 25 59 (.agg #[(.int .i64 0), (.int .i64 0), (.int .i64 0), (.bool false)]) 32 rfl Try.underlying25 info_sees rfl (by decide) (by omega) (.slice (some ⟨w3.heap.size, 0, none⟩) 0 0) [] l1 _ _ _ (fun _ => True) (fun _ => False) rfl rfl HO0.out (Kd.C_below HF.out (HBw3.out.trans ((below_alloc (Below.refl _ _) _).mono HBw3.out.size))) (fun _ _ h => h) (fun _ h => h.elim) (fun _ _ => trivial) ((Below.refl w3.heap.size w3).alloc (Nat.le_refl _) _) (by simp) (by have := HL100.out; simp; omega) ?_; intro v1 w1 hR hB hg hx; have HR1 := Aside0.mk (show Kd.R k59 59 w1 w3.heap.size (fun _ => True) v1 l1 from hR); have HB1 := Aside0.mk hB; have HZ1 : Aside0 (w3.heap.size < w1.heap.size) := ⟨by have h4 := hg.size; rw [World.size_alloc] at h4; omega⟩; clear hR hB hg hx)
    have HBw1 := Aside0.mk (HBw3.out.trans (HB1.out.mono HBw3.out.size))
    have HG1 := Aside0.mk (blk_below HG3.out HB1.out)
    obtain ⟨gb, hg1, hg2, hown⟩ : ∃ gb, w3.heap.size ≤ gb ∧ gb < w1.heap.size ∧ (l1.length = 0 ∨ ((∃ c, v1 = .slice (some ⟨gb, 0, none⟩) l1.length c) ∧ OwnAt w1 gb l1.length)) := by
     obtain ⟨inner, -, ho⟩ := Kd.R_own HR1.out
     rcases ho with ⟨-, hn⟩ | ⟨g, cap, cur, hv, hb, hh, hc, -, hsz, -⟩
     ·exact ⟨w3.heap.size, Nat.le_refl _, HZ1.out, .inl hn⟩
     ·exact ⟨g, hb, lt_of_blk_ hh, .inr ⟨⟨cap, hv⟩, cur, hh, by rw [hsz]; exact Nat.mul_le_mul_right 4 hc⟩⟩
    have HGL := Aside0.mk hg1
    have HGU := Aside0.mk hg2
    have HGW : Aside0 (w.heap.size < gb) := ⟨by have h4 := HBw3.out.size; have h5 := lt_of_blk_ HG3.out; omega⟩
    obtain ⟨A7, c7, rfl⟩ := Kd.R_slice HR1.out
    have HOWN : Aside0 (l1.length = 0 ∨ (A7 = some ⟨gb, 0, none⟩ ∧ OwnAt w1 gb l1.length)) := ⟨hown.imp id (fun ⟨⟨c, h3⟩, h4⟩ => ⟨by injection h3, h4⟩)⟩
    have HC1 := Aside0.mk (Kd.R_reads' HR1.out)
    clear hg1 hg2 hown HR1
    have x1 : w1.cell? ⟨w.heap.size, 0, none⟩ = some (.slice A0_0 l0_0.length c0_0) := (blk_cell HG1.out 0).trans rfl
    go_upto_region 11 with (first
     | (go_at_call 18; refine (HSEE.out A7 c7 _ HBw1.out HC1.out.2.2 HC1.out.2.1).mono ?_; rintro e w8 ⟨r, rfl, hs⟩; have HS8 := Aside0.mk hs; have HB8 := Aside0.mk hs.1; have HBw8 := Aside0.mk (HBw1.out.trans (hs.1.mono HBw1.out.size)); clear hs; have x8 : w8.cell? ⟨w.heap.size, 0, none⟩ = some (.slice A0_0 l0_0.length c0_0) := (blk_cell (blk_below HG1.out HB8.out) 0).trans rfl)
     | (go_at_call 9; refine (HALL.out _ HBw8.out).mono ?_; rintro e w9 ⟨v9, rfl, hR, hb⟩; have HB9 := Aside0.mk hb; obtain ⟨A9, c9, rfl⟩ := Kd.R_slice hR; have HR9 := Aside0.mk hR; clear hb hR))
    have HBw9 := Aside0.mk (HBw8.out.trans (HB9.out.mono HBw8.out.size))
    have HG9 := Aside0.mk (blk_below (blk_below HG1.out HB8.out) HB9.out)
    have HS9 := Aside0.mk (HS8.out.later HB9.out)
    have HOW9 : Aside0 (l1.length = 0 ∨ (A7 = some ⟨gb, 0, none⟩ ∧ OwnAt w9 gb l1.length)) := ⟨HOWN.out.imp id (fun ⟨h3, cur, h4, h5⟩ => ⟨h3, cur, blk_below (blk_below h4 HB8.out) HB9.out, h5⟩)⟩
    have HG98 : Aside0 (gb < w8.heap.size) := ⟨Nat.lt_of_lt_of_le HGU.out HB8.out.size⟩
    clear x1 x8
    rcases HRE.out r w1 w8 HS8.out with ⟨rfl, rfl⟩ | ⟨g, rfl, rfl⟩
    ·dsimp only [ptrV]
     go_wp2
     go_loopg [17] l1.length (fun kq v17 w' => ∃ i : Nat, i + kq = l1.length ∧ v17 = .int .i64 i ∧ Aside0 (KeepE (fun k => k = gb) w9 w') ∧ Aside0 (l1.length = 0 ∨ (A7 = some ⟨gb, 0, none⟩ ∧ OwnAt w' gb l1.length)))
     case atStart => exact ⟨0, by omega, rfl, ⟨KeepE.refl _ _⟩, HOW9⟩
     case round =>
      obtain ⟨i, hi, rfl, HK, HOW⟩ := hrel
      cases gk with
      | zero =>
       obtain rfl : i = l1.length := by omega
       have HBW : Aside0 (Below w.heap.size w wr) := ⟨HBw9.out.trans (HK.out.below HBw9.out.size (fun k hk e => by have := HGW.out; omega))⟩
       have HSW := Aside0.mk (SeeP.keep HS9.out HK.out HGU.out HGL.out HB1.out (Kd.C_below HP.out HBW.out))
       have HXW := Aside0.mk (Kd.R_reads' (Kd.R_step (Kd.R_bound HR9.out) (fun k hk hlt => HK.out.block k hlt (fun e => by have h3 := hk.2.1; have h4 := HG98.out; omega)))).2.2
       have HGX := Aside0.mk (HK.out.blk HG9.out (fun e => by have := HGW.out; omega))
       go_upto_region 17 with (fail)
       refine start_ (n := 48) (S := fun w' => w'.cell? ⟨w.heap.size, 0, none⟩ = some (.slice A0_0 l0_0.length c0_0)) (ds := []) #[false, false, false, false, false, false, false, false, false, false, false, false, false, false, false, false, false, false, false, false, false, false, false, false, false, false, false, false, false, false, false, false, false, false, false, false, false, false, false, false, false, false, false, false, false, false, false, false] (by kernel_rfl) rfl rfl (((blk_cell (blk_drew HGX.out) 0).trans rfl)) (fun hHeld => ?_)
       refine ws_ 46 #[true, false, true, false, false, false, false, false, false, false, false, false, false, false, false, false, false, false, false, false, false, false, false, false, false, false, false, false, false, false, false, false, false, false, false, false, false, false, false, false, false, false, false, false, false, false, false, false] [(0, false, some 91), (2, false, some 93)] (by kernel_rfl) rfl ?_
       repeat (first | (refine ws_pure (v := ?_) (a' := ?_) rfl rfl (fun _ _ _ h => h) (Or.inl ⟨by rfl, ?_⟩) ?_ ?_; rotate_left; (focus intro w'; go_simp; with_reducible rfl); rotate_left; (focus simp only [Act.put, List.setIfInBounds_toArray, List.set_cons_zero, List.set_cons_succ, i64_w, i32_w]; rfl)))
       refine ws_nil ?_
       refine one_ (i := 1) (N := some 92) #[true, true, true, false, false, false, false, false, false, false, false, false, false, false, false, false, false, false, false, false, false, false, false, false, false, false, false, false, false, false, false, false, false, false, false, false, false, false, false, false, false, false, false, false, false, false, false, false] rfl rfl (by kernel_rfl) (by decide) (fun K hK => ?_)
       refine goes_ Try.func13 (by kernel_rfl) rfl #[.pointer none] (by rfl) rfl rfl (by simp only [List.map_toArray, List.map_cons, List.map_nil]; rfl) ?_
       refine (HPA.out _ none _ (HSW.out.later (Below.refl _ _).drew)).mono ?_
       rintro e q1 ⟨Aq, cq, rfl, hC, hb⟩
       refine ⟨_, rfl, ?_⟩
       have HB_q1 := Aside0.mk (HBW.out.drew.trans (hb.mono HBW.out.drew.size))
       have HS_q1 := Aside0.mk ((HSW.out.later (Below.refl _ _).drew).later hb)
       have HX_q1 := Aside0.mk (Kd.C_below (Kd.C_below HXW.out (Below.refl _ _).drew) hb)
       have HG_q1 := Aside0.mk (blk_below (blk_drew HGX.out) hb)
       have HCQ := Aside0.mk hC
       clear hC
       clear hb
       refine hK.out _ _ (((blk_cell HG_q1.out 0).trans rfl)) (fun hHeld => ?_)
       clear hK K
       refine norm_ (a' := ?_) ?_ ?_
       rotate_left
       ·show Act.put _ (some 92) _ = _
        simp only [Act.put, List.setIfInBounds_toArray, List.set_cons_zero, List.set_cons_succ, i64_w, i32_w]
        rfl
       refine one_ (i := 3) (N := some 94) #[true, true, true, true, false, false, false, false, false, false, false, false, false, false, false, false, false, false, false, false, false, false, false, false, false, false, false, false, false, false, false, false, false, false, false, false, false, false, false, false, false, false, false, false, false, false, false, false] rfl rfl (by kernel_rfl) (by decide) (fun K hK => ?_)
       refine goes_ Try.func19 (by kernel_rfl) rfl #[.slice Aq SA.length cq, .slice A9 SA.length c9] (by rfl) rfl rfl (by simp only [List.map_toArray, List.map_cons, List.map_nil]; rfl) ?_
       with_reducible refine (is_same Aq cq A9 c9 SA _ HCQ.out HX_q1.out).mono ?_
       rintro e q2 ⟨rfl, hb⟩
       refine ⟨_, rfl, ?_⟩
       have HB_q2 := Aside0.mk (HB_q1.out.trans (hb.mono HB_q1.out.size))
       have HS_q2 := Aside0.mk (HS_q1.out.later hb)
       have HX_q2 := Aside0.mk (Kd.C_below HX_q1.out hb)
       have HG_q2 := Aside0.mk (blk_below HG_q1.out hb)
       clear hb
       refine hK.out _ _ (((blk_cell HG_q2.out 0).trans rfl)) (fun hHeld => ?_)
       clear hK K
       refine norm_ (a' := ?_) ?_ ?_
       rotate_left
       ·show Act.put _ (some 94) _ = _
        simp only [Act.put, List.setIfInBounds_toArray, List.set_cons_zero, List.set_cons_succ, i64_w, i32_w]
        rfl
       refine ws_ 40 #[true, true, true, true, true, true, false, true, true, false, false, false, false, false, false, false, false, false, false, false, false, false, false, false, false, false, false, false, false, false, false, false, false, false, false, false, false, false, false, false, false, false, false, false, false, false, false, false] [(4, false, some 95), (5, false, some 96), (8, false, some 99), (7, true, some 98)] (by kernel_rfl) rfl ?_
       repeat (first | (refine ws_pure (v := ?_) (a' := ?_) rfl rfl (fun _ _ _ h => h) (Or.inl ⟨by rfl, ?_⟩) ?_ ?_; rotate_left; (focus intro w'; go_simp; with_reducible rfl); rotate_left; (focus simp only [Act.put, List.setIfInBounds_toArray, List.set_cons_zero, List.set_cons_succ, i64_w, i32_w]; rfl)) | (refine ws_take (v := ?_) (a' := ?_) rfl rfl (fun _ _ _ h => h) (Or.inl ⟨by rfl, ?_⟩) hHeld ?_ ?_; rotate_left; (focus intro w' s0; go_simp; with_reducible rfl); rotate_left; (focus simp only [Act.put, List.setIfInBounds_toArray, List.set_cons_zero, List.set_cons_succ, i64_w, i32_w]; rfl)))
       refine ws_nil ?_
       refine one_ (i := 6) (N := some 97) #[true, true, true, true, true, true, true, true, true, false, false, false, false, false, false, false, false, false, false, false, false, false, false, false, false, false, false, false, false, false, false, false, false, false, false, false, false, false, false, false, false, false, false, false, false, false, false, false] rfl rfl (by kernel_rfl) (by decide) (fun K hK => ?_)
       refine goes_ Try.func14 (by kernel_rfl) rfl #[.pointer none] (by rfl) rfl rfl (by simp only [List.map_toArray, List.map_cons, List.map_nil]; rfl) ?_
       refine (HPV.out _ none _ HS_q2.out).mono ?_
       rintro e q3 ⟨rfl, hb⟩
       refine ⟨_, rfl, ?_⟩
       have HB_q3 := Aside0.mk (HB_q2.out.trans (hb.mono HB_q2.out.size))
       have HS_q3 := Aside0.mk (HS_q2.out.later hb)
       have HX_q3 := Aside0.mk (Kd.C_below HX_q2.out hb)
       have HG_q3 := Aside0.mk (blk_below HG_q2.out hb)
       clear hb
       refine hK.out _ _ (((blk_cell HG_q3.out 0).trans rfl)) (fun hHeld => ?_)
       clear hK K
       refine norm_ (a' := ?_) ?_ ?_
       rotate_left
       ·show Act.put _ (some 97) _ = _
        simp only [Act.put, List.setIfInBounds_toArray, List.set_cons_zero, List.set_cons_succ, i64_w, i32_w]
        rfl
       refine one_ (i := 9) (N := some 100) #[true, true, true, true, true, true, true, true, true, true, false, false, false, false, false, false, false, false, false, false, false, false, false, false, false, false, false, false, false, false, false, false, false, false, false, false, false, false, false, false, false, false, false, false, false, false, false, false] rfl rfl (by kernel_rfl) (by decide) (fun K hK => ?_)
       refine goes_ Try.func10 (by kernel_rfl) rfl #[.agg #[.slice A0_0 l0_0.length c0_0], .slice A1 l1.length c1] (by rfl) rfl rfl (by simp only [List.map_toArray, List.map_cons, List.map_nil]; rfl) ?_
       with_reducible refine (HVD.out _ HB_q3.out).mono ?_
       rintro e q4 ⟨rfl, hb⟩
       refine ⟨_, rfl, ?_⟩
       have HB_q4 := Aside0.mk (HB_q3.out.trans (hb.mono HB_q3.out.size))
       have HS_q4 := Aside0.mk (HS_q3.out.later hb)
       have HX_q4 := Aside0.mk (Kd.C_below HX_q3.out hb)
       have HG_q4 := Aside0.mk (blk_below HG_q3.out hb)
       clear hb
       refine hK.out _ _ (((blk_cell HG_q4.out 0).trans rfl)) (fun hHeld => ?_)
       clear hK K
       refine norm_ (a' := ?_) ?_ ?_
       rotate_left
       ·show Act.put _ (some 100) _ = _
        simp only [Act.put, List.setIfInBounds_toArray, List.set_cons_zero, List.set_cons_succ, i64_w, i32_w]
        rfl
       refine ws_ 30 #[true, true, true, true, true, true, true, true, true, true, true, true, true, true, true, false, true, true, true, false, false, false, false, false, false, false, false, false, false, false, false, false, false, false, false, false, false, false, false, false, false, false, false, false, false, false, false, false] [(10, false, some 101), (11, false, some 102), (12, false, some 103), (13, false, some 104), (14, false, some 105), (17, false, some 108), (18, false, some 109), (16, true, some 107)] (by kernel_rfl) rfl ?_
       repeat (first | (refine ws_pure (v := ?_) (a' := ?_) rfl rfl (fun _ _ _ h => h) (Or.inl ⟨by rfl, ?_⟩) ?_ ?_; rotate_left; (focus intro w'; go_simp; with_reducible rfl); rotate_left; (focus simp only [Act.put, List.setIfInBounds_toArray, List.set_cons_zero, List.set_cons_succ, i64_w, i32_w]; rfl)) | (refine ws_take (v := ?_) (a' := ?_) rfl rfl (fun _ _ _ h => h) (Or.inl ⟨by rfl, ?_⟩) hHeld ?_ ?_; rotate_left; (focus intro w' s0; go_simp; with_reducible rfl); rotate_left; (focus simp only [Act.put, List.setIfInBounds_toArray, List.set_cons_zero, List.set_cons_succ, i64_w, i32_w]; rfl)))
       refine ws_nil ?_
       refine one_ (i := 15) (N := some 106) #[true, true, true, true, true, true, true, true, true, true, true, true, true, true, true, true, true, true, true, false, false, false, false, false, false, false, false, false, false, false, false, false, false, false, false, false, false, false, false, false, false, false, false, false, false, false, false, false] rfl rfl (by kernel_rfl) (by decide) (fun K hK => ?_)
       refine goes_ Try.func15 (by kernel_rfl) rfl #[.pointer none, .int .i64 a2] (by rfl) rfl rfl (by simp only [List.map_toArray, List.map_cons, List.map_nil]; rfl) ?_
       refine (HPT.out _ none _ HS_q4.out).mono ?_
       rintro e q5 ⟨rfl, hb⟩
       refine ⟨_, rfl, ?_⟩
       have HB_q5 := Aside0.mk (HB_q4.out.trans (hb.mono HB_q4.out.size))
       have HS_q5 := Aside0.mk (HS_q4.out.later hb)
       have HX_q5 := Aside0.mk (Kd.C_below HX_q4.out hb)
       have HG_q5 := Aside0.mk (blk_below HG_q4.out hb)
       clear hb
       refine hK.out _ _ (((blk_cell HG_q5.out 0).trans rfl)) (fun hHeld => ?_)
       clear hK K
       refine norm_ (a' := ?_) ?_ ?_
       rotate_left
       ·show Act.put _ (some 106) _ = _
        simp only [Act.put, List.setIfInBounds_toArray, List.set_cons_zero, List.set_cons_succ, i64_w, i32_w]
        rfl
       refine one_ (i := 19) (N := some 110) #[true, true, true, true, true, true, true, true, true, true, true, true, true, true, true, true, true, true, true, true, false, false, false, false, false, false, false, false, false, false, false, false, false, false, false, false, false, false, false, false, false, false, false, false, false, false, false, false] rfl rfl (by kernel_rfl) (by decide) (fun K hK => ?_)
       refine goes_ Try.func12 (by kernel_rfl) rfl #[.agg #[.slice A0_0 l0_0.length c0_0], .slice A1 l1.length c1, .int .i64 a2] (by rfl) rfl rfl (by simp only [List.map_toArray, List.map_cons, List.map_nil]; rfl) ?_
       with_reducible refine (HATT.out _ HB_q5.out).mono ?_
       rintro e q6 ⟨rfl, hb⟩
       refine ⟨_, rfl, ?_⟩
       have HB_q6 := Aside0.mk (HB_q5.out.trans (hb.mono HB_q5.out.size))
       have HS_q6 := Aside0.mk (HS_q5.out.later hb)
       have HX_q6 := Aside0.mk (Kd.C_below HX_q5.out hb)
       have HG_q6 := Aside0.mk (blk_below HG_q5.out hb)
       clear hb
       refine hK.out _ _ (((blk_cell HG_q6.out 0).trans rfl)) (fun hHeld => ?_)
       clear hK K
       refine norm_ (a' := ?_) ?_ ?_
       rotate_left
       ·show Act.put _ (some 110) _ = _
        simp only [Act.put, List.setIfInBounds_toArray, List.set_cons_zero, List.set_cons_succ, i64_w, i32_w]
        rfl
       refine ws_ 18 #[true, true, true, true, true, true, true, true, true, true, true, true, true, true, true, true, true, true, true, true, true, true, true, true, true, true, false, true, true, true, true, false, false, false, false, false, false, false, false, false, false, false, false, false, false, false, false, false] [(20, false, some 111), (21, false, some 112), (22, false, some 113), (23, false, some 114), (24, false, some 115), (25, false, some 116), (28, false, some 119), (29, false, some 120), (30, false, some 121), (27, true, some 118)] (by kernel_rfl) rfl ?_
       repeat (first | (refine ws_pure (v := ?_) (a' := ?_) rfl rfl (fun _ _ _ h => h) (Or.inl ⟨by rfl, ?_⟩) ?_ ?_; rotate_left; (focus intro w'; go_simp; with_reducible rfl); rotate_left; (focus simp only [Act.put, List.setIfInBounds_toArray, List.set_cons_zero, List.set_cons_succ, i64_w, i32_w]; rfl)) | (refine ws_take (v := ?_) (a' := ?_) rfl rfl (fun _ _ _ h => h) (Or.inl ⟨by rfl, ?_⟩) hHeld ?_ ?_; rotate_left; (focus intro w' s0; go_simp; with_reducible rfl); rotate_left; (focus simp only [Act.put, List.setIfInBounds_toArray, List.set_cons_zero, List.set_cons_succ, i64_w, i32_w]; rfl)))
       refine ws_nil ?_
       refine one_ (i := 26) (N := some 117) #[true, true, true, true, true, true, true, true, true, true, true, true, true, true, true, true, true, true, true, true, true, true, true, true, true, true, true, true, true, true, true, false, false, false, false, false, false, false, false, false, false, false, false, false, false, false, false, false] rfl rfl (by kernel_rfl) (by decide) (fun K hK => ?_)
       refine goes_ Try.func16 (by kernel_rfl) rfl #[.pointer none, .int .i64 a2, .int .i64 a3] (by rfl) rfl rfl (by simp only [List.map_toArray, List.map_cons, List.map_nil]; rfl) ?_
       refine (HPF.out _ none _ HS_q6.out).mono ?_
       rintro e q7 ⟨rfl, hb⟩
       refine ⟨_, rfl, ?_⟩
       have HB_q7 := Aside0.mk (HB_q6.out.trans (hb.mono HB_q6.out.size))
       have HS_q7 := Aside0.mk (HS_q6.out.later hb)
       have HX_q7 := Aside0.mk (Kd.C_below HX_q6.out hb)
       have HG_q7 := Aside0.mk (blk_below HG_q6.out hb)
       clear hb
       refine hK.out _ _ (((blk_cell HG_q7.out 0).trans rfl)) (fun hHeld => ?_)
       clear hK K
       refine norm_ (a' := ?_) ?_ ?_
       rotate_left
       ·show Act.put _ (some 117) _ = _
        simp only [Act.put, List.setIfInBounds_toArray, List.set_cons_zero, List.set_cons_succ, i64_w, i32_w]
        rfl
       refine one_ (i := 31) (N := some 122) #[true, true, true, true, true, true, true, true, true, true, true, true, true, true, true, true, true, true, true, true, true, true, true, true, true, true, true, true, true, true, true, true, false, false, false, false, false, false, false, false, false, false, false, false, false, false, false, false] rfl rfl (by kernel_rfl) (by decide) (fun K hK => ?_)
       refine goes_ Try.func20 (by kernel_rfl) rfl #[.agg #[.slice A0_0 l0_0.length c0_0], .slice A1 l1.length c1, .int .i64 a2, .int .i64 a3] (by rfl) rfl rfl (by simp only [List.map_toArray, List.map_cons, List.map_nil]; rfl) ?_
       with_reducible refine (HFAL.out _ HB_q7.out).mono ?_
       rintro e q8 ⟨rfl, hb⟩
       refine ⟨_, rfl, ?_⟩
       have HB_q8 := Aside0.mk (HB_q7.out.trans (hb.mono HB_q7.out.size))
       have HS_q8 := Aside0.mk (HS_q7.out.later hb)
       have HX_q8 := Aside0.mk (Kd.C_below HX_q7.out hb)
       have HG_q8 := Aside0.mk (blk_below HG_q7.out hb)
       clear hb
       refine hK.out _ _ (((blk_cell HG_q8.out 0).trans rfl)) (fun hHeld => ?_)
       clear hK K
       refine norm_ (a' := ?_) ?_ ?_
       rotate_left
       ·show Act.put _ (some 122) _ = _
        simp only [Act.put, List.setIfInBounds_toArray, List.set_cons_zero, List.set_cons_succ, i64_w, i32_w]
        rfl
       refine ws_ 8 #[true, true, true, true, true, true, true, true, true, true, true, true, true, true, true, true, true, true, true, true, true, true, true, true, true, true, true, true, true, true, true, true, true, true, true, true, true, false, true, true, true, false, false, false, false, false, false, false] [(32, false, some 123), (33, false, some 124), (34, false, some 125), (35, false, some 126), (36, false, some 127), (39, false, some 130), (40, false, some 131), (38, true, some 129)] (by kernel_rfl) rfl ?_
       repeat (first | (refine ws_pure (v := ?_) (a' := ?_) rfl rfl (fun _ _ _ h => h) (Or.inl ⟨by rfl, ?_⟩) ?_ ?_; rotate_left; (focus intro w'; go_simp; with_reducible rfl); rotate_left; (focus simp only [Act.put, List.setIfInBounds_toArray, List.set_cons_zero, List.set_cons_succ, i64_w, i32_w]; rfl)) | (refine ws_take (v := ?_) (a' := ?_) rfl rfl (fun _ _ _ h => h) (Or.inl ⟨by rfl, ?_⟩) hHeld ?_ ?_; rotate_left; (focus intro w' s0; go_simp; with_reducible rfl); rotate_left; (focus simp only [Act.put, List.setIfInBounds_toArray, List.set_cons_zero, List.set_cons_succ, i64_w, i32_w]; rfl)))
       refine ws_nil ?_
       refine one_ (i := 37) (N := some 128) #[true, true, true, true, true, true, true, true, true, true, true, true, true, true, true, true, true, true, true, true, true, true, true, true, true, true, true, true, true, true, true, true, true, true, true, true, true, true, true, true, true, false, false, false, false, false, false, false] rfl rfl (by kernel_rfl) (by decide) (fun K hK => ?_)
       refine goes_ Try.func17 (by kernel_rfl) rfl #[.pointer none, .int .i64 a2] (by rfl) rfl rfl (by simp only [List.map_toArray, List.map_cons, List.map_nil]; rfl) ?_
       refine (HPC.out _ none _ HS_q8.out).mono ?_
       rintro e q9 ⟨rfl, hb⟩
       refine ⟨_, rfl, ?_⟩
       have HB_q9 := Aside0.mk (HB_q8.out.trans (hb.mono HB_q8.out.size))
       have HS_q9 := Aside0.mk (HS_q8.out.later hb)
       have HX_q9 := Aside0.mk (Kd.C_below HX_q8.out hb)
       have HG_q9 := Aside0.mk (blk_below HG_q8.out hb)
       clear hb
       refine hK.out _ _ (((blk_cell HG_q9.out 0).trans rfl)) (fun hHeld => ?_)
       clear hK K
       refine norm_ (a' := ?_) ?_ ?_
       rotate_left
       ·show Act.put _ (some 128) _ = _
        simp only [Act.put, List.setIfInBounds_toArray, List.set_cons_zero, List.set_cons_succ, i64_w, i32_w]
        rfl
       refine one_ (i := 41) (N := some 132) #[true, true, true, true, true, true, true, true, true, true, true, true, true, true, true, true, true, true, true, true, true, true, true, true, true, true, true, true, true, true, true, true, true, true, true, true, true, true, true, true, true, true, false, false, false, false, false, false] rfl rfl (by kernel_rfl) (by decide) (fun K hK => ?_)
       refine goes_ Try.func11 (by kernel_rfl) rfl #[.agg #[.slice A0_0 l0_0.length c0_0], .slice A1 l1.length c1, .int .i64 a2] (by rfl) rfl rfl (by simp only [List.map_toArray, List.map_cons, List.map_nil]; rfl) ?_
       with_reducible refine (HCLE.out _ HB_q9.out).mono ?_
       rintro e q10 ⟨rfl, hb⟩
       refine ⟨_, rfl, ?_⟩
       have HB_q10 := Aside0.mk (HB_q9.out.trans (hb.mono HB_q9.out.size))
       have HS_q10 := Aside0.mk (HS_q9.out.later hb)
       have HX_q10 := Aside0.mk (Kd.C_below HX_q9.out hb)
       have HG_q10 := Aside0.mk (blk_below HG_q9.out hb)
       clear hb
       refine hK.out _ _ (((blk_cell HG_q10.out 0).trans rfl)) (fun hHeld => ?_)
       clear hK K
       refine norm_ (a' := ?_) ?_ ?_
       rotate_left
       ·show Act.put _ (some 132) _ = _
        simp only [Act.put, List.setIfInBounds_toArray, List.set_cons_zero, List.set_cons_succ, i64_w, i32_w]
        rfl
       refine ws_ 3 #[true, true, true, true, true, true, true, true, true, true, true, true, true, true, true, true, true, true, true, true, true, true, true, true, true, true, true, true, true, true, true, true, true, true, true, true, true, true, true, true, true, true, true, true, true, false, false, false] [(42, false, some 133), (43, false, some 134), (44, false, some 135)] (by kernel_rfl) rfl ?_
       repeat (first | (refine ws_pure (v := ?_) (a' := ?_) rfl rfl (fun _ _ _ h => h) (Or.inl ⟨by rfl, ?_⟩) ?_ ?_; rotate_left; (focus intro w'; go_simp; with_reducible rfl); rotate_left; (focus simp only [Act.put, List.setIfInBounds_toArray, List.set_cons_zero, List.set_cons_succ, i64_w, i32_w]; rfl)))
       refine ws_nil ?_
       refine one_ (i := 45) (N := some 136) #[true, true, true, true, true, true, true, true, true, true, true, true, true, true, true, true, true, true, true, true, true, true, true, true, true, true, true, true, true, true, true, true, true, true, true, true, true, true, true, true, true, true, true, true, true, true, false, false] rfl rfl (by kernel_rfl) (by decide) (fun K hK => ?_)
       refine goes_ Try.func8 (by kernel_rfl) rfl #[] (by rfl) rfl rfl (by simp only [List.map_toArray, List.map_nil]) ?_
       with_reducible refine (HLV.out _).mono ?_
       rintro e q11 ⟨rfl, hb⟩
       refine ⟨_, rfl, ?_⟩
       have HB_q11 := Aside0.mk (HB_q10.out.trans (hb.mono HB_q10.out.size))
       have HS_q11 := Aside0.mk (HS_q10.out.later hb)
       have HX_q11 := Aside0.mk (Kd.C_below HX_q10.out hb)
       have HG_q11 := Aside0.mk (blk_below HG_q10.out hb)
       have HBL := HB_q11
       clear hb
       refine hK.out _ _ (((blk_cell HG_q11.out 0).trans rfl)) (fun hHeld => ?_)
       clear hK K
       refine norm_ (a' := ?_) ?_ ?_
       rotate_left
       ·show Act.put _ (some 136) _ = _
        simp only [Act.put, List.setIfInBounds_toArray, List.set_cons_zero, List.set_cons_succ, i64_w, i32_w]
        rfl
       refine ws_ 0 #[true, true, true, true, true, true, true, true, true, true, true, true, true, true, true, true, true, true, true, true, true, true, true, true, true, true, true, true, true, true, true, true, true, true, true, true, true, true, true, true, true, true, true, true, true, true, true, true] [(46, false, some 137), (47, false, some 10)] (by kernel_rfl) rfl ?_
       repeat (first | (refine ws_pure (v := ?_) (a' := ?_) rfl rfl (fun _ _ _ h => h) (Or.inl ⟨by rfl, ?_⟩) ?_ ?_; rotate_left; (focus intro w'; go_simp; with_reducible rfl); rotate_left; (focus simp only [Act.put, List.setIfInBounds_toArray, List.set_cons_zero, List.set_cons_succ, i64_w, i32_w]; rfl)))
       refine ws_nil ?_
       refine done_ (by kernel_rfl) ?_
       go_wp2
       go_ret
       exact ⟨rfl, HBL.out⟩
      | succ d =>
       have hlt : i < l1.length := by omega
       obtain ⟨hA7, ho⟩ := HOW.out.resolve_left (by omega)
       subst hA7
       obtain ⟨u0, z0⟩ := ho.cell i 0 hlt (by omega)
       obtain ⟨u1, z1⟩ := ho.cell i 1 hlt (by omega)
       obtain ⟨u2, z2⟩ := ho.cell i 2 hlt (by omega)
       obtain ⟨u3, z3⟩ := ho.cell i 3 hlt (by omega)
       have HO := Aside0.mk ho
       have hadd : (⟨gb, 0, none⟩ : Addr).add (i * 4) = ⟨gb, i * 4, none⟩ := by rw [add_plain]
       have t0 : wr.cell? ⟨gb, i * 4, none⟩ = some u0 := z0
       have f0 : wr.frozen? ⟨gb, i * 4, none⟩ = false := ho.free _
       have f1 : wr.frozen? ⟨gb, i * 4 + 1, none⟩ = false := ho.free _
       have f2 : wr.frozen? ⟨gb, i * 4 + 2, none⟩ = false := ho.free _
       have f3 : wr.frozen? ⟨gb, i * 4 + 3, none⟩ = false := ho.free _
       have hii : (i : Int) < (l1.length : Int) := by omega
       have hi0 : (0 : Int) ≤ i := by omega
       have HI2 := Aside0.mk hi
       have hmx : wrap64 ((i : Int) + 1) = ((i + 1 : Nat) : Int) := by have := HL100.out; unfold wrap64; omega
       have HMX := Aside0.mk hmx
       clear z0 ho hi hlt hmx
       go_upto_region 15 with (fail)
       refine at_letter_ (fun W => Aside0 (KeepE (fun k => k = gb) wr W) ∧ Aside0 (OwnAt W gb l1.length)) ⟨⟨?_⟩, ⟨?_⟩⟩ (fun W ⟨HKW, HOX⟩ => ?_)
       ·exact (((KeepE.put (E := fun k => k = gb) (g := gb) _ rfl _ _).trans (KeepE.put (E := fun k => k = gb) (g := gb) _ rfl _ _)).trans (KeepE.put (E := fun k => k = gb) (g := gb) _ rfl _ _)).trans (KeepE.put (E := fun k => k = gb) (g := gb) _ rfl _ _)
       ·exact (((HO.out.put _ _).put _ _).put _ _).put _ _
       clear t0 z1 z2 z3 f0 f1 f2 f3 hadd
       go_wp2
       go_roundg d
       case measure => omega
       case rel => exact ⟨i + 1, by have := HI2.out; omega, by first | rw [HMX.out] | go_num, ⟨HK.out.trans HKW.out⟩, ⟨.inr ⟨by simp, HOX.out⟩⟩⟩
    ·dsimp only [ptrV]
     go_wp2
     go_loopg [17] l1.length (fun kq v17 w' => ∃ i : Nat, i + kq = l1.length ∧ v17 = .int .i64 i ∧ Aside0 (KeepE (fun k => k = gb) w9 w') ∧ Aside0 (l1.length = 0 ∨ (A7 = some ⟨gb, 0, none⟩ ∧ OwnAt w' gb l1.length)))
     case atStart => exact ⟨0, by omega, rfl, ⟨KeepE.refl _ _⟩, HOW9⟩
     case round =>
      obtain ⟨i, hi, rfl, HK, HOW⟩ := hrel
      cases gk with
      | zero =>
       obtain rfl : i = l1.length := by omega
       have HBW : Aside0 (Below w.heap.size w wr) := ⟨HBw9.out.trans (HK.out.below HBw9.out.size (fun k hk e => by have := HGW.out; omega))⟩
       have HSW := Aside0.mk (SeeP.keep HS9.out HK.out HGU.out HGL.out HB1.out (Kd.C_below HP.out HBW.out))
       have HXW := Aside0.mk (Kd.R_reads' (Kd.R_step (Kd.R_bound HR9.out) (fun k hk hlt => HK.out.block k hlt (fun e => by have h3 := hk.2.1; have h4 := HG98.out; omega)))).2.2
       have HGX := Aside0.mk (HK.out.blk HG9.out (fun e => by have := HGW.out; omega))
       go_upto_region 17 with (fail)
       refine start_ (n := 48) (S := fun w' => w'.cell? ⟨w.heap.size, 0, none⟩ = some (.slice A0_0 l0_0.length c0_0)) (ds := []) #[false, false, false, false, false, false, false, false, false, false, false, false, false, false, false, false, false, false, false, false, false, false, false, false, false, false, false, false, false, false, false, false, false, false, false, false, false, false, false, false, false, false, false, false, false, false, false, false] (by kernel_rfl) rfl rfl (((blk_cell (blk_drew HGX.out) 0).trans rfl)) (fun hHeld => ?_)
       refine ws_ 46 #[true, false, true, false, false, false, false, false, false, false, false, false, false, false, false, false, false, false, false, false, false, false, false, false, false, false, false, false, false, false, false, false, false, false, false, false, false, false, false, false, false, false, false, false, false, false, false, false] [(0, false, some 91), (2, false, some 93)] (by kernel_rfl) rfl ?_
       repeat (first | (refine ws_pure (v := ?_) (a' := ?_) rfl rfl (fun _ _ _ h => h) (Or.inl ⟨by rfl, ?_⟩) ?_ ?_; rotate_left; (focus intro w'; go_simp; with_reducible rfl); rotate_left; (focus simp only [Act.put, List.setIfInBounds_toArray, List.set_cons_zero, List.set_cons_succ, i64_w, i32_w]; rfl)))
       refine ws_nil ?_
       refine one_ (i := 1) (N := some 92) #[true, true, true, false, false, false, false, false, false, false, false, false, false, false, false, false, false, false, false, false, false, false, false, false, false, false, false, false, false, false, false, false, false, false, false, false, false, false, false, false, false, false, false, false, false, false, false, false] rfl rfl (by kernel_rfl) (by decide) (fun K hK => ?_)
       refine goes_ Try.func13 (by kernel_rfl) rfl #[.pointer (some ⟨g, 0, none⟩)] (by rfl) rfl rfl (by simp only [List.map_toArray, List.map_cons, List.map_nil]; rfl) ?_
       refine (HPA.out _ (some g) _ (HSW.out.later (Below.refl _ _).drew)).mono ?_
       rintro e q1 ⟨Aq, cq, rfl, hC, hb⟩
       refine ⟨_, rfl, ?_⟩
       have HB_q1 := Aside0.mk (HBW.out.drew.trans (hb.mono HBW.out.drew.size))
       have HS_q1 := Aside0.mk ((HSW.out.later (Below.refl _ _).drew).later hb)
       have HX_q1 := Aside0.mk (Kd.C_below (Kd.C_below HXW.out (Below.refl _ _).drew) hb)
       have HG_q1 := Aside0.mk (blk_below (blk_drew HGX.out) hb)
       have HCQ := Aside0.mk hC
       clear hC
       clear hb
       refine hK.out _ _ (((blk_cell HG_q1.out 0).trans rfl)) (fun hHeld => ?_)
       clear hK K
       refine norm_ (a' := ?_) ?_ ?_
       rotate_left
       ·show Act.put _ (some 92) _ = _
        simp only [Act.put, List.setIfInBounds_toArray, List.set_cons_zero, List.set_cons_succ, i64_w, i32_w]
        rfl
       refine one_ (i := 3) (N := some 94) #[true, true, true, true, false, false, false, false, false, false, false, false, false, false, false, false, false, false, false, false, false, false, false, false, false, false, false, false, false, false, false, false, false, false, false, false, false, false, false, false, false, false, false, false, false, false, false, false] rfl rfl (by kernel_rfl) (by decide) (fun K hK => ?_)
       refine goes_ Try.func19 (by kernel_rfl) rfl #[.slice Aq SA.length cq, .slice A9 SA.length c9] (by rfl) rfl rfl (by simp only [List.map_toArray, List.map_cons, List.map_nil]; rfl) ?_
       with_reducible refine (is_same Aq cq A9 c9 SA _ HCQ.out HX_q1.out).mono ?_
       rintro e q2 ⟨rfl, hb⟩
       refine ⟨_, rfl, ?_⟩
       have HB_q2 := Aside0.mk (HB_q1.out.trans (hb.mono HB_q1.out.size))
       have HS_q2 := Aside0.mk (HS_q1.out.later hb)
       have HX_q2 := Aside0.mk (Kd.C_below HX_q1.out hb)
       have HG_q2 := Aside0.mk (blk_below HG_q1.out hb)
       clear hb
       refine hK.out _ _ (((blk_cell HG_q2.out 0).trans rfl)) (fun hHeld => ?_)
       clear hK K
       refine norm_ (a' := ?_) ?_ ?_
       rotate_left
       ·show Act.put _ (some 94) _ = _
        simp only [Act.put, List.setIfInBounds_toArray, List.set_cons_zero, List.set_cons_succ, i64_w, i32_w]
        rfl
       refine ws_ 40 #[true, true, true, true, true, true, false, true, true, false, false, false, false, false, false, false, false, false, false, false, false, false, false, false, false, false, false, false, false, false, false, false, false, false, false, false, false, false, false, false, false, false, false, false, false, false, false, false] [(4, false, some 95), (5, false, some 96), (8, false, some 99), (7, true, some 98)] (by kernel_rfl) rfl ?_
       repeat (first | (refine ws_pure (v := ?_) (a' := ?_) rfl rfl (fun _ _ _ h => h) (Or.inl ⟨by rfl, ?_⟩) ?_ ?_; rotate_left; (focus intro w'; go_simp; with_reducible rfl); rotate_left; (focus simp only [Act.put, List.setIfInBounds_toArray, List.set_cons_zero, List.set_cons_succ, i64_w, i32_w]; rfl)) | (refine ws_take (v := ?_) (a' := ?_) rfl rfl (fun _ _ _ h => h) (Or.inl ⟨by rfl, ?_⟩) hHeld ?_ ?_; rotate_left; (focus intro w' s0; go_simp; with_reducible rfl); rotate_left; (focus simp only [Act.put, List.setIfInBounds_toArray, List.set_cons_zero, List.set_cons_succ, i64_w, i32_w]; rfl)))
       refine ws_nil ?_
       refine one_ (i := 6) (N := some 97) #[true, true, true, true, true, true, true, true, true, false, false, false, false, false, false, false, false, false, false, false, false, false, false, false, false, false, false, false, false, false, false, false, false, false, false, false, false, false, false, false, false, false, false, false, false, false, false, false] rfl rfl (by kernel_rfl) (by decide) (fun K hK => ?_)
       refine goes_ Try.func14 (by kernel_rfl) rfl #[.pointer (some ⟨g, 0, none⟩)] (by rfl) rfl rfl (by simp only [List.map_toArray, List.map_cons, List.map_nil]; rfl) ?_
       refine (HPV.out _ (some g) _ HS_q2.out).mono ?_
       rintro e q3 ⟨rfl, hb⟩
       refine ⟨_, rfl, ?_⟩
       have HB_q3 := Aside0.mk (HB_q2.out.trans (hb.mono HB_q2.out.size))
       have HS_q3 := Aside0.mk (HS_q2.out.later hb)
       have HX_q3 := Aside0.mk (Kd.C_below HX_q2.out hb)
       have HG_q3 := Aside0.mk (blk_below HG_q2.out hb)
       clear hb
       refine hK.out _ _ (((blk_cell HG_q3.out 0).trans rfl)) (fun hHeld => ?_)
       clear hK K
       refine norm_ (a' := ?_) ?_ ?_
       rotate_left
       ·show Act.put _ (some 97) _ = _
        simp only [Act.put, List.setIfInBounds_toArray, List.set_cons_zero, List.set_cons_succ, i64_w, i32_w]
        rfl
       refine one_ (i := 9) (N := some 100) #[true, true, true, true, true, true, true, true, true, true, false, false, false, false, false, false, false, false, false, false, false, false, false, false, false, false, false, false, false, false, false, false, false, false, false, false, false, false, false, false, false, false, false, false, false, false, false, false] rfl rfl (by kernel_rfl) (by decide) (fun K hK => ?_)
       refine goes_ Try.func10 (by kernel_rfl) rfl #[.agg #[.slice A0_0 l0_0.length c0_0], .slice A1 l1.length c1] (by rfl) rfl rfl (by simp only [List.map_toArray, List.map_cons, List.map_nil]; rfl) ?_
       with_reducible refine (HVD.out _ HB_q3.out).mono ?_
       rintro e q4 ⟨rfl, hb⟩
       refine ⟨_, rfl, ?_⟩
       have HB_q4 := Aside0.mk (HB_q3.out.trans (hb.mono HB_q3.out.size))
       have HS_q4 := Aside0.mk (HS_q3.out.later hb)
       have HX_q4 := Aside0.mk (Kd.C_below HX_q3.out hb)
       have HG_q4 := Aside0.mk (blk_below HG_q3.out hb)
       clear hb
       refine hK.out _ _ (((blk_cell HG_q4.out 0).trans rfl)) (fun hHeld => ?_)
       clear hK K
       refine norm_ (a' := ?_) ?_ ?_
       rotate_left
       ·show Act.put _ (some 100) _ = _
        simp only [Act.put, List.setIfInBounds_toArray, List.set_cons_zero, List.set_cons_succ, i64_w, i32_w]
        rfl
       refine ws_ 30 #[true, true, true, true, true, true, true, true, true, true, true, true, true, true, true, false, true, true, true, false, false, false, false, false, false, false, false, false, false, false, false, false, false, false, false, false, false, false, false, false, false, false, false, false, false, false, false, false] [(10, false, some 101), (11, false, some 102), (12, false, some 103), (13, false, some 104), (14, false, some 105), (17, false, some 108), (18, false, some 109), (16, true, some 107)] (by kernel_rfl) rfl ?_
       repeat (first | (refine ws_pure (v := ?_) (a' := ?_) rfl rfl (fun _ _ _ h => h) (Or.inl ⟨by rfl, ?_⟩) ?_ ?_; rotate_left; (focus intro w'; go_simp; with_reducible rfl); rotate_left; (focus simp only [Act.put, List.setIfInBounds_toArray, List.set_cons_zero, List.set_cons_succ, i64_w, i32_w]; rfl)) | (refine ws_take (v := ?_) (a' := ?_) rfl rfl (fun _ _ _ h => h) (Or.inl ⟨by rfl, ?_⟩) hHeld ?_ ?_; rotate_left; (focus intro w' s0; go_simp; with_reducible rfl); rotate_left; (focus simp only [Act.put, List.setIfInBounds_toArray, List.set_cons_zero, List.set_cons_succ, i64_w, i32_w]; rfl)))
       refine ws_nil ?_
       refine one_ (i := 15) (N := some 106) #[true, true, true, true, true, true, true, true, true, true, true, true, true, true, true, true, true, true, true, false, false, false, false, false, false, false, false, false, false, false, false, false, false, false, false, false, false, false, false, false, false, false, false, false, false, false, false, false] rfl rfl (by kernel_rfl) (by decide) (fun K hK => ?_)
       refine goes_ Try.func15 (by kernel_rfl) rfl #[.pointer (some ⟨g, 0, none⟩), .int .i64 a2] (by rfl) rfl rfl (by simp only [List.map_toArray, List.map_cons, List.map_nil]; rfl) ?_
       refine (HPT.out _ (some g) _ HS_q4.out).mono ?_
       rintro e q5 ⟨rfl, hb⟩
       refine ⟨_, rfl, ?_⟩
       have HB_q5 := Aside0.mk (HB_q4.out.trans (hb.mono HB_q4.out.size))
       have HS_q5 := Aside0.mk (HS_q4.out.later hb)
       have HX_q5 := Aside0.mk (Kd.C_below HX_q4.out hb)
       have HG_q5 := Aside0.mk (blk_below HG_q4.out hb)
       clear hb
       refine hK.out _ _ (((blk_cell HG_q5.out 0).trans rfl)) (fun hHeld => ?_)
       clear hK K
       refine norm_ (a' := ?_) ?_ ?_
       rotate_left
       ·show Act.put _ (some 106) _ = _
        simp only [Act.put, List.setIfInBounds_toArray, List.set_cons_zero, List.set_cons_succ, i64_w, i32_w]
        rfl
       refine one_ (i := 19) (N := some 110) #[true, true, true, true, true, true, true, true, true, true, true, true, true, true, true, true, true, true, true, true, false, false, false, false, false, false, false, false, false, false, false, false, false, false, false, false, false, false, false, false, false, false, false, false, false, false, false, false] rfl rfl (by kernel_rfl) (by decide) (fun K hK => ?_)
       refine goes_ Try.func12 (by kernel_rfl) rfl #[.agg #[.slice A0_0 l0_0.length c0_0], .slice A1 l1.length c1, .int .i64 a2] (by rfl) rfl rfl (by simp only [List.map_toArray, List.map_cons, List.map_nil]; rfl) ?_
       with_reducible refine (HATT.out _ HB_q5.out).mono ?_
       rintro e q6 ⟨rfl, hb⟩
       refine ⟨_, rfl, ?_⟩
       have HB_q6 := Aside0.mk (HB_q5.out.trans (hb.mono HB_q5.out.size))
       have HS_q6 := Aside0.mk (HS_q5.out.later hb)
       have HX_q6 := Aside0.mk (Kd.C_below HX_q5.out hb)
       have HG_q6 := Aside0.mk (blk_below HG_q5.out hb)
       clear hb
       refine hK.out _ _ (((blk_cell HG_q6.out 0).trans rfl)) (fun hHeld => ?_)
       clear hK K
       refine norm_ (a' := ?_) ?_ ?_
       rotate_left
       ·show Act.put _ (some 110) _ = _
        simp only [Act.put, List.setIfInBounds_toArray, List.set_cons_zero, List.set_cons_succ, i64_w, i32_w]
        rfl
       refine ws_ 18 #[true, true, true, true, true, true, true, true, true, true, true, true, true, true, true, true, true, true, true, true, true, true, true, true, true, true, false, true, true, true, true, false, false, false, false, false, false, false, false, false, false, false, false, false, false, false, false, false] [(20, false, some 111), (21, false, some 112), (22, false, some 113), (23, false, some 114), (24, false, some 115), (25, false, some 116), (28, false, some 119), (29, false, some 120), (30, false, some 121), (27, true, some 118)] (by kernel_rfl) rfl ?_
       repeat (first | (refine ws_pure (v := ?_) (a' := ?_) rfl rfl (fun _ _ _ h => h) (Or.inl ⟨by rfl, ?_⟩) ?_ ?_; rotate_left; (focus intro w'; go_simp; with_reducible rfl); rotate_left; (focus simp only [Act.put, List.setIfInBounds_toArray, List.set_cons_zero, List.set_cons_succ, i64_w, i32_w]; rfl)) | (refine ws_take (v := ?_) (a' := ?_) rfl rfl (fun _ _ _ h => h) (Or.inl ⟨by rfl, ?_⟩) hHeld ?_ ?_; rotate_left; (focus intro w' s0; go_simp; with_reducible rfl); rotate_left; (focus simp only [Act.put, List.setIfInBounds_toArray, List.set_cons_zero, List.set_cons_succ, i64_w, i32_w]; rfl)))
       refine ws_nil ?_
       refine one_ (i := 26) (N := some 117) #[true, true, true, true, true, true, true, true, true, true, true, true, true, true, true, true, true, true, true, true, true, true, true, true, true, true, true, true, true, true, true, false, false, false, false, false, false, false, false, false, false, false, false, false, false, false, false, false] rfl rfl (by kernel_rfl) (by decide) (fun K hK => ?_)
       refine goes_ Try.func16 (by kernel_rfl) rfl #[.pointer (some ⟨g, 0, none⟩), .int .i64 a2, .int .i64 a3] (by rfl) rfl rfl (by simp only [List.map_toArray, List.map_cons, List.map_nil]; rfl) ?_
       refine (HPF.out _ (some g) _ HS_q6.out).mono ?_
       rintro e q7 ⟨rfl, hb⟩
       refine ⟨_, rfl, ?_⟩
       have HB_q7 := Aside0.mk (HB_q6.out.trans (hb.mono HB_q6.out.size))
       have HS_q7 := Aside0.mk (HS_q6.out.later hb)
       have HX_q7 := Aside0.mk (Kd.C_below HX_q6.out hb)
       have HG_q7 := Aside0.mk (blk_below HG_q6.out hb)
       clear hb
       refine hK.out _ _ (((blk_cell HG_q7.out 0).trans rfl)) (fun hHeld => ?_)
       clear hK K
       refine norm_ (a' := ?_) ?_ ?_
       rotate_left
       ·show Act.put _ (some 117) _ = _
        simp only [Act.put, List.setIfInBounds_toArray, List.set_cons_zero, List.set_cons_succ, i64_w, i32_w]
        rfl
       refine one_ (i := 31) (N := some 122) #[true, true, true, true, true, true, true, true, true, true, true, true, true, true, true, true, true, true, true, true, true, true, true, true, true, true, true, true, true, true, true, true, false, false, false, false, false, false, false, false, false, false, false, false, false, false, false, false] rfl rfl (by kernel_rfl) (by decide) (fun K hK => ?_)
       refine goes_ Try.func20 (by kernel_rfl) rfl #[.agg #[.slice A0_0 l0_0.length c0_0], .slice A1 l1.length c1, .int .i64 a2, .int .i64 a3] (by rfl) rfl rfl (by simp only [List.map_toArray, List.map_cons, List.map_nil]; rfl) ?_
       with_reducible refine (HFAL.out _ HB_q7.out).mono ?_
       rintro e q8 ⟨rfl, hb⟩
       refine ⟨_, rfl, ?_⟩
       have HB_q8 := Aside0.mk (HB_q7.out.trans (hb.mono HB_q7.out.size))
       have HS_q8 := Aside0.mk (HS_q7.out.later hb)
       have HX_q8 := Aside0.mk (Kd.C_below HX_q7.out hb)
       have HG_q8 := Aside0.mk (blk_below HG_q7.out hb)
       clear hb
       refine hK.out _ _ (((blk_cell HG_q8.out 0).trans rfl)) (fun hHeld => ?_)
       clear hK K
       refine norm_ (a' := ?_) ?_ ?_
       rotate_left
       ·show Act.put _ (some 122) _ = _
        simp only [Act.put, List.setIfInBounds_toArray, List.set_cons_zero, List.set_cons_succ, i64_w, i32_w]
        rfl
       refine ws_ 8 #[true, true, true, true, true, true, true, true, true, true, true, true, true, true, true, true, true, true, true, true, true, true, true, true, true, true, true, true, true, true, true, true, true, true, true, true, true, false, true, true, true, false, false, false, false, false, false, false] [(32, false, some 123), (33, false, some 124), (34, false, some 125), (35, false, some 126), (36, false, some 127), (39, false, some 130), (40, false, some 131), (38, true, some 129)] (by kernel_rfl) rfl ?_
       repeat (first | (refine ws_pure (v := ?_) (a' := ?_) rfl rfl (fun _ _ _ h => h) (Or.inl ⟨by rfl, ?_⟩) ?_ ?_; rotate_left; (focus intro w'; go_simp; with_reducible rfl); rotate_left; (focus simp only [Act.put, List.setIfInBounds_toArray, List.set_cons_zero, List.set_cons_succ, i64_w, i32_w]; rfl)) | (refine ws_take (v := ?_) (a' := ?_) rfl rfl (fun _ _ _ h => h) (Or.inl ⟨by rfl, ?_⟩) hHeld ?_ ?_; rotate_left; (focus intro w' s0; go_simp; with_reducible rfl); rotate_left; (focus simp only [Act.put, List.setIfInBounds_toArray, List.set_cons_zero, List.set_cons_succ, i64_w, i32_w]; rfl)))
       refine ws_nil ?_
       refine one_ (i := 37) (N := some 128) #[true, true, true, true, true, true, true, true, true, true, true, true, true, true, true, true, true, true, true, true, true, true, true, true, true, true, true, true, true, true, true, true, true, true, true, true, true, true, true, true, true, false, false, false, false, false, false, false] rfl rfl (by kernel_rfl) (by decide) (fun K hK => ?_)
       refine goes_ Try.func17 (by kernel_rfl) rfl #[.pointer (some ⟨g, 0, none⟩), .int .i64 a2] (by rfl) rfl rfl (by simp only [List.map_toArray, List.map_cons, List.map_nil]; rfl) ?_
       refine (HPC.out _ (some g) _ HS_q8.out).mono ?_
       rintro e q9 ⟨rfl, hb⟩
       refine ⟨_, rfl, ?_⟩
       have HB_q9 := Aside0.mk (HB_q8.out.trans (hb.mono HB_q8.out.size))
       have HS_q9 := Aside0.mk (HS_q8.out.later hb)
       have HX_q9 := Aside0.mk (Kd.C_below HX_q8.out hb)
       have HG_q9 := Aside0.mk (blk_below HG_q8.out hb)
       clear hb
       refine hK.out _ _ (((blk_cell HG_q9.out 0).trans rfl)) (fun hHeld => ?_)
       clear hK K
       refine norm_ (a' := ?_) ?_ ?_
       rotate_left
       ·show Act.put _ (some 128) _ = _
        simp only [Act.put, List.setIfInBounds_toArray, List.set_cons_zero, List.set_cons_succ, i64_w, i32_w]
        rfl
       refine one_ (i := 41) (N := some 132) #[true, true, true, true, true, true, true, true, true, true, true, true, true, true, true, true, true, true, true, true, true, true, true, true, true, true, true, true, true, true, true, true, true, true, true, true, true, true, true, true, true, true, false, false, false, false, false, false] rfl rfl (by kernel_rfl) (by decide) (fun K hK => ?_)
       refine goes_ Try.func11 (by kernel_rfl) rfl #[.agg #[.slice A0_0 l0_0.length c0_0], .slice A1 l1.length c1, .int .i64 a2] (by rfl) rfl rfl (by simp only [List.map_toArray, List.map_cons, List.map_nil]; rfl) ?_
       with_reducible refine (HCLE.out _ HB_q9.out).mono ?_
       rintro e q10 ⟨rfl, hb⟩
       refine ⟨_, rfl, ?_⟩
       have HB_q10 := Aside0.mk (HB_q9.out.trans (hb.mono HB_q9.out.size))
       have HS_q10 := Aside0.mk (HS_q9.out.later hb)
       have HX_q10 := Aside0.mk (Kd.C_below HX_q9.out hb)
       have HG_q10 := Aside0.mk (blk_below HG_q9.out hb)
       clear hb
       refine hK.out _ _ (((blk_cell HG_q10.out 0).trans rfl)) (fun hHeld => ?_)
       clear hK K
       refine norm_ (a' := ?_) ?_ ?_
       rotate_left
       ·show Act.put _ (some 132) _ = _
        simp only [Act.put, List.setIfInBounds_toArray, List.set_cons_zero, List.set_cons_succ, i64_w, i32_w]
        rfl
       refine ws_ 3 #[true, true, true, true, true, true, true, true, true, true, true, true, true, true, true, true, true, true, true, true, true, true, true, true, true, true, true, true, true, true, true, true, true, true, true, true, true, true, true, true, true, true, true, true, true, false, false, false] [(42, false, some 133), (43, false, some 134), (44, false, some 135)] (by kernel_rfl) rfl ?_
       repeat (first | (refine ws_pure (v := ?_) (a' := ?_) rfl rfl (fun _ _ _ h => h) (Or.inl ⟨by rfl, ?_⟩) ?_ ?_; rotate_left; (focus intro w'; go_simp; with_reducible rfl); rotate_left; (focus simp only [Act.put, List.setIfInBounds_toArray, List.set_cons_zero, List.set_cons_succ, i64_w, i32_w]; rfl)))
       refine ws_nil ?_
       refine one_ (i := 45) (N := some 136) #[true, true, true, true, true, true, true, true, true, true, true, true, true, true, true, true, true, true, true, true, true, true, true, true, true, true, true, true, true, true, true, true, true, true, true, true, true, true, true, true, true, true, true, true, true, true, false, false] rfl rfl (by kernel_rfl) (by decide) (fun K hK => ?_)
       refine goes_ Try.func8 (by kernel_rfl) rfl #[] (by rfl) rfl rfl (by simp only [List.map_toArray, List.map_nil]) ?_
       with_reducible refine (HLV.out _).mono ?_
       rintro e q11 ⟨rfl, hb⟩
       refine ⟨_, rfl, ?_⟩
       have HB_q11 := Aside0.mk (HB_q10.out.trans (hb.mono HB_q10.out.size))
       have HS_q11 := Aside0.mk (HS_q10.out.later hb)
       have HX_q11 := Aside0.mk (Kd.C_below HX_q10.out hb)
       have HG_q11 := Aside0.mk (blk_below HG_q10.out hb)
       have HBL := HB_q11
       clear hb
       refine hK.out _ _ (((blk_cell HG_q11.out 0).trans rfl)) (fun hHeld => ?_)
       clear hK K
       refine norm_ (a' := ?_) ?_ ?_
       rotate_left
       ·show Act.put _ (some 136) _ = _
        simp only [Act.put, List.setIfInBounds_toArray, List.set_cons_zero, List.set_cons_succ, i64_w, i32_w]
        rfl
       refine ws_ 0 #[true, true, true, true, true, true, true, true, true, true, true, true, true, true, true, true, true, true, true, true, true, true, true, true, true, true, true, true, true, true, true, true, true, true, true, true, true, true, true, true, true, true, true, true, true, true, true, true] [(46, false, some 137), (47, false, some 10)] (by kernel_rfl) rfl ?_
       repeat (first | (refine ws_pure (v := ?_) (a' := ?_) rfl rfl (fun _ _ _ h => h) (Or.inl ⟨by rfl, ?_⟩) ?_ ?_; rotate_left; (focus intro w'; go_simp; with_reducible rfl); rotate_left; (focus simp only [Act.put, List.setIfInBounds_toArray, List.set_cons_zero, List.set_cons_succ, i64_w, i32_w]; rfl)))
       refine ws_nil ?_
       refine done_ (by kernel_rfl) ?_
       go_wp2
       go_ret
       exact ⟨rfl, HBL.out⟩
      | succ d =>
       have hlt : i < l1.length := by omega
       obtain ⟨hA7, ho⟩ := HOW.out.resolve_left (by omega)
       subst hA7
       obtain ⟨u0, z0⟩ := ho.cell i 0 hlt (by omega)
       obtain ⟨u1, z1⟩ := ho.cell i 1 hlt (by omega)
       obtain ⟨u2, z2⟩ := ho.cell i 2 hlt (by omega)
       obtain ⟨u3, z3⟩ := ho.cell i 3 hlt (by omega)
       have HO := Aside0.mk ho
       have hadd : (⟨gb, 0, none⟩ : Addr).add (i * 4) = ⟨gb, i * 4, none⟩ := by rw [add_plain]
       have t0 : wr.cell? ⟨gb, i * 4, none⟩ = some u0 := z0
       have f0 : wr.frozen? ⟨gb, i * 4, none⟩ = false := ho.free _
       have f1 : wr.frozen? ⟨gb, i * 4 + 1, none⟩ = false := ho.free _
       have f2 : wr.frozen? ⟨gb, i * 4 + 2, none⟩ = false := ho.free _
       have f3 : wr.frozen? ⟨gb, i * 4 + 3, none⟩ = false := ho.free _
       have hii : (i : Int) < (l1.length : Int) := by omega
       have hi0 : (0 : Int) ≤ i := by omega
       have HI2 := Aside0.mk hi
       have hmx : wrap64 ((i : Int) + 1) = ((i + 1 : Nat) : Int) := by have := HL100.out; unfold wrap64; omega
       have HMX := Aside0.mk hmx
       clear z0 ho hi hlt hmx
       go_upto_region 15 with (fail)
       refine at_letter_ (fun W => Aside0 (KeepE (fun k => k = gb) wr W) ∧ Aside0 (OwnAt W gb l1.length)) ⟨⟨?_⟩, ⟨?_⟩⟩ (fun W ⟨HKW, HOX⟩ => ?_)
       ·exact (((KeepE.put (E := fun k => k = gb) (g := gb) _ rfl _ _).trans (KeepE.put (E := fun k => k = gb) (g := gb) _ rfl _ _)).trans (KeepE.put (E := fun k => k = gb) (g := gb) _ rfl _ _)).trans (KeepE.put (E := fun k => k = gb) (g := gb) _ rfl _ _)
       ·exact (((HO.out.put _ _).put _ _).put _ _).put _ _
       clear t0 z1 z2 z3 f0 f1 f2 f3 hadd
       go_wp2
       go_roundg d
       case measure => omega
       case rel => exact ⟨i + 1, by have := HI2.out; omega, by first | rw [HMX.out] | go_num, ⟨HK.out.trans HKW.out⟩, ⟨.inr ⟨by simp, HOX.out⟩⟩⟩
end Go.Proofs.Ytihpndignekheaa.F
end

section
namespace Go.Proofs.Ytihpndignekheaa.F
open Go.RowKit Go.Proofs.YtihpndignekheaaW.PrintWords Go.Proofs.YtihpndignekheaaW.PrintLast Go.Proofs.YtihpndignekheaaW.PrintMore
open Go.RowKit Go.Deep
section
variable {α β : Type}
structure Opens (P : Program) (t : TypeId) (d : Kd α) (V : α → Prop) : Prop where
 out : ∀ {H : Type} (enc : TypeId × Value → H) (w : World) (base : Nat) (spare : Nat → Bool) (held : Bool) (fuel : Nat) (cs : List Value) (r : DataW H × List MemPlace),
  DataW.trod enc P w base spare held fuel t cs = some r → ∃ x, d.K w x cs ∧ V x
theorem opens_int {P : Program} {t : TypeId} {k : IntKind} (ht : P.underlying t = some (.int k)) : Opens P t (Kd.int k) (fun n => (Lit.int k n).wf = true) := by
 constructor
 intro H enc w base spare held fuel cs r h
 obtain ⟨x, rfl, _, hw⟩ := DataW.trod_int ht h
 exact ⟨x, rfl, hw⟩
theorem opens_bool {P : Program} {t : TypeId} (ht : P.underlying t = some .bool) : Opens P t Kd.bool (fun _ => True) := by
 constructor
 intro H enc w base spare held fuel cs r h
 obtain ⟨x, rfl, _⟩ := DataW.trod_bool ht h
 exact ⟨x, rfl, trivial⟩
theorem opens_string {P : Program} {t : TypeId} (ht : P.underlying t = some .string) : Opens P t Kd.string (fun s => s.size ≤ maxLen) := by
 constructor
 intro H enc w base spare held fuel cs r h
 obtain ⟨x, rfl, _, hm⟩ := DataW.trod_string ht h
 exact ⟨x, rfl, hm⟩
theorem opens_iso {P : Program} {t : TypeId} {d : Kd α} {V : α → Prop} (f : β → α) (g : α → β) (hg : ∀ y, f (g y) = y) (h : Opens P t d V) : Opens P t (Kd.iso d f) (fun x => V (f x)) := by
 constructor
 intro H enc w base spare held fuel cs r hr
 obtain ⟨x, hk, hv⟩ := h.out enc w base spare held fuel cs r hr
 exact ⟨g x, by show d.K w (f (g x)) cs; rw [hg]; exact hk, by show V (f (g x)); rw [hg]; exact hv⟩
theorem add_add_ (a : Addr) (i j : Nat) : (a.add i).add j = a.add (i + j) := by
 unfold Addr.add
 by_cases hi : i = 0 <;> by_cases hj : j = 0 <;> simp [hi, hj, Nat.add_assoc]
theorem opens_slice {P : Program} {t e : TypeId} {d : Kd α} {V : α → Prop} (z : α) (ht : P.underlying t = some (.slice e)) (hc : P.cellsOf e = d.sz) (h : Opens P e d V) :
  Opens P t (Kd.slice e d) (fun xs => xs.length ≤ maxLen ∧ ∀ x ∈ xs, V x) := by
 constructor
 intro H enc w base spare held fuel cs r hr
 haveI : Inhabited α := ⟨z⟩
 rcases open_slice ht hr with ⟨rfl, _⟩ | ⟨a, len, cap, m, n, D, Pl, rfl, hb, hl, hm, hmm, _, hx⟩
 ·exact ⟨[], ⟨none, 0, rfl, Nat.le_refl _, Kd.C_nil d w⟩, Nat.zero_le _, fun x hx => by cases hx⟩
 ·have hlm : len ≤ m := by rw [hmm]; split <;> omega
  obtain ⟨f, hf⟩ := choose_lt (n := len) (p := fun i x => ∃ c, c.length = d.sz ∧ d.K w x c ∧ V x ∧ ∀ j u, c[j]? = some u → w.cell? (a.add (i * d.sz + j)) = some u) (fun i hi => by
   obtain ⟨cs', h1, h2⟩ := hx i (by omega)
   obtain ⟨x, hk, hv⟩ := h.out enc w base spare held n cs' _ h2
   obtain ⟨_, hl', hcell⟩ := World.cells?_some h1
   rw [hc] at hl' hcell
   refine ⟨x, cs', hl', hk, hv, fun j u hu => ?_⟩
   have hj : j < d.sz := by
    rcases Nat.lt_or_ge j d.sz with hj | hj
    ·exact hj
    ·rw [List.getElem?_eq_none (by omega)] at hu; cases hu
   have := hcell j hj
   rw [add_add_] at this
   rw [this, hu])
  have hlen : ((List.range len).map f).length = len := by simp
  refine ⟨(List.range len).map f, ⟨some a, cap, by rw [hlen], by rw [hlen]; exact hl, ?_⟩, by rw [hlen]; omega, ?_⟩
  ·rw [hlen]
   refine ⟨hlen, ?_, fun _ => ⟨a, rfl, fun j p hp => ?_⟩⟩
   ·unfold maxLen at hm; omega
   ·have hj : j < len := by
     have := (List.getElem?_eq_some_iff.1 hp).1
     rwa [hlen] at this
    have hpe : f j = p := by
     rw [List.getElem?_map, List.getElem?_range hj] at hp
     exact Option.some.inj hp
    obtain ⟨c, h1, h2, _, h4⟩ := hf j hj
    rw [hpe] at h2
    exact ⟨c, h1, h2, h4⟩
  ·intro x hx
   obtain ⟨j, hj, rfl⟩ := List.mem_map.1 hx
   obtain ⟨c, _, _, h3, _⟩ := hf j (List.mem_range.1 hj)
   exact h3
structure OpensF (P : Program) (fs : List Field) (off : Nat) (d : Kd α) (V : α → Prop) : Prop where
 out : ∀ {H : Type} (enc : TypeId × Value → H) (w : World) (base : Nat) (spare : Nat → Bool) (held : Bool) (fuel : Nat) (cs : List Value),
  cs.length = off + d.sz → (∀ f ∈ fs, ∃ r, DataW.trod enc P w base spare held fuel f.type ((cs.drop f.offset).take (P.cellsOf f.type)) = some r) → ∃ x, d.K w x (cs.drop off) ∧ V x
theorem opensF_one {P : Program} {f : Field} {off : Nat} {d : Kd α} {V : α → Prop} (ho : f.offset = off) (hc : P.cellsOf f.type = d.sz) (h : Opens P f.type d V) : OpensF P [f] off d V := by
 constructor
 intro H enc w base spare held fuel cs hl hr
 obtain ⟨r, hr⟩ := hr f (List.mem_singleton.2 rfl)
 rw [ho, hc, List.take_of_length_le (by rw [List.length_drop]; omega)] at hr
 exact h.out enc w base spare held fuel _ r hr
theorem opensF_cons {P : Program} {f : Field} {fs : List Field} {off : Nat} {d : Kd α} {d' : Kd β} {V : α → Prop} {V' : β → Prop} (ho : f.offset = off) (hc : P.cellsOf f.type = d.sz) (h : Opens P f.type d V) (h' : OpensF P fs (off + d.sz) d' V') :
  OpensF P (f :: fs) off (Kd.pair d d') (fun x => V x.1 ∧ V' x.2) := by
 constructor
 intro H enc w base spare held fuel cs hl hr
 have hl' : cs.length = off + (d.sz + d'.sz) := hl
 obtain ⟨r, hr1⟩ := hr f (List.mem_cons_self ..)
 rw [ho, hc] at hr1
 obtain ⟨x, hk, hv⟩ := h.out enc w base spare held fuel _ r hr1
 obtain ⟨y, hk', hv'⟩ := h'.out enc w base spare held fuel cs (by omega) (fun g hg => hr g (List.mem_cons_of_mem _ hg))
 refine ⟨(x, y), ⟨(cs.drop off).take d.sz, cs.drop (off + d.sz), ?_, hk, hk'⟩, hv, hv'⟩
 rw [← List.drop_drop, List.take_append_drop]
theorem opens_struct {P : Program} {t : TypeId} {fs : Array Field} {d : Kd α} {V : α → Prop} (ht : P.underlying t = some (.struct fs)) (hc : P.cellsOf t = d.sz) (h : OpensF P fs.toList 0 d V) : Opens P t d V := by
 constructor
 intro H enc w base spare held fuel cs r hr
 obtain ⟨xs, n, _, _, hl, hxl, hx⟩ := DataW.trod_struct ht hr
 obtain ⟨x, hk, hv⟩ := h.out enc w base spare held n cs (by omega) (fun f hf => by
  obtain ⟨i, hi, rfl⟩ := List.mem_iff_getElem.1 hf
  have hi' : i < fs.size := by simpa using hi
  have := hx i fs[i] (by simp [hi'])
  rw [List.getElem?_eq_getElem (by omega)] at this
  exact ⟨_, by simpa using this⟩)
 rw [List.drop_zero] at hk
 exact ⟨x, hk, hv⟩
end
end Go.Proofs.Ytihpndignekheaa.F
end
