/- More crashes, more workers, and a longer text never need less, and a plan's ticks are at least its events and eleven times its steps: for every plan, every two numbers of crashes in order, 1 to 63 workers and texts of at most 40000 bytes. -/
import Derived.Test.YtgilgicanggleaaZBoundGrows4
import Derived.Test.YtgilgicanggleaaRows
import Derived.WalkKit
import Derived.ProofKit
import Derived.OpenShut
import Derived.ShutString
import Derived.ChangeOld
import Derived.Below
import Derived.Deep.DeepHandedRow
import Derived.Lib.LaidTab
section
namespace Go.Proofs.Ytgilgicanggleaa.Pure
set_option linter.unusedVariables false
open Go.RowKit Go.Proofs.Ytgilgicanggleaa.F Go.Proofs.YtgilgicanggleaaW.PrintWords Go.Proofs.YtgilgicanggleaaW.PrintLast
theorem small_ev (l : List S40) (d : Nat) : ∀ i : Nat, i + d = 70 → ∃ b, Ev (fun k => argosylaw25_small.l0 k (i : Int) l) b ∧ (b = true → l.length ≤ 70 ∧ ∀ j (h : j < l.length), i ≤ j → l[j].f7.length ≤ 100) := by
 induction d with
 | zero =>
  intro i hi
  refine ⟨decide ((l.length : Int) ≤ 70), ⟨2, fun k hk => ?_⟩, fun h => ?_⟩
  ·obtain ⟨k, rfl⟩ : ∃ m, k = m + 2 := ⟨k - 2, by omega⟩
   simp only [argosylaw25_small.l0, argosylaw25_small.j1]
   rw [decide_eq_false (by omega : ¬ (i : Int) < 70)]
   simp
  ·have := of_decide_eq_true h
   exact ⟨by omega, fun j h1 h2 => by omega⟩
 | succ d ih =>
  intro i hi
  by_cases hl : i < l.length
  ·obtain ⟨b, ⟨K, hK⟩, hb⟩ := ih (i + 1) (by omega)
   have hrd : rd_T40 l (i : Int) = l[i] := by unfold rd_T40; rw [Int.toNat_natCast, List.getD_eq_getElem?_getD, List.getElem?_eq_getElem hl]; rfl
   by_cases h1 : ((l[i].f0).size : Int) > 200 ∨ ((l[i].f1).size : Int) > 200 ∨ ((l[i].f7).length : Int) > 100
   ·refine ⟨false, ⟨2, fun k hk => ?_⟩, fun h => by cases h⟩
    obtain ⟨k, rfl⟩ : ∃ m, k = m + 2 := ⟨k - 2, by omega⟩
    simp only [argosylaw25_small.l0, argosylaw25_small.j1]
    rw [if_pos (by omega), decide_eq_true (by omega : (i : Int) < 70), if_pos rfl, if_pos (by omega), if_pos (by omega), hrd]
    by_cases h2 : ((l[i].f0).size : Int) > 200
    ·rw [if_pos h2]
    ·rw [if_neg h2]
     by_cases h3 : ((l[i].f1).size : Int) > 200
     ·rw [if_pos h3]
     ·rw [if_neg h3, if_pos (by omega)]
   ·refine ⟨b, ⟨K + 2, fun k hk => ?_⟩, fun h => ⟨(hb h).1, fun j h2 h3 => ?_⟩⟩
    ·obtain ⟨k, rfl⟩ : ∃ m, k = m + 2 := ⟨k - 2, by omega⟩
     simp only [argosylaw25_small.l0, argosylaw25_small.j1]
     rw [if_pos (by omega), decide_eq_true (by omega : (i : Int) < 70), if_pos rfl, if_pos (by omega), if_pos (by omega), hrd, if_neg (by omega), if_neg (by omega), if_neg (by omega), show wrap64 ((i : Int) + 1) = ((i + 1 : Nat) : Int) by unfold wrap64; omega]
     exact hK k (by omega)
    ·by_cases hj : j = i
     ·subst hj; omega
     ·exact (hb h).2 j h2 (by omega)
  ·refine ⟨decide ((l.length : Int) ≤ 70), ⟨2, fun k hk => ?_⟩, fun h => ?_⟩
   ·obtain ⟨k, rfl⟩ : ∃ m, k = m + 2 := ⟨k - 2, by omega⟩
    simp only [argosylaw25_small.l0, argosylaw25_small.j1]
    rw [if_neg (by omega)]
    simp
   ·have := of_decide_eq_true h
    exact ⟨by omega, fun j h1 h2 => by omega⟩
set_option maxRecDepth 100000 in
theorem lives_ok : argosylaw25_lives.f = some true := by decide +kernel
theorem steps_le : ∀ (l : List S40) (i : Nat), (stepsOf i l).length ≤ l.length
 | [], _ => by simp [stepsOf]
 | x :: l, i => by
  have := steps_le l (i + 1)
  unfold stepsOf
  split <;> simp only [List.length_cons] <;> omega
theorem w64 (x : Int) (h : -9223372036854775808 ≤ x) (h2 : x ≤ 9223372036854775807) : wrap64 x = x := by unfold wrap64; omega
theorem ticks_val (a : Int) (n : Nat) (ha : mayT a = true) (hn : n ≤ 70) : ticksI a n = 11 * (n : Int) * (a + 1) ∧ 0 ≤ a ∧ a ≤ 1048576 := by
 unfold mayT at ha
 simp only [Bool.and_eq_true, decide_eq_true_eq] at ha
 refine ⟨?_, ha.1, ha.2⟩
 unfold ticksI
 rw [w64 (11 * (n : Int)) (by omega) (by omega), w64 (a + 1) (by omega) (by omega)]
 have h1 : 0 ≤ 11 * (n : Int) * (a + 1) := Int.mul_nonneg (by omega) (by omega)
 have h2 : 11 * (n : Int) * (a + 1) ≤ 770 * 1048577 := Int.mul_le_mul (by omega) (by omega) (by omega) (by omega)
 exact w64 _ (by omega) (by omega)
theorem room_val (L : Nat) (n : Int) (k : Nat) (h : mayR L n = true) (hk : k ≤ 70) : roomI L n k = (L : Int) + 6 * (((L : Int) + 999) / 1000 + 1) + 10 * (k : Int) * (10 + 2 * n) ∧ 1 ≤ n ∧ n ≤ 64 ∧ L ≤ 65536 := by
 unfold mayR at h
 simp only [Bool.and_eq_true, decide_eq_true_eq] at h
 refine ⟨?_, by omega, by omega, by omega⟩
 unfold roomI framesI
 rw [w64 ((L : Int) + 1000) (by omega) (by omega), w64 ((L : Int) + 1000 - 1) (by omega) (by omega), Int.tdiv_eq_ediv_of_nonneg (by omega)]
 rw [show (L : Int) + 1000 - 1 = (L : Int) + 999 by omega]
 have hd : 0 ≤ ((L : Int) + 999) / 1000 ∧ ((L : Int) + 999) / 1000 ≤ 1000 := by omega
 rw [w64 (((L : Int) + 999) / 1000) (by omega) (by omega), w64 (((L : Int) + 999) / 1000 + 1) (by omega) (by omega), w64 (6 * (((L : Int) + 999) / 1000 + 1)) (by omega) (by omega), w64 (10 * (k : Int)) (by omega) (by omega), w64 (2 * n) (by omega) (by omega), w64 (10 + 2 * n) (by omega) (by omega)]
 have h1 : 0 ≤ 10 * (k : Int) * (10 + 2 * n) := Int.mul_nonneg (by omega) (by omega)
 have h2 : 10 * (k : Int) * (10 + 2 * n) ≤ 700 * 138 := Int.mul_le_mul (by omega) (by omega) (by omega) (by omega)
 rw [w64 (10 * (k : Int) * (10 + 2 * n)) (by omega) (by omega), w64 ((L : Int) + 6 * (((L : Int) + 999) / 1000 + 1)) (by omega) (by omega)]
 exact w64 _ (by omega) (by omega)
theorem j1_ok (k : Nat) (l : List S40) (r : Bool) (a : Int) (hr : plan_Right.f l = some r) (hn : l.length ≤ 70) :
  argosylaw25_BoundGrows.j1 (k + 1) (if mayT a && r then (ticksI a (stepsOf 0 l).length, (0 : Int)) else (0, 2)).1 (if mayT a && r then (ticksI a (stepsOf 0 l).length, (0 : Int)) else (0, 2)).2 false l = some true := by
 have hs : (stepsOf 0 l).length ≤ 70 := Nat.le_trans (steps_le l 0) hn
 simp only [argosylaw25_BoundGrows.j1]
 rw [if_neg (by simp)]
 cases hc : (mayT a && r) with
 | false => simp [lives_ok]
 | true =>
  rw [Bool.and_eq_true] at hc
  obtain ⟨h1, h2, h3⟩ := ticks_val a (stepsOf 0 l).length hc.1 hs
  have hb : bound_Steps.f l = some ((stepsOf 0 l).length : Int) := by
   unfold bound_Steps.f
   rw [hr, hc.2]; rfl
  have he : bound_Events.f l = some (10 * ((stepsOf 0 l).length : Int)) := by
   unfold bound_Events.f
   rw [hb]
   simp only [Option.bind_some]
   rw [w64 _ (by omega) (by omega)]
  have h4 : 11 * ((stepsOf 0 l).length : Int) * 1 ≤ 11 * ((stepsOf 0 l).length : Int) * (a + 1) := Int.mul_le_mul_of_nonneg_left (by omega) (by omega)
  rw [he, hb]
  simp only [↓reduceIte, Option.bind_some, h1]
  rw [if_pos (by omega), w64 (11 * ((stepsOf 0 l).length : Int)) (by omega) (by omega), if_pos (by omega), lives_ok]
  rfl
theorem j0_true (k : Nat) (a b c : Int) (x y : ByteArray) (l : List S40) : argosylaw25_BoundGrows.j0 (k + 1) a b c x y true l = some true := by
 simp only [argosylaw25_BoundGrows.j0, ↓reduceIte, lives_ok]
 rfl
theorem ticks_two (a b : Int) (n : Nat) (r : Bool) (hn : n ≤ 70) (hab : a ≤ b) : (if mayT a && r then (ticksI a n, (0 : Int)) else (0, 2)).2 = 0 → (if mayT b && r then (ticksI b n, (0 : Int)) else (0, 2)).2 = 0 → ¬ (if mayT a && r then (ticksI a n, (0 : Int)) else (0, 2)).1 > (if mayT b && r then (ticksI b n, (0 : Int)) else (0, 2)).1 := by
 intro e1 e2
 cases h3 : (mayT a && r) with
 | false => rw [h3] at e1; simp at e1
 | true =>
  cases h4 : (mayT b && r) with
  | false => rw [h4] at e2; simp at e2
  | true =>
   rw [Bool.and_eq_true] at h3 h4
   obtain ⟨v1, v2, v3⟩ := ticks_val a n h3.1 hn
   obtain ⟨u1, u2, u3⟩ := ticks_val b n h4.1 hn
   simp only [↓reduceIte, v1, u1]
   have := Int.mul_le_mul_of_nonneg_left (show a + 1 ≤ b + 1 by omega) (show 0 ≤ 11 * (n : Int) by omega)
   omega
theorem rooms_two (L M : Nat) (c : Int) (n : Nat) (r : Bool) (hn : n ≤ 70) (hL : L ≤ M) : (if mayR L c && r then (roomI L c n, (0 : Int)) else (0, 2)).2 = 0 → (if mayR M (c + 1) && r then (roomI M (c + 1) n, (0 : Int)) else (0, 2)).2 = 0 → decide ((if mayR L c && r then (roomI L c n, (0 : Int)) else (0, 2)).1 > (if mayR M (c + 1) && r then (roomI M (c + 1) n, (0 : Int)) else (0, 2)).1) = false := by
 intro e1 e2
 rw [decide_eq_false_iff_not]
 cases h3 : (mayR L c && r) with
 | false => rw [h3] at e1; simp at e1
 | true =>
  cases h4 : (mayR M (c + 1) && r) with
  | false => rw [h4] at e2; simp at e2
  | true =>
   rw [Bool.and_eq_true] at h3 h4
   obtain ⟨v1, v2, v3, v4⟩ := room_val L c n h3.1 hn
   obtain ⟨u1, u2, u3, u4⟩ := room_val M (c + 1) n h4.1 hn
   simp only [↓reduceIte, v1, u1]
   have := Int.mul_le_mul_of_nonneg_left (show 10 + 2 * c ≤ 10 + 2 * (c + 1) by omega) (show 0 ≤ 10 * (n : Int) by omega)
   have h5 : ((L : Int) + 999) / 1000 ≤ ((M : Int) + 999) / 1000 := Int.ediv_le_ediv (by omega) (by omega)
   omega
theorem j0_false (k : Nat) (a b c : Int) (x y : ByteArray) (l : List S40) (r : Bool) (hr : plan_Right.f l = some r) (hn : l.length ≤ 70) (hab : a ≤ b) (hc : 1 ≤ c) (hc2 : c ≤ 63) (hx : x.size ≤ 40000) (hy : y.size ≤ 40000) :
  argosylaw25_BoundGrows.j0 (k + 2) a b c x y false l = some true := by
 have hs : (stepsOf 0 l).length ≤ 70 := Nat.le_trans (steps_le l 0) hn
 have hT : ∀ q, bound_Ticks.f l q = some (if mayT q && r then (ticksI q (stepsOf 0 l).length, 0) else (0, 2)) := fun q => by unfold bound_Ticks.f; rw [hr]; rfl
 have hR : ∀ q m, bound_Room.f l q m = some (if mayR q.size m && r then (roomI q.size m (stepsOf 0 l).length, 0) else (0, 2)) := fun q m => by unfold bound_Room.f; rw [hr]; rfl
 have hj := j1_ok k l r a hr hn
 simp only [argosylaw25_BoundGrows.j0]
 rw [if_neg (by simp), hT a, hT b, hR x c, w64 (c + 1) (by omega) (by omega), hR (x ++ y) (c + 1)]
 have hsz : (x ++ y).size = x.size + y.size := ByteArray.size_append
 have h1 := ticks_two a b (stepsOf 0 l).length r hs hab
 have h2 := rooms_two x.size (x ++ y).size c (stepsOf 0 l).length r hs (by rw [hsz]; omega)
 revert h1 h2 hj
 generalize (if mayT a && r then (ticksI a (stepsOf 0 l).length, (0 : Int)) else (0, 2)) = P
 generalize (if mayT b && r then (ticksI b (stepsOf 0 l).length, (0 : Int)) else (0, 2)) = Q
 generalize (if mayR x.size c && r then (roomI x.size c (stepsOf 0 l).length, (0 : Int)) else (0, 2)) = U
 generalize (if mayR (x ++ y).size (c + 1) && r then (roomI (x ++ y).size (c + 1) (stepsOf 0 l).length, (0 : Int)) else (0, 2)) = V
 intro hj h1 h2
 simp only [Option.bind_some]
 rw [if_pos (by omega)]
 have hrest : (if U.2 = 0 then (if V.2 = 0 then argosylaw25_BoundGrows.j1 (k + 1) P.1 P.2 (decide (U.1 > V.1)) l else argosylaw25_BoundGrows.j1 (k + 1) P.1 P.2 false l) else argosylaw25_BoundGrows.j1 (k + 1) P.1 P.2 false l) = some true := by
  by_cases hU : U.2 = 0
  ·rw [if_pos hU]
   by_cases hV : V.2 = 0
   ·rw [if_pos hV, h2 hU hV]; exact hj
   ·rw [if_neg hV]; exact hj
  ·rw [if_neg hU]; exact hj
 by_cases hP : P.2 = 0
 ·rw [if_pos hP]
  by_cases hQ : Q.2 = 0
  ·rw [if_pos hQ, if_neg (h1 hP hQ)]; exact hrest
  ·rw [if_neg hQ]; exact hrest
 ·rw [if_neg hP]; exact hrest
theorem BoundGrows : ∀ (x0 : S24) (x1 : Int) (x2 : Int) (x3 : Int) (x4 : ByteArray) (x5 : ByteArray), ((x0.f0.length ≤ maxLen ∧ ∀ y ∈ x0.f0, (y.f0.size ≤ maxLen) ∧ (y.f1.size ≤ maxLen) ∧ (True) ∧ (True) ∧ ((Lit.int .i64 y.f4).wf = true) ∧ ((Lit.int .i64 y.f5).wf = true) ∧ ((Lit.int .i64 y.f6).wf = true) ∧ (y.f7.length ≤ maxLen ∧ ∀ z ∈ y.f7, (Lit.int .i64 z).wf = true))) → ((Lit.int .i64 x1).wf = true) → ((Lit.int .i64 x2).wf = true) → ((Lit.int .i64 x3).wf = true) → (x4.size ≤ maxLen) → (x5.size ≤ maxLen) → ∃ k, argosylaw25_BoundGrows.f k x0.f0 x1 x2 x3 x4 x5 = some true := by
 intro x0 x1 x2 x3 x4 x5 h0 h1 h2 h3 h4 h5
 obtain ⟨b, ⟨K, hK⟩, hb⟩ := small_ev x0.f0 70 0 (by omega)
 refine ⟨K + 2, ?_⟩
 have hs : argosylaw25_small.f (K + 2) x0.f0 = some b := hK (K + 2) (by omega)
 unfold argosylaw25_BoundGrows.f
 rw [hs]
 simp only [Option.bind_some]
 cases b with
 | false => rw [if_neg (by simp)]; exact j0_true _ _ _ _ _ _ _
 | true =>
  obtain ⟨hl, hf⟩ := hb rfl
  rw [if_pos rfl]
  by_cases e1 : (x4.size : Int) > 40000
  ·rw [if_pos e1]; exact j0_true _ _ _ _ _ _ _
  ·rw [if_neg e1]
   by_cases e2 : (x5.size : Int) > 40000
   ·rw [if_pos e2]; exact j0_true _ _ _ _ _ _ _
   ·rw [if_neg e2]
    by_cases e3 : x1 > x2
    ·rw [if_pos e3]; exact j0_true _ _ _ _ _ _ _
    ·rw [if_neg e3]
     by_cases e4 : x3 < 1
     ·rw [if_pos e4]; exact j0_true _ _ _ _ _ _ _
     ·rw [if_neg e4]
      by_cases e5 : x3 > 63
      ·rw [decide_eq_true e5]; exact j0_true _ _ _ _ _ _ _
      ·rw [decide_eq_false e5]
       have hr : plan_Right.f x0.f0 = some (rightB x0.f0) := by
        unfold plan_Right.f
        rw [if_pos]
        rw [List.all_eq_true]
        intro y hy
        obtain ⟨j, hj, rfl⟩ := List.getElem_of_mem hy
        have := hf j hj (by omega)
        simp only [decide_eq_true_eq]
        omega
       exact j0_false K _ _ _ _ _ _ _ hr hl (by omega) (by omega) (by omega) (by omega) (by omega)
end Go.Proofs.Ytgilgicanggleaa.Pure
end

section
namespace Go.Proofs.Ytgilgicanggleaa.boundGrows
open Go.ChangeShapes Go.WideShapes Go.ChangeAt Go.RowKit Go.Proofs.Ytgilgicanggleaa.F Go.Proofs.YtgilgicanggleaaW.PrintWords
open Go.ChangeMaps (open_string shut_string)
set_option linter.unusedVariables false
theorem own : ownKnob Try.prog.godebug = none := by kernel_rfl
theorem laidOut : laidOutB Try.prog = true := by kernel_rfl
theorem opens40 : Opens Try.prog 40 k40 (fun x => (x.f0.size ≤ maxLen) ∧ (x.f1.size ≤ maxLen) ∧ (True) ∧ (True) ∧ ((Lit.int .i64 x.f4).wf = true) ∧ ((Lit.int .i64 x.f5).wf = true) ∧ ((Lit.int .i64 x.f6).wf = true) ∧ (x.f7.length ≤ maxLen ∧ ∀ y ∈ x.f7, (Lit.int .i64 y).wf = true)) := by
 have h := opens_struct Try.underlying40 (by kernel_rfl) (opensF_cons rfl (by kernel_rfl) (opens_string Try.underlying9) (opensF_cons rfl (by kernel_rfl) (opens_string Try.underlying9) (opensF_cons rfl (by kernel_rfl) (opens_bool Try.underlying4) (opensF_cons rfl (by kernel_rfl) (opens_bool Try.underlying4) (opensF_cons rfl (by kernel_rfl) (opens_int Try.underlying3) (opensF_cons rfl (by kernel_rfl) (opens_int Try.underlying3) (opensF_cons rfl (by kernel_rfl) (opens_int Try.underlying3) (opensF_one rfl (by kernel_rfl) (opens_slice (0) Try.underlying38 (by kernel_rfl) (opens_int Try.underlying3))))))))))
 exact opens_iso (fun x : S40 => (x.f0, x.f1, x.f2, x.f3, x.f4, x.f5, x.f6, x.f7)) (fun y => ⟨y.1, y.2.1, y.2.2.1, y.2.2.2.1, y.2.2.2.2.1, y.2.2.2.2.2.1, y.2.2.2.2.2.2.1, y.2.2.2.2.2.2.2⟩) (fun _ => rfl) h
theorem opens24 : Opens Try.prog 24 k24 (fun x => (x.f0.length ≤ maxLen ∧ ∀ y ∈ x.f0, (y.f0.size ≤ maxLen) ∧ (y.f1.size ≤ maxLen) ∧ (True) ∧ (True) ∧ ((Lit.int .i64 y.f4).wf = true) ∧ ((Lit.int .i64 y.f5).wf = true) ∧ ((Lit.int .i64 y.f6).wf = true) ∧ (y.f7.length ≤ maxLen ∧ ∀ z ∈ y.f7, (Lit.int .i64 z).wf = true))) := by
 have h := opens_struct Try.underlying24 (by kernel_rfl) (opensF_one rfl (by kernel_rfl) (opens_slice (z40) Try.underlying22 (by kernel_rfl) opens40))
 exact opens_iso (fun x : S24 => (x.f0)) (fun y => ⟨y⟩) (fun _ => rfl) h
set_option maxRecDepth 100000 in
/-- The contract, for every argument and every world. -/
theorem contract (H : Type) (enc : TypeId × Value → H) (W : World) (base : Nat) (args : Array Value) (ds gs : List (DataW H)) (before : List MemPlace)
  (hval0 : ∀ (j : Nat) t v, Try.f3.params[j]? = some t → args[j]? = some v → Value.okWide Try.prog W .any base t v)
  (hW : DataW.Whole enc Try.prog Try.f3.params.toList Rows.boundGrowsSpec.vars false W args.toList ds gs before) :
  Calls Try.prog 3 args W fun e W' => ∃ v, e = .returned v ∧ Rows.boundGrowsSpec.post enc Try.prog Try.f3 false true false false W args v W' := by
 have hval : ∀ (j : Nat) t v, Try.f3.params[j]? = some t → args[j]? = some v → Value.okWide Try.prog W .any base t v := hval0
 have hW' := hW
 obtain ⟨p, q, hA0, hV, rfl, hfz, hnd⟩ := hW
 have hA : DataW.TrodAll enc Try.prog W 0 (fun _ => true) true Try.f3.params.toList args.toList ds p := hA0
 rw [Try.params3] at hA hval
 obtain ⟨v0, vs0, d0, ds0, p0, q0, hargs, rfl, rfl, h0, r0⟩ := trodAll_cons hA
 obtain ⟨v1, vs1, d1, ds1, p1, q1, rfl, rfl, rfl, h1, r1⟩ := trodAll_cons r0
 obtain ⟨v2, vs2, d2, ds2, p2, q2, rfl, rfl, rfl, h2, r2⟩ := trodAll_cons r1
 obtain ⟨v3, vs3, d3, ds3, p3, q3, rfl, rfl, rfl, h3, r3⟩ := trodAll_cons r2
 obtain ⟨v4, vs4, d4, ds4, p4, q4, rfl, rfl, rfl, h4, r4⟩ := trodAll_cons r3
 obtain ⟨v5, vs5, d5, ds5, p5, q5, rfl, rfl, rfl, h5, r5⟩ := trodAll_cons r4
 obtain ⟨rfl, rfl, rfl⟩ := trodAll_nil r5
 obtain rfl : args = #[v0, v1, v2, v3, v4, v5] := by cases args; simp_all
 obtain ⟨rfl, rfl⟩ := trodVars_none hV
 have k0 := h0
 have lt0 : ∀ x ∈ p0, x.block < W.heap.size := by obtain ⟨m, hm⟩ := k0; exact DataW.trod_lt m _ _ _ hm
 obtain ⟨cs0, rfl, _⟩ := okWide_struct Try.underlying24 (hval 0 24 v0 rfl rfl)
 obtain ⟨x0, hk0, hv0⟩ : ∃ x, k24.K W x cs0.toList ∧ ((x.f0.length ≤ maxLen ∧ ∀ y ∈ x.f0, (y.f0.size ≤ maxLen) ∧ (y.f1.size ≤ maxLen) ∧ (True) ∧ (True) ∧ ((Lit.int .i64 y.f4).wf = true) ∧ ((Lit.int .i64 y.f5).wf = true) ∧ ((Lit.int .i64 y.f6).wf = true) ∧ (y.f7.length ≤ maxLen ∧ ∀ z ∈ y.f7, (Lit.int .i64 z).wf = true))) := by obtain ⟨fuel, hf⟩ := h0; exact opens24.out enc W 0 _ _ fuel _ _ hf
 obtain ⟨A0_0, c0_0, e0, hc0_0, hC0_0⟩ := k24_open hk0
 obtain rfl := (Array.toList_inj.1 (e0.trans (List.toList_toArray).symm))
 obtain ⟨x1, rfl, rfl, rfl, hv1⟩ := open_int Try.underlying3 (hval 1 3 v1 rfl rfl) h1
 obtain ⟨x2, rfl, rfl, rfl, hv2⟩ := open_int Try.underlying3 (hval 2 3 v2 rfl rfl) h2
 obtain ⟨x3, rfl, rfl, rfl, hv3⟩ := open_int Try.underlying3 (hval 3 3 v3 rfl rfl) h3
 obtain ⟨x4, rfl, rfl, rfl, hv4⟩ := open_string Try.underlying9 (hval 4 9 v4 rfl rfl) h4
 obtain ⟨x5, rfl, rfl, rfl, hv5⟩ := open_string Try.underlying9 (hval 5 9 v5 rfl rfl) h5
 obtain ⟨k, h⟩ := Pure.BoundGrows x0 x1 x2 x3 x4 x5 hv0 hv1 hv2 hv3 hv4 hv5
 refine (F.argosylaw25_BoundGrows.calls k _ _ x0.f0 x1 x2 x3 x4 x5 true W hC0_0 hc0_0 h).mono fun e W' ⟨he, bel0⟩ => ?_
 have bel : Below W.heap.size W W' := bel0
 subst he
 exact ⟨_, rfl, _, _, _, [], _, [], hW', trodAll_mk1 (shut_bool Try.underlying4 _), (trodAll_cons_mk (Below.trod laidOut (by kernel_rfl) (of_decide_eq_true (by kernel_rfl)) k0 bel lt0) (trodAll_cons_mk (shut_int Try.underlying3 hv1) (trodAll_cons_mk (shut_int Try.underlying3 hv2) (trodAll_cons_mk (shut_int Try.underlying3 hv3) (trodAll_cons_mk (shut_string Try.underlying9 hv4) (trodAll_cons_mk (shut_string Try.underlying9 hv5) trodAll_mk0)))))), rfl, bel.frame _, fun h => by cases h⟩
set_option maxRecDepth 100000 in
theorem lifted (os : Os) (started : os.Started) (H : Type) (enc : TypeId × Value → H) :
  ReturnsInHanded {} Try.checked os 3 .any (Rows.boundGrowsSpec.pre6 enc Try.prog Try.f3 Rows.boundGrowsRow.domain false) (Rows.boundGrowsSpec.post enc Try.prog Try.f3 false true false false) := by
 refine returnsInHanded_of_change_sized (C := Try.checked) own started (by kernel_rfl) Try.func3
  (ChangeSpec.witness6 (enc := enc) (C := Try.checked) false ⟨#[], #[.agg #[.slice none 0 0], .int .i64 0, .int .i64 0, .int .i64 0, .string ByteArray.empty, .string ByteArray.empty], []⟩ 8 (by kernel_rfl) (by kernel_rfl) (by kernel_rfl) (by kernel_rfl)) ?_
 intro W base args ds gs before hval hW _ _ _
 exact contract H enc W base args ds gs before hval hW
theorem said : Rows.BoundGrowsSaid :=
 OpenClaim.holds_of_wide 3 Try.f3 rfl rfl rfl rfl rfl rfl rfl ⟨rfl, rfl, rfl, rfl, rfl⟩ rfl rfl rfl rfl rfl (by kernel_rfl) Try.func3 (by kernel_rfl)
  (of_decide_eq_true (by kernel_rfl)) (by unfold Func.isWrapper; first | (rw [if_pos (by decide +kernel)]; kernel_rfl) | (rw [if_neg (by decide +kernel)]; exact ⟨rfl, rfl⟩))
  (fun os started H enc _ => lifted os started H enc)
end Go.Proofs.Ytgilgicanggleaa.boundGrows
namespace Go.Proofs.Ytgilgicanggleaa
/-- The statement, under a short name, for the claim. -/
theorem boundGrows_holds : Rows.BoundGrowsSaid := boundGrows.said
end Go.Proofs.Ytgilgicanggleaa
end
