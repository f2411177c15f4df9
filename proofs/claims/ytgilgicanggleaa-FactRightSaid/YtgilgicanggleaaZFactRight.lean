/- Facts behind an event are right, the event does not fit them once more, and only its item's fact is another one: for every plan, all facts and every event. -/
import Derived.Test.YtgilgicanggleaaZFactRight7
import Derived.Test.YtgilgicanggleaaRows
import Derived.WalkKit
import Derived.ProofKit
import Derived.OpenShut
import Derived.ShutString
import Derived.ChangeOld
import Derived.Below
import Derived.Deep.DeepHandedRow
import Derived.Lib.LaidTab
section
namespace Go.Proofs.Ytgilgicanggleaa.Pure
set_option linter.unusedVariables false
open Go.RowKit Go.Proofs.Ytgilgicanggleaa.F Go.Proofs.YtgilgicanggleaaW.PrintWords Go.Proofs.YtgilgicanggleaaW.PrintLast
theorem small_ev (l : List S40) (d : Nat) : ∀ i : Nat, i + d = 70 → ∃ b, Ev (fun k => argosylaw13_small.l0 k (i : Int) l) b ∧ (b = true → l.length ≤ 70 ∧ ∀ j (h : j < l.length), i ≤ j → l[j].f7.length ≤ 100) := by
 induction d with
 | zero =>
  intro i hi
  refine ⟨decide ((l.length : Int) ≤ 70), ⟨2, fun k hk => ?_⟩, fun h => ?_⟩
  ·obtain ⟨k, rfl⟩ : ∃ m, k = m + 2 := ⟨k - 2, by omega⟩
   simp only [argosylaw13_small.l0, argosylaw13_small.j1]
   rw [decide_eq_false (by omega : ¬ (i : Int) < 70)]
   simp
  ·have := of_decide_eq_true h
   exact ⟨by omega, fun j h1 h2 => by omega⟩
 | succ d ih =>
  intro i hi
  by_cases hl : i < l.length
  ·obtain ⟨b, ⟨K, hK⟩, hb⟩ := ih (i + 1) (by omega)
   have hrd : rd_T40 l (i : Int) = l[i] := by unfold rd_T40; rw [Int.toNat_natCast, List.getD_eq_getElem?_getD, List.getElem?_eq_getElem hl]; rfl
   by_cases h1 : ((l[i].f0).size : Int) > 200 ∨ ((l[i].f1).size : Int) > 200 ∨ ((l[i].f7).length : Int) > 100
   ·refine ⟨false, ⟨2, fun k hk => ?_⟩, fun h => by cases h⟩
    obtain ⟨k, rfl⟩ : ∃ m, k = m + 2 := ⟨k - 2, by omega⟩
    simp only [argosylaw13_small.l0, argosylaw13_small.j1]
    rw [if_pos (by omega), decide_eq_true (by omega : (i : Int) < 70), if_pos rfl, if_pos (by omega), if_pos (by omega), hrd]
    by_cases h2 : ((l[i].f0).size : Int) > 200
    ·rw [if_pos h2]
    ·rw [if_neg h2]
     by_cases h3 : ((l[i].f1).size : Int) > 200
     ·rw [if_pos h3]
     ·rw [if_neg h3, if_pos (by omega)]
   ·refine ⟨b, ⟨K + 2, fun k hk => ?_⟩, fun h => ⟨(hb h).1, fun j h2 h3 => ?_⟩⟩
    ·obtain ⟨k, rfl⟩ : ∃ m, k = m + 2 := ⟨k - 2, by omega⟩
     simp only [argosylaw13_small.l0, argosylaw13_small.j1]
     rw [if_pos (by omega), decide_eq_true (by omega : (i : Int) < 70), if_pos rfl, if_pos (by omega), if_pos (by omega), hrd, if_neg (by omega), if_neg (by omega), if_neg (by omega), show wrap64 ((i : Int) + 1) = ((i + 1 : Nat) : Int) by unfold wrap64; omega]
     exact hK k (by omega)
    ·by_cases hj : j = i
     ·subst hj; omega
     ·exact (hb h).2 j h2 (by omega)
  ·refine ⟨decide ((l.length : Int) ≤ 70), ⟨2, fun k hk => ?_⟩, fun h => ?_⟩
   ·obtain ⟨k, rfl⟩ : ∃ m, k = m + 2 := ⟨k - 2, by omega⟩
    simp only [argosylaw13_small.l0, argosylaw13_small.j1]
    rw [if_neg (by omega)]
    simp
   ·have := of_decide_eq_true h
    exact ⟨by omega, fun j h1 h2 => by omega⟩
set_option maxRecDepth 100000 in
theorem lives_at : argosylaw13_lives.f 80 = some true := by decide +kernel
theorem lives_ev (k : Nat) (hk : 80 ≤ k) : argosylaw13_lives.f k = some true := by
 obtain ⟨m, rfl⟩ : ∃ m, k = 80 + m := ⟨k - 80, by omega⟩
 induction m with
 | zero => exact lives_at
 | succ m ih => exact argosylaw13_lives.mono _ _ (ih (by omega))
theorem check_up (p : List S40) (l : List S56) (r : Int) (k0 : Nat) (h : fact_Check.f k0 p l = some r) (k : Nat) (hk : k0 ≤ k) : fact_Check.f k p l = some r := by
 obtain ⟨m, rfl⟩ : ∃ m, k = k0 + m := ⟨k - k0, by omega⟩
 clear hk
 induction m with
 | zero => exact h
 | succ m ih => exact fact_Check.mono _ _ _ _ ih
theorem same_fact (x y : S56) : (((x.f0 == y.f0) && ((x.f1 == y.f1) && ((x.f2 == y.f2) && (x.f3 == y.f3)))) = true) ↔ y = x := by
 obtain ⟨a, b, c, d⟩ := x
 obtain ⟨a', b', c', d'⟩ := y
 simp only [Bool.and_eq_true, beq_iff_eq, S56.mk.injEq]
 constructor
 ·rintro ⟨rfl, rfl, rfl, rfl⟩; exact ⟨rfl, rfl, rfl, rfl⟩
 ·rintro ⟨rfl, rfl, rfl, rfl⟩; exact ⟨rfl, rfl, rfl, rfl⟩
theorem loop_ok (l m : List S56) (a it t : Int) (s : List Int) (hm : m.length = l.length) (hl : l.length ≤ 100) (hc : ∀ j : Nat, j < l.length → (rd_T56 m (j : Int) = rd_T56 l (j : Int) ↔ ¬ (j : Int) = it)) :
  ∀ (d i k : Nat), i + d = l.length → 80 ≤ k → argosylaw13_FactRight.l0 (k + d + 1) l m (i : Int) a it t s = some true := by
 intro d
 induction d with
 | zero =>
  intro i k hi hk
  unfold argosylaw13_FactRight.l0
  rw [if_neg (by omega), lives_ev _ (by omega)]
  rfl
 | succ d ih =>
  intro i k hi hk
  rw [show k + (d + 1) + 1 = (k + d + 1) + 1 from by omega]
  unfold argosylaw13_FactRight.l0
  rw [if_pos (by omega), if_pos (by omega), if_pos (by omega)]
  have hx := hc i (by omega)
  have hs := same_fact (rd_T56 l (i : Int)) (rd_T56 m (i : Int))
  have hw : wrap64 ((i : Int) + 1) = ((i + 1 : Nat) : Int) := by rw [w64f _ (by omega)]; omega
  rw [hw, ih (i + 1) k (by omega) hk]
  by_cases h : (i : Int) = it
  ·have h1 : ¬ rd_T56 m (i : Int) = rd_T56 l (i : Int) := fun e => (hx.1 e) h
   have h2 := Bool.eq_false_iff.2 (fun e => h1 (hs.1 e))
   rw [h2, show ((i : Int) == it) = true from by simpa using h]
   rfl
  ·have h2 := hs.2 (hx.2 h)
   rw [h2, show ((i : Int) == it) = false from by simpa using h]
   rfl
theorem j0_true (k : Nat) (hk : 81 ≤ k) (l : List S56) (p : List S40) (a it t : Int) (s : List Int) : argosylaw13_FactRight.j0 k l true p a it t s = some true := by
 obtain ⟨k, rfl⟩ : ∃ m, k = m + 1 := ⟨k - 1, by omega⟩
 simp only [argosylaw13_FactRight.j0]
 rw [if_pos trivial, lives_ev _ (by omega)]
 rfl
theorem j0_false (p : List S40) (l : List S56) (a it t : Int) (s : List Int) (hp : smallP p = true) (hl : l.length ≤ 100) : ∃ k0, ∀ k, k0 ≤ k → argosylaw13_FactRight.j0 k l false p a it t s = some true := by
 have hf : ∀ m : List S56, m.length ≤ 100 → fact_Apply.f p m a it t s = some (applyL p m a it t s) := fun m hm => by
  unfold fact_Apply.f
  rw [hp, decide_eq_true (by omega : m.length ≤ 1000000)]
  rfl
 by_cases h : (applyL p l a it t s).2 = 0
 ·obtain ⟨h1, h2, h3, h4⟩ := apply_law h
  obtain ⟨kf, hkf⟩ := fact_check_eq p (applyL p l a it t s).1 hp (by rw [h3]; omega)
  rw [if_pos h1] at hkf
  refine ⟨kf + l.length + 90, fun k hk => ?_⟩
  obtain ⟨k, rfl⟩ : ∃ m, k = (m + l.length + 1) + 1 + 1 := ⟨k - l.length - 3, by omega⟩
  simp only [argosylaw13_FactRight.j0]
  rw [if_neg (by simp), hf l hl, Option.bind_some, if_pos h, hf _ (by rw [h3]; exact hl), Option.bind_some, check_up _ _ _ _ hkf _ (by omega), Option.bind_some, if_pos rfl, if_pos h2, h3]
  simp only [argosylaw13_FactRight.j1]
  rw [if_neg (by simp)]
  exact loop_ok l _ a it t s h3 hl h4 l.length 0 k (by omega) (by omega)
 ·refine ⟨82, fun k hk => ?_⟩
  obtain ⟨k, rfl⟩ : ∃ m, k = m + 1 := ⟨k - 1, by omega⟩
  simp only [argosylaw13_FactRight.j0]
  rw [if_neg (by simp), hf l hl, Option.bind_some, if_neg h, apply_no h, if_pos (by rfl), lives_ev _ (by omega)]
  rfl
theorem FactRight : ∀ (x0 : S24) (x1 : List (S56)) (x2 : S50), ((x0.f0.length ≤ maxLen ∧ ∀ y ∈ x0.f0, (y.f0.size ≤ maxLen) ∧ (y.f1.size ≤ maxLen) ∧ (True) ∧ (True) ∧ ((Lit.int .i64 y.f4).wf = true) ∧ ((Lit.int .i64 y.f5).wf = true) ∧ ((Lit.int .i64 y.f6).wf = true) ∧ (y.f7.length ≤ maxLen ∧ ∀ z ∈ y.f7, (Lit.int .i64 z).wf = true))) → (x1.length ≤ maxLen ∧ ∀ y ∈ x1, ((Lit.int .i64 y.f0).wf = true) ∧ ((Lit.int .i64 y.f1).wf = true) ∧ ((Lit.int .i64 y.f2).wf = true) ∧ (True)) → (((Lit.int .i64 x2.f0).wf = true) ∧ ((Lit.int .i64 x2.f1).wf = true) ∧ ((Lit.int .i64 x2.f2).wf = true) ∧ (x2.f3.length ≤ maxLen ∧ ∀ y ∈ x2.f3, (Lit.int .i64 y).wf = true)) → ∃ k, argosylaw13_FactRight.f k x0.f0 x1 x2.f0 x2.f1 x2.f2 x2.f3 = some true := by
 intro x0 x1 x2 h0 h1 h2
 obtain ⟨b, ⟨K, hK⟩, hb⟩ := small_ev x0.f0 70 0 (by omega)
 have hs : ∀ k, K ≤ k → argosylaw13_small.f k x0.f0 = some b := fun k hk => hK k hk
 cases b with
 | false =>
  refine ⟨K + 81, ?_⟩
  unfold argosylaw13_FactRight.f
  rw [hs _ (by omega), Option.bind_some, if_neg (by simp)]
  exact j0_true _ (by omega) _ _ _ _ _ _
 | true =>
  obtain ⟨hl, hf⟩ := hb rfl
  by_cases e1 : (x1.length : Int) > 100
  ·refine ⟨K + 81, ?_⟩
   unfold argosylaw13_FactRight.f
   rw [hs _ (by omega), Option.bind_some, if_pos rfl, if_pos e1]
   exact j0_true _ (by omega) _ _ _ _ _ _
  ·by_cases e2 : (x2.f3.length : Int) > 300
   ·refine ⟨K + 81, ?_⟩
    unfold argosylaw13_FactRight.f
    rw [hs _ (by omega), Option.bind_some, if_pos rfl, if_neg e1, decide_eq_true e2]
    exact j0_true _ (by omega) _ _ _ _ _ _
   ·have hsm : smallP x0.f0 = true := by
     unfold smallP
     rw [List.all_eq_true]
     intro y hy
     obtain ⟨j, hj, rfl⟩ := List.getElem_of_mem hy
     have := hf j hj (by omega)
     simp only [decide_eq_true_eq]
     omega
    obtain ⟨k0, hk0⟩ := j0_false x0.f0 x1 x2.f0 x2.f1 x2.f2 x2.f3 hsm (by omega)
    refine ⟨K + k0, ?_⟩
    unfold argosylaw13_FactRight.f
    rw [hs _ (by omega), Option.bind_some, if_pos rfl, if_neg e1, decide_eq_false e2]
    exact hk0 _ (by omega)
end Go.Proofs.Ytgilgicanggleaa.Pure
end

section
namespace Go.Proofs.Ytgilgicanggleaa.factRight
open Go.ChangeShapes Go.WideShapes Go.ChangeAt Go.RowKit Go.Proofs.Ytgilgicanggleaa.F Go.Proofs.YtgilgicanggleaaW.PrintWords
open Go.ChangeMaps (open_string shut_string)
set_option linter.unusedVariables false
theorem own : ownKnob Try.prog.godebug = none := by kernel_rfl
theorem laidOut : laidOutB Try.prog = true := by kernel_rfl
theorem opens40 : Opens Try.prog 40 k40 (fun x => (x.f0.size ≤ maxLen) ∧ (x.f1.size ≤ maxLen) ∧ (True) ∧ (True) ∧ ((Lit.int .i64 x.f4).wf = true) ∧ ((Lit.int .i64 x.f5).wf = true) ∧ ((Lit.int .i64 x.f6).wf = true) ∧ (x.f7.length ≤ maxLen ∧ ∀ y ∈ x.f7, (Lit.int .i64 y).wf = true)) := by
 have h := opens_struct Try.underlying40 (by kernel_rfl) (opensF_cons rfl (by kernel_rfl) (opens_string Try.underlying9) (opensF_cons rfl (by kernel_rfl) (opens_string Try.underlying9) (opensF_cons rfl (by kernel_rfl) (opens_bool Try.underlying4) (opensF_cons rfl (by kernel_rfl) (opens_bool Try.underlying4) (opensF_cons rfl (by kernel_rfl) (opens_int Try.underlying3) (opensF_cons rfl (by kernel_rfl) (opens_int Try.underlying3) (opensF_cons rfl (by kernel_rfl) (opens_int Try.underlying3) (opensF_one rfl (by kernel_rfl) (opens_slice (0) Try.underlying38 (by kernel_rfl) (opens_int Try.underlying3))))))))))
 exact opens_iso (fun x : S40 => (x.f0, x.f1, x.f2, x.f3, x.f4, x.f5, x.f6, x.f7)) (fun y => ⟨y.1, y.2.1, y.2.2.1, y.2.2.2.1, y.2.2.2.2.1, y.2.2.2.2.2.1, y.2.2.2.2.2.2.1, y.2.2.2.2.2.2.2⟩) (fun _ => rfl) h
theorem opens24 : Opens Try.prog 24 k24 (fun x => (x.f0.length ≤ maxLen ∧ ∀ y ∈ x.f0, (y.f0.size ≤ maxLen) ∧ (y.f1.size ≤ maxLen) ∧ (True) ∧ (True) ∧ ((Lit.int .i64 y.f4).wf = true) ∧ ((Lit.int .i64 y.f5).wf = true) ∧ ((Lit.int .i64 y.f6).wf = true) ∧ (y.f7.length ≤ maxLen ∧ ∀ z ∈ y.f7, (Lit.int .i64 z).wf = true))) := by
 have h := opens_struct Try.underlying24 (by kernel_rfl) (opensF_one rfl (by kernel_rfl) (opens_slice (z40) Try.underlying22 (by kernel_rfl) opens40))
 exact opens_iso (fun x : S24 => (x.f0)) (fun y => ⟨y⟩) (fun _ => rfl) h
theorem opens56 : Opens Try.prog 56 k56 (fun x => ((Lit.int .i64 x.f0).wf = true) ∧ ((Lit.int .i64 x.f1).wf = true) ∧ ((Lit.int .i64 x.f2).wf = true) ∧ (True)) := by
 have h := opens_struct Try.underlying56 (by kernel_rfl) (opensF_cons rfl (by kernel_rfl) (opens_int Try.underlying54) (opensF_cons rfl (by kernel_rfl) (opens_int Try.underlying3) (opensF_cons rfl (by kernel_rfl) (opens_int Try.underlying3) (opensF_one rfl (by kernel_rfl) (opens_bool Try.underlying4)))))
 exact opens_iso (fun x : S56 => (x.f0, x.f1, x.f2, x.f3)) (fun y => ⟨y.1, y.2.1, y.2.2.1, y.2.2.2⟩) (fun _ => rfl) h
theorem opens50 : Opens Try.prog 50 k50 (fun x => ((Lit.int .i64 x.f0).wf = true) ∧ ((Lit.int .i64 x.f1).wf = true) ∧ ((Lit.int .i64 x.f2).wf = true) ∧ (x.f3.length ≤ maxLen ∧ ∀ y ∈ x.f3, (Lit.int .i64 y).wf = true)) := by
 have h := opens_struct Try.underlying50 (by kernel_rfl) (opensF_cons rfl (by kernel_rfl) (opens_int Try.underlying48) (opensF_cons rfl (by kernel_rfl) (opens_int Try.underlying3) (opensF_cons rfl (by kernel_rfl) (opens_int Try.underlying3) (opensF_one rfl (by kernel_rfl) (opens_slice (0) Try.underlying38 (by kernel_rfl) (opens_int Try.underlying3))))))
 exact opens_iso (fun x : S50 => (x.f0, x.f1, x.f2, x.f3)) (fun y => ⟨y.1, y.2.1, y.2.2.1, y.2.2.2⟩) (fun _ => rfl) h
set_option maxRecDepth 100000 in
theorem contract (H : Type) (enc : TypeId × Value → H) (W : World) (base : Nat) (args : Array Value) (ds gs : List (DataW H)) (before : List MemPlace)
  (hval0 : ∀ (j : Nat) t v, Try.f5.params[j]? = some t → args[j]? = some v → Value.okWide Try.prog W .any base t v)
  (hW : DataW.Whole enc Try.prog Try.f5.params.toList Rows.factRightSpec.vars false W args.toList ds gs before) :
  Calls Try.prog 5 args W fun e W' => ∃ v, e = .returned v ∧ Rows.factRightSpec.post enc Try.prog Try.f5 false true false false W args v W' := by
 have hval : ∀ (j : Nat) t v, Try.f5.params[j]? = some t → args[j]? = some v → Value.okWide Try.prog W .any base t v := hval0
 have hW' := hW
 obtain ⟨p, q, hA0, hV, rfl, hfz, hnd⟩ := hW
 have hA : DataW.TrodAll enc Try.prog W 0 (fun _ => true) true Try.f5.params.toList args.toList ds p := hA0
 rw [Try.params5] at hA hval
 obtain ⟨v0, vs0, d0, ds0, p0, q0, hargs, rfl, rfl, h0, r0⟩ := trodAll_cons hA
 obtain ⟨v1, vs1, d1, ds1, p1, q1, rfl, rfl, rfl, h1, r1⟩ := trodAll_cons r0
 obtain ⟨v2, vs2, d2, ds2, p2, q2, rfl, rfl, rfl, h2, r2⟩ := trodAll_cons r1
 obtain ⟨rfl, rfl, rfl⟩ := trodAll_nil r2
 obtain rfl : args = #[v0, v1, v2] := by cases args; simp_all
 obtain ⟨rfl, rfl⟩ := trodVars_none hV
 have k0 := h0
 have lt0 : ∀ x ∈ p0, x.block < W.heap.size := by obtain ⟨m, hm⟩ := k0; exact DataW.trod_lt m _ _ _ hm
 obtain ⟨cs0, rfl, _⟩ := okWide_struct Try.underlying24 (hval 0 24 v0 rfl rfl)
 obtain ⟨x0, hk0, hv0⟩ : ∃ x, k24.K W x cs0.toList ∧ ((x.f0.length ≤ maxLen ∧ ∀ y ∈ x.f0, (y.f0.size ≤ maxLen) ∧ (y.f1.size ≤ maxLen) ∧ (True) ∧ (True) ∧ ((Lit.int .i64 y.f4).wf = true) ∧ ((Lit.int .i64 y.f5).wf = true) ∧ ((Lit.int .i64 y.f6).wf = true) ∧ (y.f7.length ≤ maxLen ∧ ∀ z ∈ y.f7, (Lit.int .i64 z).wf = true))) := by obtain ⟨fuel, hf⟩ := h0; exact opens24.out enc W 0 _ _ fuel _ _ hf
 obtain ⟨A0_0, c0_0, e0, hc0_0, hC0_0⟩ := k24_open hk0
 obtain rfl := (Array.toList_inj.1 (e0.trans (List.toList_toArray).symm))
 have k1 := h1
 have lt1 : ∀ x ∈ p1, x.block < W.heap.size := by obtain ⟨m, hm⟩ := k1; exact DataW.trod_lt m _ _ _ hm
 obtain ⟨a1, len1, cap1, rfl⟩ := okWide_slice Try.underlying47 (hval 1 47 v1 rfl rfl)
 obtain ⟨x1, hk1, hv1⟩ : ∃ x, ((Kd.slice 56 k56)).K W x [.slice a1 len1 cap1] ∧ (x.length ≤ maxLen ∧ ∀ y ∈ x, ((Lit.int .i64 y.f0).wf = true) ∧ ((Lit.int .i64 y.f1).wf = true) ∧ ((Lit.int .i64 y.f2).wf = true) ∧ (True)) := by obtain ⟨fuel, hf⟩ := h1; exact (opens_slice (z56) Try.underlying47 (by kernel_rfl) opens56).out enc W 0 _ _ fuel _ _ hf
 obtain ⟨A1, c1, e1, hc1, hC1⟩ := hk1
 simp only [List.cons.injEq, Value.slice.injEq, and_true] at e1
 obtain ⟨rfl, rfl, rfl⟩ := e1
 have k2 := h2
 have lt2 : ∀ x ∈ p2, x.block < W.heap.size := by obtain ⟨m, hm⟩ := k2; exact DataW.trod_lt m _ _ _ hm
 obtain ⟨cs2, rfl, _⟩ := okWide_struct Try.underlying50 (hval 2 50 v2 rfl rfl)
 obtain ⟨x2, hk2, hv2⟩ : ∃ x, k50.K W x cs2.toList ∧ (((Lit.int .i64 x.f0).wf = true) ∧ ((Lit.int .i64 x.f1).wf = true) ∧ ((Lit.int .i64 x.f2).wf = true) ∧ (x.f3.length ≤ maxLen ∧ ∀ y ∈ x.f3, (Lit.int .i64 y).wf = true)) := by obtain ⟨fuel, hf⟩ := h2; exact opens50.out enc W 0 _ _ fuel _ _ hf
 obtain ⟨A2_3, c2_3, e2, hc2_3, hC2_3⟩ := k50_open hk2
 obtain rfl := (Array.toList_inj.1 (e2.trans (List.toList_toArray).symm))
 obtain ⟨k, h⟩ := Pure.FactRight x0 x1 x2 hv0 hv1 hv2
 refine (F.argosylaw13_FactRight.calls k _ _ x0.f0 _ _ x1 x2.f0 x2.f1 x2.f2 _ _ x2.f3 true W hC0_0 hc0_0 hC1 hc1 hC2_3 hc2_3 h).mono fun e W' ⟨he, bel0⟩ => ?_
 have bel : Below W.heap.size W W' := bel0
 subst he
 exact ⟨_, rfl, _, _, _, [], _, [], hW', trodAll_mk1 (shut_bool Try.underlying4 _), (trodAll_cons_mk (Below.trod laidOut (by kernel_rfl) (of_decide_eq_true (by kernel_rfl)) k0 bel lt0) (trodAll_cons_mk (Below.trod laidOut (by kernel_rfl) (of_decide_eq_true (by kernel_rfl)) k1 bel lt1) (trodAll_cons_mk (Below.trod laidOut (by kernel_rfl) (of_decide_eq_true (by kernel_rfl)) k2 bel lt2) trodAll_mk0))), rfl, bel.frame _, fun h => by cases h⟩
set_option maxRecDepth 100000 in
theorem lifted (os : Os) (started : os.Started) (H : Type) (enc : TypeId × Value → H) :
  ReturnsInHanded {} Try.checked os 5 .any (Rows.factRightSpec.pre6 enc Try.prog Try.f5 Rows.factRightRow.domain false) (Rows.factRightSpec.post enc Try.prog Try.f5 false true false false) := by
 refine returnsInHanded_of_change_sized (C := Try.checked) own started (by kernel_rfl) Try.func5
  (ChangeSpec.witness6 (enc := enc) (C := Try.checked) false ⟨#[], #[.agg #[.slice none 0 0], .slice none 0 0, .agg #[.int .i64 0, .int .i64 0, .int .i64 0, .slice none 0 0]], []⟩ 8 (by kernel_rfl) (by kernel_rfl) (by kernel_rfl) (by kernel_rfl)) ?_
 intro W base args ds gs before hval hW _ _ _
 exact contract H enc W base args ds gs before hval hW
theorem said : Rows.FactRightSaid :=
 OpenClaim.holds_of_wide 5 Try.f5 rfl rfl rfl rfl rfl rfl rfl ⟨rfl, rfl, rfl, rfl, rfl⟩ rfl rfl rfl rfl rfl (by kernel_rfl) Try.func5 (by kernel_rfl)
  (of_decide_eq_true (by kernel_rfl)) (by unfold Func.isWrapper; first | (rw [if_pos (by decide +kernel)]; kernel_rfl) | (rw [if_neg (by decide +kernel)]; exact ⟨rfl, rfl⟩))
  (fun os started H enc _ => lifted os started H enc)
end Go.Proofs.Ytgilgicanggleaa.factRight
namespace Go.Proofs.Ytgilgicanggleaa
theorem factRight_holds : Rows.FactRightSaid := factRight.said
end Go.Proofs.Ytgilgicanggleaa
end
