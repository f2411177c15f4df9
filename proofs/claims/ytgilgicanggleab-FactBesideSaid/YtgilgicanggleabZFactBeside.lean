/- Of two events of unlike items it does not matter which comes first: for every plan, all facts and every two events. -/
import Derived.Test.YtgilgicanggleabZFactBeside6
import Derived.Test.YtgilgicanggleabRows
import Derived.WalkKit
import Derived.ProofKit
import Derived.OpenShut
import Derived.ShutString
import Derived.ChangeOld
import Derived.Below
import Derived.Deep.DeepHandedRow
import Derived.Lib.LaidTab
section
namespace Go.Proofs.Ytgilgicanggleab.Pure
set_option linter.unusedVariables false
open Go.RowKit Go.Proofs.Ytgilgicanggleab.F Go.Proofs.YtgilgicanggleabW.PrintWords Go.Proofs.YtgilgicanggleabW.PrintLast
theorem beside_one {p : List S44} {l : List S52} {k it t k' it' t' : Int} {s s' : List Int} (hne : ¬ it = it') (hd : (applyL p l k it t s).2 = 0) (he : (applyL p l k' it' t' s').2 = 0) :
  applyL p (applyL p l k it t s).1 k' it' t' s' = ((l.set it.toNat (knownF (rd_T52 l it) t k).1).set it'.toNat (knownF (rd_T52 l it') t' k').1, 0) := by
 obtain ⟨h1, h2, ⟨h3, h4⟩, h5, h6, h7⟩ := apply_ok hd
 obtain ⟨g1, g2, ⟨g3, g4⟩, g5, g6, g7⟩ := apply_ok he
 have hF := (apply_law hd).1
 rw [h7] at hF ⊢
 have hr : rd_T52 (l.set it.toNat (knownF (rd_T52 l it) t k).1) it' = rd_T52 l it' := by
  obtain ⟨n, rfl⟩ := Int.eq_ofNat_of_zero_le (Int.le_of_lt g3)
  rw [rd_set _ _ _ _ (by omega), if_neg (by omega)]
 rw [apply_at hF g2 (by rw [List.length_set]; exact g4) g5 (by rw [hr]; exact g6), hr]
theorem beside_law {p : List S44} {l : List S52} {k it t k' it' t' : Int} {s s' : List Int} (hne : ¬ it = it') (hd : (applyL p l k it t s).2 = 0) (he : (applyL p l k' it' t' s').2 = 0) :
  ∃ X, X.length = l.length ∧ applyL p (applyL p l k it t s).1 k' it' t' s' = (X, 0) ∧ applyL p (applyL p l k' it' t' s').1 k it t s = (X, 0) := by
 refine ⟨_, ?_, beside_one hne hd he, ?_⟩
 ·rw [List.length_set, List.length_set]
 ·rw [beside_one (fun e => hne e.symm) he hd]
  obtain ⟨h1, h2, ⟨h3, h4⟩, -⟩ := apply_ok hd
  obtain ⟨g1, g2, ⟨g3, g4⟩, -⟩ := apply_ok he
  rw [List.set_comm _ _ (by omega)]
theorem j0_true (k : Nat) (hk : 81 ≤ k) (l : List S52) (p : List S44) (a it t : Int) (s : List Int) (a' it' t' : Int) (s' : List Int) : argosylaw13_FactBeside.j0 k l true p a it t s a' it' t' s' = some true := by
 obtain ⟨k, rfl⟩ : ∃ m, k = m + 1 := ⟨k - 1, by omega⟩
 simp only [argosylaw13_FactBeside.j0]
 rw [if_pos trivial, lives_ev _ (by omega)]
 rfl
theorem j1_true (k : Nat) (hk : 81 ≤ k) (l m : List S52) (p : List S44) (a it t : Int) (s : List Int) (a' it' t' : Int) (s' : List Int) : argosylaw13_FactBeside.j1 k l m true p a it t s a' it' t' s' = some true := by
 obtain ⟨k, rfl⟩ : ∃ m, k = m + 1 := ⟨k - 1, by omega⟩
 simp only [argosylaw13_FactBeside.j1]
 rw [if_pos trivial, lives_ev _ (by omega)]
 rfl
theorem j0_false (k : Nat) (hk : 200 ≤ k) (p : List S44) (l : List S52) (a it t : Int) (s : List Int) (a' it' t' : Int) (s' : List Int) (hp : smallP p = true) (hl : l.length ≤ 100) (hne : ¬ it = it') : argosylaw13_FactBeside.j0 k l false p a it t s a' it' t' s' = some true := by
 obtain ⟨k, rfl⟩ : ∃ m, k = m + 1 + 1 := ⟨k - 2, by omega⟩
 simp only [argosylaw13_FactBeside.j0]
 rw [if_neg (by simp), apply_f hp l hl, Option.bind_some, apply_f hp l hl, Option.bind_some]
 by_cases h : (applyL p l a it t s).2 = 0
 ·rw [if_pos h]
  by_cases h' : (applyL p l a' it' t' s').2 = 0
  ·obtain ⟨X, hX, e1, e2⟩ := beside_law hne h h'
   have n1 := (apply_law h).2.2.1
   have n2 := (apply_law h').2.2.1
   rw [h']
   simp only [argosylaw13_FactBeside.j1]
   rw [if_neg (by simp), apply_f hp _ (by omega), Option.bind_some, apply_f hp _ (by omega), Option.bind_some, e1, e2, same_f X (by omega) _ (by omega), Option.bind_some, if_pos rfl, if_pos rfl, if_pos rfl, lives_ev _ (by omega)]
   rfl
  ·have hb : ((applyL p l a' it' t' s').2 != 0) = true := by simpa using h'
   rw [hb]
   exact j1_true _ (by omega) _ _ _ _ _ _ _ _ _ _ _
 ·rw [if_neg h]
  exact j1_true _ (by omega) _ _ _ _ _ _ _ _ _ _ _
theorem FactBeside : ∀ (x0 : S24) (x1 : List (S52)) (x2 : S29) (x3 : S29), ((x0.f0.length ≤ maxLen ∧ ∀ y ∈ x0.f0, (y.f0.size ≤ maxLen) ∧ (y.f1.size ≤ maxLen) ∧ (True) ∧ (True) ∧ ((Lit.int .i64 y.f4).wf = true) ∧ ((Lit.int .i64 y.f5).wf = true) ∧ ((Lit.int .i64 y.f6).wf = true) ∧ (y.f7.length ≤ maxLen ∧ ∀ z ∈ y.f7, (Lit.int .i64 z).wf = true))) → (x1.length ≤ maxLen ∧ ∀ y ∈ x1, ((Lit.int .i64 y.f0).wf = true) ∧ ((Lit.int .i64 y.f1).wf = true) ∧ ((Lit.int .i64 y.f2).wf = true) ∧ (True)) → (((Lit.int .i64 x2.f0).wf = true) ∧ ((Lit.int .i64 x2.f1).wf = true) ∧ ((Lit.int .i64 x2.f2).wf = true) ∧ (x2.f3.length ≤ maxLen ∧ ∀ y ∈ x2.f3, (Lit.int .i64 y).wf = true)) → (((Lit.int .i64 x3.f0).wf = true) ∧ ((Lit.int .i64 x3.f1).wf = true) ∧ ((Lit.int .i64 x3.f2).wf = true) ∧ (x3.f3.length ≤ maxLen ∧ ∀ y ∈ x3.f3, (Lit.int .i64 y).wf = true)) → ∃ k, argosylaw13_FactBeside.f k x0.f0 x1 x2.f0 x2.f1 x2.f2 x2.f3 x3.f0 x3.f1 x3.f2 x3.f3 = some true := by
 intro x0 x1 x2 x3 h0 h1 h2 h3
 obtain ⟨b, K, hs, hb⟩ := small_f x0.f0
 refine ⟨K + 200, ?_⟩
 unfold argosylaw13_FactBeside.f
 rw [hs _ (by omega), Option.bind_some]
 cases b with
 | false =>
  rw [if_neg (by simp)]
  exact j0_true _ (by omega) _ _ _ _ _ _ _ _ _ _
 | true =>
  rw [if_pos rfl]
  by_cases e1 : (x1.length : Int) > 100
  ·rw [if_pos e1]
   exact j0_true _ (by omega) _ _ _ _ _ _ _ _ _ _
  rw [if_neg e1]
  by_cases e2 : (x2.f3.length : Int) > 300
  ·rw [if_pos e2]
   exact j0_true _ (by omega) _ _ _ _ _ _ _ _ _ _
  rw [if_neg e2]
  by_cases e3 : (x3.f3.length : Int) > 300
  ·rw [if_pos e3]
   exact j0_true _ (by omega) _ _ _ _ _ _ _ _ _ _
  rw [if_neg e3]
  by_cases e4 : x2.f1 = x3.f1
  ·rw [show (x2.f1 == x3.f1) = true from by simpa using e4]
   exact j0_true _ (by omega) _ _ _ _ _ _ _ _ _ _
  ·rw [show (x2.f1 == x3.f1) = false from by simpa using e4]
   exact j0_false _ (by omega) _ _ _ _ _ _ _ _ _ _ (hb rfl).1 (by omega) e4
end Go.Proofs.Ytgilgicanggleab.Pure
end

section
namespace Go.Proofs.Ytgilgicanggleab.factBeside
open Go.ChangeShapes Go.WideShapes Go.ChangeAt Go.RowKit Go.Proofs.Ytgilgicanggleab.F Go.Proofs.YtgilgicanggleabW.PrintWords
open Go.ChangeMaps (open_string shut_string)
set_option linter.unusedVariables false
theorem own : ownKnob Try.prog.godebug = none := by kernel_rfl
theorem laidOut : laidOutB Try.prog = true := by kernel_rfl
theorem opens44 : Opens Try.prog 44 k44 (fun x => (x.f0.size ≤ maxLen) ∧ (x.f1.size ≤ maxLen) ∧ (True) ∧ (True) ∧ ((Lit.int .i64 x.f4).wf = true) ∧ ((Lit.int .i64 x.f5).wf = true) ∧ ((Lit.int .i64 x.f6).wf = true) ∧ (x.f7.length ≤ maxLen ∧ ∀ y ∈ x.f7, (Lit.int .i64 y).wf = true)) := by
 have h := opens_struct Try.underlying44 (by kernel_rfl) (opensF_cons rfl (by kernel_rfl) (opens_string Try.underlying9) (opensF_cons rfl (by kernel_rfl) (opens_string Try.underlying9) (opensF_cons rfl (by kernel_rfl) (opens_bool Try.underlying4) (opensF_cons rfl (by kernel_rfl) (opens_bool Try.underlying4) (opensF_cons rfl (by kernel_rfl) (opens_int Try.underlying3) (opensF_cons rfl (by kernel_rfl) (opens_int Try.underlying3) (opensF_cons rfl (by kernel_rfl) (opens_int Try.underlying3) (opensF_one rfl (by kernel_rfl) (opens_slice (0) Try.underlying27 (by kernel_rfl) (opens_int Try.underlying3))))))))))
 exact opens_iso (fun x : S44 => (x.f0, x.f1, x.f2, x.f3, x.f4, x.f5, x.f6, x.f7)) (fun y => ⟨y.1, y.2.1, y.2.2.1, y.2.2.2.1, y.2.2.2.2.1, y.2.2.2.2.2.1, y.2.2.2.2.2.2.1, y.2.2.2.2.2.2.2⟩) (fun _ => rfl) h
theorem opens24 : Opens Try.prog 24 k24 (fun x => (x.f0.length ≤ maxLen ∧ ∀ y ∈ x.f0, (y.f0.size ≤ maxLen) ∧ (y.f1.size ≤ maxLen) ∧ (True) ∧ (True) ∧ ((Lit.int .i64 y.f4).wf = true) ∧ ((Lit.int .i64 y.f5).wf = true) ∧ ((Lit.int .i64 y.f6).wf = true) ∧ (y.f7.length ≤ maxLen ∧ ∀ z ∈ y.f7, (Lit.int .i64 z).wf = true))) := by
 have h := opens_struct Try.underlying24 (by kernel_rfl) (opensF_one rfl (by kernel_rfl) (opens_slice (z44) Try.underlying22 (by kernel_rfl) opens44))
 exact opens_iso (fun x : S24 => (x.f0)) (fun y => ⟨y⟩) (fun _ => rfl) h
theorem opens52 : Opens Try.prog 52 k52 (fun x => ((Lit.int .i64 x.f0).wf = true) ∧ ((Lit.int .i64 x.f1).wf = true) ∧ ((Lit.int .i64 x.f2).wf = true) ∧ (True)) := by
 have h := opens_struct Try.underlying52 (by kernel_rfl) (opensF_cons rfl (by kernel_rfl) (opens_int Try.underlying50) (opensF_cons rfl (by kernel_rfl) (opens_int Try.underlying3) (opensF_cons rfl (by kernel_rfl) (opens_int Try.underlying3) (opensF_one rfl (by kernel_rfl) (opens_bool Try.underlying4)))))
 exact opens_iso (fun x : S52 => (x.f0, x.f1, x.f2, x.f3)) (fun y => ⟨y.1, y.2.1, y.2.2.1, y.2.2.2⟩) (fun _ => rfl) h
theorem opens29 : Opens Try.prog 29 k29 (fun x => ((Lit.int .i64 x.f0).wf = true) ∧ ((Lit.int .i64 x.f1).wf = true) ∧ ((Lit.int .i64 x.f2).wf = true) ∧ (x.f3.length ≤ maxLen ∧ ∀ y ∈ x.f3, (Lit.int .i64 y).wf = true)) := by
 have h := opens_struct Try.underlying29 (by kernel_rfl) (opensF_cons rfl (by kernel_rfl) (opens_int Try.underlying26) (opensF_cons rfl (by kernel_rfl) (opens_int Try.underlying3) (opensF_cons rfl (by kernel_rfl) (opens_int Try.underlying3) (opensF_one rfl (by kernel_rfl) (opens_slice (0) Try.underlying27 (by kernel_rfl) (opens_int Try.underlying3))))))
 exact opens_iso (fun x : S29 => (x.f0, x.f1, x.f2, x.f3)) (fun y => ⟨y.1, y.2.1, y.2.2.1, y.2.2.2⟩) (fun _ => rfl) h
set_option maxRecDepth 100000 in
theorem contract (H : Type) (enc : TypeId × Value → H) (W : World) (base : Nat) (args : Array Value) (ds gs : List (DataW H)) (before : List MemPlace)
  (hval0 : ∀ (j : Nat) t v, Try.f3.params[j]? = some t → args[j]? = some v → Value.okWide Try.prog W .any base t v)
  (hW : DataW.Whole enc Try.prog Try.f3.params.toList Rows.factBesideSpec.vars false W args.toList ds gs before) :
  Calls Try.prog 3 args W fun e W' => ∃ v, e = .returned v ∧ Rows.factBesideSpec.post enc Try.prog Try.f3 false true false false W args v W' := by
 have hval : ∀ (j : Nat) t v, Try.f3.params[j]? = some t → args[j]? = some v → Value.okWide Try.prog W .any base t v := hval0
 have hW' := hW
 obtain ⟨p, q, hA0, hV, rfl, hfz, hnd⟩ := hW
 have hA : DataW.TrodAll enc Try.prog W 0 (fun _ => true) true Try.f3.params.toList args.toList ds p := hA0
 rw [Try.params3] at hA hval
 obtain ⟨v0, vs0, d0, ds0, p0, q0, hargs, rfl, rfl, h0, r0⟩ := trodAll_cons hA
 obtain ⟨v1, vs1, d1, ds1, p1, q1, rfl, rfl, rfl, h1, r1⟩ := trodAll_cons r0
 obtain ⟨v2, vs2, d2, ds2, p2, q2, rfl, rfl, rfl, h2, r2⟩ := trodAll_cons r1
 obtain ⟨v3, vs3, d3, ds3, p3, q3, rfl, rfl, rfl, h3, r3⟩ := trodAll_cons r2
 obtain ⟨rfl, rfl, rfl⟩ := trodAll_nil r3
 obtain rfl : args = #[v0, v1, v2, v3] := by cases args; simp_all
 obtain ⟨rfl, rfl⟩ := trodVars_none hV
 have k0 := h0
 have lt0 : ∀ x ∈ p0, x.block < W.heap.size := by obtain ⟨m, hm⟩ := k0; exact DataW.trod_lt m _ _ _ hm
 obtain ⟨cs0, rfl, _⟩ := okWide_struct Try.underlying24 (hval 0 24 v0 rfl rfl)
 obtain ⟨x0, hk0, hv0⟩ : ∃ x, k24.K W x cs0.toList ∧ ((x.f0.length ≤ maxLen ∧ ∀ y ∈ x.f0, (y.f0.size ≤ maxLen) ∧ (y.f1.size ≤ maxLen) ∧ (True) ∧ (True) ∧ ((Lit.int .i64 y.f4).wf = true) ∧ ((Lit.int .i64 y.f5).wf = true) ∧ ((Lit.int .i64 y.f6).wf = true) ∧ (y.f7.length ≤ maxLen ∧ ∀ z ∈ y.f7, (Lit.int .i64 z).wf = true))) := by obtain ⟨fuel, hf⟩ := h0; exact opens24.out enc W 0 _ _ fuel _ _ hf
 obtain ⟨A0_0, c0_0, e0, hc0_0, hC0_0⟩ := k24_open hk0
 obtain rfl := (Array.toList_inj.1 (e0.trans (List.toList_toArray).symm))
 have k1 := h1
 have lt1 : ∀ x ∈ p1, x.block < W.heap.size := by obtain ⟨m, hm⟩ := k1; exact DataW.trod_lt m _ _ _ hm
 obtain ⟨a1, len1, cap1, rfl⟩ := okWide_slice Try.underlying25 (hval 1 25 v1 rfl rfl)
 obtain ⟨x1, hk1, hv1⟩ : ∃ x, ((Kd.slice 52 k52)).K W x [.slice a1 len1 cap1] ∧ (x.length ≤ maxLen ∧ ∀ y ∈ x, ((Lit.int .i64 y.f0).wf = true) ∧ ((Lit.int .i64 y.f1).wf = true) ∧ ((Lit.int .i64 y.f2).wf = true) ∧ (True)) := by obtain ⟨fuel, hf⟩ := h1; exact (opens_slice (z52) Try.underlying25 (by kernel_rfl) opens52).out enc W 0 _ _ fuel _ _ hf
 obtain ⟨A1, c1, e1, hc1, hC1⟩ := hk1
 simp only [List.cons.injEq, Value.slice.injEq, and_true] at e1
 obtain ⟨rfl, rfl, rfl⟩ := e1
 have k2 := h2
 have lt2 : ∀ x ∈ p2, x.block < W.heap.size := by obtain ⟨m, hm⟩ := k2; exact DataW.trod_lt m _ _ _ hm
 obtain ⟨cs2, rfl, _⟩ := okWide_struct Try.underlying29 (hval 2 29 v2 rfl rfl)
 obtain ⟨x2, hk2, hv2⟩ : ∃ x, k29.K W x cs2.toList ∧ (((Lit.int .i64 x.f0).wf = true) ∧ ((Lit.int .i64 x.f1).wf = true) ∧ ((Lit.int .i64 x.f2).wf = true) ∧ (x.f3.length ≤ maxLen ∧ ∀ y ∈ x.f3, (Lit.int .i64 y).wf = true)) := by obtain ⟨fuel, hf⟩ := h2; exact opens29.out enc W 0 _ _ fuel _ _ hf
 obtain ⟨A2_3, c2_3, e2, hc2_3, hC2_3⟩ := k29_open hk2
 obtain rfl := (Array.toList_inj.1 (e2.trans (List.toList_toArray).symm))
 have k3 := h3
 have lt3 : ∀ x ∈ p3, x.block < W.heap.size := by obtain ⟨m, hm⟩ := k3; exact DataW.trod_lt m _ _ _ hm
 obtain ⟨cs3, rfl, _⟩ := okWide_struct Try.underlying29 (hval 3 29 v3 rfl rfl)
 obtain ⟨x3, hk3, hv3⟩ : ∃ x, k29.K W x cs3.toList ∧ (((Lit.int .i64 x.f0).wf = true) ∧ ((Lit.int .i64 x.f1).wf = true) ∧ ((Lit.int .i64 x.f2).wf = true) ∧ (x.f3.length ≤ maxLen ∧ ∀ y ∈ x.f3, (Lit.int .i64 y).wf = true)) := by obtain ⟨fuel, hf⟩ := h3; exact opens29.out enc W 0 _ _ fuel _ _ hf
 obtain ⟨A3_3, c3_3, e3, hc3_3, hC3_3⟩ := k29_open hk3
 obtain rfl := (Array.toList_inj.1 (e3.trans (List.toList_toArray).symm))
 obtain ⟨k, h⟩ := Pure.FactBeside x0 x1 x2 x3 hv0 hv1 hv2 hv3
 refine (F.argosylaw13_FactBeside.calls k _ _ x0.f0 _ _ x1 x2.f0 x2.f1 x2.f2 _ _ x2.f3 x3.f0 x3.f1 x3.f2 _ _ x3.f3 true W hC0_0 hc0_0 hC1 hc1 hC2_3 hc2_3 hC3_3 hc3_3 h).mono fun e W' ⟨he, bel0⟩ => ?_
 have bel : Below W.heap.size W W' := bel0
 subst he
 exact ⟨_, rfl, _, _, _, [], _, [], hW', trodAll_mk1 (shut_bool Try.underlying4 _), (trodAll_cons_mk (Below.trod laidOut (by kernel_rfl) (of_decide_eq_true (by kernel_rfl)) k0 bel lt0) (trodAll_cons_mk (Below.trod laidOut (by kernel_rfl) (of_decide_eq_true (by kernel_rfl)) k1 bel lt1) (trodAll_cons_mk (Below.trod laidOut (by kernel_rfl) (of_decide_eq_true (by kernel_rfl)) k2 bel lt2) (trodAll_cons_mk (Below.trod laidOut (by kernel_rfl) (of_decide_eq_true (by kernel_rfl)) k3 bel lt3) trodAll_mk0)))), rfl, bel.frame _, fun h => by cases h⟩
set_option maxRecDepth 100000 in
theorem lifted (os : Os) (started : os.Started) (H : Type) (enc : TypeId × Value → H) :
  ReturnsInHanded {} Try.checked os 3 .any (Rows.factBesideSpec.pre6 enc Try.prog Try.f3 Rows.factBesideRow.domain false) (Rows.factBesideSpec.post enc Try.prog Try.f3 false true false false) := by
 refine returnsInHanded_of_change_sized (C := Try.checked) own started (by kernel_rfl) Try.func3
  (ChangeSpec.witness6 (enc := enc) (C := Try.checked) false ⟨#[], #[.agg #[.slice none 0 0], .slice none 0 0, .agg #[.int .i64 0, .int .i64 0, .int .i64 0, .slice none 0 0], .agg #[.int .i64 0, .int .i64 0, .int .i64 0, .slice none 0 0]], []⟩ 8 (by kernel_rfl) (by kernel_rfl) (by kernel_rfl) (by kernel_rfl)) ?_
 intro W base args ds gs before hval hW _ _ _
 exact contract H enc W base args ds gs before hval hW
theorem said : Rows.FactBesideSaid :=
 OpenClaim.holds_of_wide 3 Try.f3 rfl rfl rfl rfl rfl rfl rfl ⟨rfl, rfl, rfl, rfl, rfl⟩ rfl rfl rfl rfl rfl (by kernel_rfl) Try.func3 (by kernel_rfl)
  (of_decide_eq_true (by kernel_rfl)) (by unfold Func.isWrapper; first | (rw [if_pos (by decide +kernel)]; kernel_rfl) | (rw [if_neg (by decide +kernel)]; exact ⟨rfl, rfl⟩))
  (fun os started H enc _ => lifted os started H enc)
end Go.Proofs.Ytgilgicanggleab.factBeside
namespace Go.Proofs.Ytgilgicanggleab
theorem factBeside_holds : Rows.FactBesideSaid := factBeside.said
end Go.Proofs.Ytgilgicanggleab
end
