/- A law. -/
import Derived.Test.YtihpndignekheaaZStateSees5
import Derived.Test.YtihpndignekheaaRows
import Derived.WalkKit
import Derived.ProofKit
import Derived.OpenShut
import Derived.ShutString
import Derived.ChangeOld
import Derived.Below
import Derived.Deep.DeepHandedRow
import Derived.Lib.LaidTab
section
namespace Go.Proofs.Ytihpndignekheaa.Pure
open Go.RowKit Go.Proofs.Ytihpndignekheaa.F Go.Proofs.YtihpndignekheaaW.PrintWords Go.Proofs.YtihpndignekheaaW.PrintLast
theorem StateSees : ∀ (x0 : S24) (x1 : List (S59)) (x2 : Int) (x3 : Int) (x4 : Bool), ((x0.f0.length ≤ maxLen ∧ ∀ y ∈ x0.f0, (y.f0.size ≤ maxLen) ∧ (y.f1.size ≤ maxLen) ∧ (True) ∧ (True) ∧ ((Lit.int .i64 y.f4).wf = true) ∧ ((Lit.int .i64 y.f5).wf = true) ∧ ((Lit.int .i64 y.f6).wf = true) ∧ (y.f7.length ≤ maxLen ∧ ∀ z ∈ y.f7, (Lit.int .i64 z).wf = true))) → (x1.length ≤ maxLen ∧ ∀ y ∈ x1, ((Lit.int .i64 y.f0).wf = true) ∧ ((Lit.int .i64 y.f1).wf = true) ∧ ((Lit.int .i64 y.f2).wf = true) ∧ (True)) → ((Lit.int .i64 x2).wf = true) → ((Lit.int .i64 x3).wf = true) → ∃ k, argosylaw14_StateSees.f k x0.f0 x1 x2 x3 x4 = some true := by
 intros
 exact ⟨0, rfl⟩
end Go.Proofs.Ytihpndignekheaa.Pure
end

section
namespace Go.Proofs.Ytihpndignekheaa.stateSees
open Go.ChangeShapes Go.WideShapes Go.ChangeAt Go.RowKit Go.Proofs.Ytihpndignekheaa.F Go.Proofs.YtihpndignekheaaW.PrintWords
open Go.ChangeMaps (open_string shut_string)
set_option linter.unusedVariables false
theorem own : ownKnob Try.prog.godebug = none := by kernel_rfl
theorem laidOut : laidOutB Try.prog = true := by kernel_rfl
theorem opens37 : Opens Try.prog 37 k37 (fun x => (x.f0.size ≤ maxLen) ∧ (x.f1.size ≤ maxLen) ∧ (True) ∧ (True) ∧ ((Lit.int .i64 x.f4).wf = true) ∧ ((Lit.int .i64 x.f5).wf = true) ∧ ((Lit.int .i64 x.f6).wf = true) ∧ (x.f7.length ≤ maxLen ∧ ∀ y ∈ x.f7, (Lit.int .i64 y).wf = true)) := by
 have h := opens_struct Try.underlying37 (by kernel_rfl) (opensF_cons rfl (by kernel_rfl) (opens_string Try.underlying9) (opensF_cons rfl (by kernel_rfl) (opens_string Try.underlying9) (opensF_cons rfl (by kernel_rfl) (opens_bool Try.underlying4) (opensF_cons rfl (by kernel_rfl) (opens_bool Try.underlying4) (opensF_cons rfl (by kernel_rfl) (opens_int Try.underlying3) (opensF_cons rfl (by kernel_rfl) (opens_int Try.underlying3) (opensF_cons rfl (by kernel_rfl) (opens_int Try.underlying3) (opensF_one rfl (by kernel_rfl) (opens_slice (0) Try.underlying35 (by kernel_rfl) (opens_int Try.underlying3))))))))))
 exact opens_iso (fun x : S37 => (x.f0, x.f1, x.f2, x.f3, x.f4, x.f5, x.f6, x.f7)) (fun y => ⟨y.1, y.2.1, y.2.2.1, y.2.2.2.1, y.2.2.2.2.1, y.2.2.2.2.2.1, y.2.2.2.2.2.2.1, y.2.2.2.2.2.2.2⟩) (fun _ => rfl) h
theorem opens24 : Opens Try.prog 24 k24 (fun x => (x.f0.length ≤ maxLen ∧ ∀ y ∈ x.f0, (y.f0.size ≤ maxLen) ∧ (y.f1.size ≤ maxLen) ∧ (True) ∧ (True) ∧ ((Lit.int .i64 y.f4).wf = true) ∧ ((Lit.int .i64 y.f5).wf = true) ∧ ((Lit.int .i64 y.f6).wf = true) ∧ (y.f7.length ≤ maxLen ∧ ∀ z ∈ y.f7, (Lit.int .i64 z).wf = true))) := by
 have h := opens_struct Try.underlying24 (by kernel_rfl) (opensF_one rfl (by kernel_rfl) (opens_slice (z37) Try.underlying22 (by kernel_rfl) opens37))
 exact opens_iso (fun x : S24 => (x.f0)) (fun y => ⟨y⟩) (fun _ => rfl) h
theorem opens59 : Opens Try.prog 59 k59 (fun x => ((Lit.int .i64 x.f0).wf = true) ∧ ((Lit.int .i64 x.f1).wf = true) ∧ ((Lit.int .i64 x.f2).wf = true) ∧ (True)) := by
 have h := opens_struct Try.underlying59 (by kernel_rfl) (opensF_cons rfl (by kernel_rfl) (opens_int Try.underlying57) (opensF_cons rfl (by kernel_rfl) (opens_int Try.underlying3) (opensF_cons rfl (by kernel_rfl) (opens_int Try.underlying3) (opensF_one rfl (by kernel_rfl) (opens_bool Try.underlying4)))))
 exact opens_iso (fun x : S59 => (x.f0, x.f1, x.f2, x.f3)) (fun y => ⟨y.1, y.2.1, y.2.2.1, y.2.2.2⟩) (fun _ => rfl) h
set_option maxRecDepth 100000 in
theorem contract (H : Type) (enc : TypeId × Value → H) (W : World) (base : Nat) (args : Array Value) (ds gs : List (DataW H)) (before : List MemPlace)
  (hval0 : ∀ (j : Nat) t v, Try.f4.params[j]? = some t → args[j]? = some v → Value.okWide Try.prog W .any base t v)
  (hW : DataW.Whole enc Try.prog Try.f4.params.toList Rows.stateSeesSpec.vars false W args.toList ds gs before) :
  Calls Try.prog 4 args W fun e W' => ∃ v, e = .returned v ∧ Rows.stateSeesSpec.post enc Try.prog Try.f4 false true false false W args v W' := by
 have hval : ∀ (j : Nat) t v, Try.f4.params[j]? = some t → args[j]? = some v → Value.okWide Try.prog W .any base t v := hval0
 have hW' := hW
 obtain ⟨p, q, hA0, hV, rfl, hfz, hnd⟩ := hW
 have hA : DataW.TrodAll enc Try.prog W 0 (fun _ => true) true Try.f4.params.toList args.toList ds p := hA0
 rw [Try.params4] at hA hval
 obtain ⟨v0, vs0, d0, ds0, p0, q0, hargs, rfl, rfl, h0, r0⟩ := trodAll_cons hA
 obtain ⟨v1, vs1, d1, ds1, p1, q1, rfl, rfl, rfl, h1, r1⟩ := trodAll_cons r0
 obtain ⟨v2, vs2, d2, ds2, p2, q2, rfl, rfl, rfl, h2, r2⟩ := trodAll_cons r1
 obtain ⟨v3, vs3, d3, ds3, p3, q3, rfl, rfl, rfl, h3, r3⟩ := trodAll_cons r2
 obtain ⟨v4, vs4, d4, ds4, p4, q4, rfl, rfl, rfl, h4, r4⟩ := trodAll_cons r3
 obtain ⟨rfl, rfl, rfl⟩ := trodAll_nil r4
 obtain rfl : args = #[v0, v1, v2, v3, v4] := by cases args; simp_all
 obtain ⟨rfl, rfl⟩ := trodVars_none hV
 have k0 := h0
 have lt0 : ∀ x ∈ p0, x.block < W.heap.size := by obtain ⟨m, hm⟩ := k0; exact DataW.trod_lt m _ _ _ hm
 obtain ⟨cs0, rfl, _⟩ := okWide_struct Try.underlying24 (hval 0 24 v0 rfl rfl)
 obtain ⟨x0, hk0, hv0⟩ : ∃ x, k24.K W x cs0.toList ∧ ((x.f0.length ≤ maxLen ∧ ∀ y ∈ x.f0, (y.f0.size ≤ maxLen) ∧ (y.f1.size ≤ maxLen) ∧ (True) ∧ (True) ∧ ((Lit.int .i64 y.f4).wf = true) ∧ ((Lit.int .i64 y.f5).wf = true) ∧ ((Lit.int .i64 y.f6).wf = true) ∧ (y.f7.length ≤ maxLen ∧ ∀ z ∈ y.f7, (Lit.int .i64 z).wf = true))) := by obtain ⟨fuel, hf⟩ := h0; exact opens24.out enc W 0 _ _ fuel _ _ hf
 obtain ⟨A0_0, c0_0, e0, hc0_0, hC0_0⟩ := k24_open hk0
 obtain rfl := (Array.toList_inj.1 (e0.trans (List.toList_toArray).symm))
 have k1 := h1
 have lt1 : ∀ x ∈ p1, x.block < W.heap.size := by obtain ⟨m, hm⟩ := k1; exact DataW.trod_lt m _ _ _ hm
 obtain ⟨a1, len1, cap1, rfl⟩ := okWide_slice Try.underlying25 (hval 1 25 v1 rfl rfl)
 obtain ⟨x1, hk1, hv1⟩ : ∃ x, ((Kd.slice 59 k59)).K W x [.slice a1 len1 cap1] ∧ (x.length ≤ maxLen ∧ ∀ y ∈ x, ((Lit.int .i64 y.f0).wf = true) ∧ ((Lit.int .i64 y.f1).wf = true) ∧ ((Lit.int .i64 y.f2).wf = true) ∧ (True)) := by obtain ⟨fuel, hf⟩ := h1; exact (opens_slice (z59) Try.underlying25 (by kernel_rfl) opens59).out enc W 0 _ _ fuel _ _ hf
 obtain ⟨A1, c1, e1, hc1, hC1⟩ := hk1
 simp only [List.cons.injEq, Value.slice.injEq, and_true] at e1
 obtain ⟨rfl, rfl, rfl⟩ := e1
 obtain ⟨x2, rfl, rfl, rfl, hv2⟩ := open_int Try.underlying3 (hval 2 3 v2 rfl rfl) h2
 obtain ⟨x3, rfl, rfl, rfl, hv3⟩ := open_int Try.underlying3 (hval 3 3 v3 rfl rfl) h3
 obtain ⟨x4, rfl, rfl, rfl⟩ := open_bool Try.underlying4 (hval 4 4 v4 rfl rfl) h4
 obtain ⟨k, h⟩ := Pure.StateSees x0 x1 x2 x3 x4 hv0 hv1 hv2 hv3
 refine (F.argosylaw14_StateSees.calls k _ _ x0.f0 _ _ x1 x2 x3 x4 true W hC0_0 hc0_0 hC1 hc1 h).mono fun e W' ⟨he, bel0⟩ => ?_
 have bel : Below W.heap.size W W' := bel0
 subst he
 exact ⟨_, rfl, _, _, _, [], _, [], hW', trodAll_mk1 (shut_bool Try.underlying4 _), (trodAll_cons_mk (Below.trod laidOut (by kernel_rfl) (of_decide_eq_true (by kernel_rfl)) k0 bel lt0) (trodAll_cons_mk (Below.trod laidOut (by kernel_rfl) (of_decide_eq_true (by kernel_rfl)) k1 bel lt1) (trodAll_cons_mk (shut_int Try.underlying3 hv2) (trodAll_cons_mk (shut_int Try.underlying3 hv3) (trodAll_cons_mk (shut_bool Try.underlying4 _) trodAll_mk0))))), rfl, bel.frame _, fun h => by cases h⟩
set_option maxRecDepth 100000 in
theorem lifted (os : Os) (started : os.Started) (H : Type) (enc : TypeId × Value → H) :
  ReturnsInHanded {} Try.checked os 4 .any (Rows.stateSeesSpec.pre6 enc Try.prog Try.f4 Rows.stateSeesRow.domain false) (Rows.stateSeesSpec.post enc Try.prog Try.f4 false true false false) := by
 refine returnsInHanded_of_change_sized (C := Try.checked) own started (by kernel_rfl) Try.func4
  (ChangeSpec.witness6 (enc := enc) (C := Try.checked) false ⟨#[], #[.agg #[.slice none 0 0], .slice none 0 0, .int .i64 0, .int .i64 0, .bool false], []⟩ 8 (by kernel_rfl) (by kernel_rfl) (by kernel_rfl) (by kernel_rfl)) ?_
 intro W base args ds gs before hval hW _ _ _
 exact contract H enc W base args ds gs before hval hW
theorem said : Rows.StateSeesSaid :=
 OpenClaim.holds_of_wide 4 Try.f4 rfl rfl rfl rfl rfl rfl rfl ⟨rfl, rfl, rfl, rfl, rfl⟩ rfl rfl rfl rfl rfl (by kernel_rfl) Try.func4 (by kernel_rfl)
  (of_decide_eq_true (by kernel_rfl)) (by unfold Func.isWrapper; first | (rw [if_pos (by decide +kernel)]; kernel_rfl) | (rw [if_neg (by decide +kernel)]; exact ⟨rfl, rfl⟩))
  (fun os started H enc _ => lifted os started H enc)
end Go.Proofs.Ytihpndignekheaa.stateSees
namespace Go.Proofs.Ytihpndignekheaa
theorem stateSees_holds : Rows.StateSeesSaid := stateSees.said
end Go.Proofs.Ytihpndignekheaa
end
