-- A contract by hand, filled by myprint.py for this seat.
import Derived.Test.YtphifpibjgeijaaFx0
import Derived.Test.YtphifpibjgeijaaOtraceCheck
namespace Go.Proofs.Ytphifpibjgeijaa.F
open Go.RowKit Go.Proofs.YtphifpibjgeijaaW.PrintWords Go.Proofs.YtphifpibjgeijaaW.PrintLast Go.Proofs.YtphifpibjgeijaaW.PrintMore
attribute [local go_sem] max2_int min2_int max_two min_two max_three min_three max_four min_four   -- for this text's walks alone
set_option linter.unusedVariables false
set_option linter.unusedSimpArgs false

/-! trace.courses: where an item was done well, tried to be undone, and undone well, first -/
structure Course where
  done : Int
  tried : Int
  undone : Int
  early : Bool
  late : Bool
def course0 : Course := ⟨0, 0, 0, false, false⟩
def encCourse (c : Course) : Value := .agg #[.int .i64 c.done, .int .i64 c.tried, .int .i64 c.undone, .bool c.early, .bool c.late]
/-- What an effect at place i does to its item's course. -/
def courseStep (c : Course) (i : Int) (x : S37) : Course :=
  if x.f0.f1 = false then (if x.f1 = true ∧ c.done = 0 then { c with done := i + 1 } else c)
  else ⟨c.done, if c.tried = 0 then i + 1 else c.tried, if x.f1 = true ∧ c.undone = 0 then i + 1 else c.undone, c.early || (c.done == 0), c.late || decide (c.undone > 0)⟩
def coursesOf : List S37 → Int → List (Int × Course) → List (Int × Course)
  | [], _, m => m
  | x :: l, i, m => coursesOf l (i + 1) (mapPut m x.f0.f0 (courseStep ((mapLook m x.f0.f0).getD course0) i x))
theorem courses_drop (l : List S37) (i : Nat) (h : i < l.length) (m : List (Int × Course)) (v : Int) : coursesOf (l.drop i) v m = coursesOf (l.drop (i + 1)) (v + 1) (mapPut m l[i].f0.f0 (courseStep ((mapLook m l[i].f0.f0).getD course0) v l[i])) := by
  rw [List.drop_eq_getElem_cons h]; rfl
theorem tt0 {d : Int} (h : (d == 0) = true) : d = 0 := by simpa using h
theorem ff0 {d : Int} (h : (d == 0) = false) : ¬ d = 0 := by simpa using h
theorem course_zero (w : World) : (zeroValue 58).run Try.prog w = .ok (encCourse course0) w := Try.zeroValue58 w
set_option maxHeartbeats 8000000 in
set_option maxRecDepth 100000 in
theorem courses_calls (A0 : Option Addr) (c0 : Nat) (l0 : List S37) (w : World) (hr0 : Kd.C k37 w A0 l0.length l0) (hc0 : l0.length ≤ c0) :
    Calls Try.prog 25 #[.slice A0 l0.length c0] w fun e w' => e = .returned (.map (some w.heap.size)) ∧ MapIs (fun n : Int => Value.int .i64 n) encCourse w' w.heap.size (coursesOf l0 0 []) ∧ Below w.heap.size w w' := by
  have HR := Aside0.mk hr0
  have HM := Aside0.mk (Kd.C_max hr0)
  have HL := Aside0.mk (courses_drop l0)
  clear hr0
  have hmm := @run_makeMap Try.prog
  go_enter Try.func25, Try.ntmps25
  go_wp2
  clear hmm
  go_loopg [10] l0.length (fun kq v10 w' => ∃ (i : Nat) (m : List (Int × Course)), i + kq = l0.length ∧ v10 = .int .i64 i ∧ Aside0 (MapIs (fun n : Int => Value.int .i64 n) encCourse w' w.heap.size m) ∧ Aside0 (coursesOf l0 0 [] = coursesOf (l0.drop i) i m) ∧ Aside0 (Below w.heap.size w w'))
  case atStart => exact ⟨0, [], by omega, rfl, ⟨MapIs.made _ _ _⟩, ⟨rfl⟩, ⟨(Below.refl _ w).alloc (Nat.le_refl _) _⟩⟩
  case round =>
    obtain ⟨i, m, hi, rfl, HMP, HI, HB⟩ := hrel
    have hm := HM.out
    cases gk with
    | zero =>
      obtain rfl : i = l0.length := by omega
      have HE : Aside0 (coursesOf l0 0 [] = m) := ⟨by rw [HI.out, List.drop_eq_nil_of_le (Nat.le_refl _)]; rfl⟩
      go_wp2
      go_ret
      exact ⟨rfl, by rw [HE.out]; exact HMP.out, HB.out⟩
    | succ k =>
      have hlt : i < l0.length := by omega
      obtain ⟨ad, e0, x0, x1, x2, x3⟩ := at_T37 (Kd.C_below HR.out HB.out) (i : Int) (by omega) (by omega)
      rw [Int.toNat_natCast] at x0 x1 x2 x3
      have hrd : rd_T37 l0 (i : Int) = l0[i] := by unfold rd_T37; rw [Int.toNat_natCast, List.getD_eq_getElem?_getD, List.getElem?_eq_getElem hlt]; rfl
      rw [hrd] at x0 x1 x2 x3
      subst e0
      obtain ⟨x, hx⟩ : ∃ x, l0[i] = x := ⟨_, rfl⟩
      have HD := Aside0.mk (HL.out i hlt m (i : Int))
      rw [hx] at x0 x1 x2 x3 HD
      have hlt' : (i : Int) < (l0.length : Int) := by omega
      have h0 : (0 : Int) ≤ i := by omega
      have HI2 := Aside0.mk hi
      clear hx hrd hi
      obtain ⟨⟨⟨xa, xb, xc⟩, xd⟩, hxe⟩ : ∃ y, x = y := ⟨_, rfl⟩
      subst hxe
      simp only at x0 x1 x2 x3
      have hlk := run_map_lookup (key_ok_int Try.underlying3) Try.underlying51 course_zero (HMP.out.alloc (.cells #[.int .i64 xa, .bool xb, .int .i64 xc, .bool xd] 37)) xa false
      simp only [Bool.false_eq_true, if_false] at hlk
      have hup := fun (W : World) (c : Course) (hW : MapIs (fun n : Int => Value.int .i64 n) encCourse W w.heap.size m) => run_map_update (key_ok_int Try.underlying3) Try.underlying51 hW xa c
      have HUP := Aside0.mk hup
      clear hup
      obtain ⟨⟨d0, d1, d2, d3, d4⟩, hce⟩ : ∃ c, (mapLook m xa).getD course0 = c := ⟨_, rfl⟩
      rw [hce] at hlk
      have HC := Aside0.mk hce
      clear hce
      change (Instr.lookup 51 (.map (some w.heap.size)) (.int .i64 xa) false).run Try.prog _ = .ok (.agg #[.int .i64 d0, .int .i64 d1, .int .i64 d2, .bool d3, .bool d4]) _ at hlk
      have hex : ∀ c : Course, ∃ w3, (Instr.mapUpdate 51 (.map (some w.heap.size)) (.int .i64 xa) (encCourse c)).run Try.prog ((wr.alloc (.cells #[.int .i64 xa, .bool xb, .int .i64 xc, .bool xd] 37)).alloc (.cells #[.int .i64 c.done, .int .i64 c.tried, .int .i64 c.undone, .bool c.early, .bool c.late] 58)) = .ok () w3 ∧
          MapIs (fun n : Int => Value.int .i64 n) encCourse w3 w.heap.size (mapPut m xa c) ∧ World.grownBy ((wr.alloc (.cells #[.int .i64 xa, .bool xb, .int .i64 xc, .bool xd] 37)).alloc (.cells #[.int .i64 c.done, .int .i64 c.tried, .int .i64 c.undone, .bool c.early, .bool c.late] 58)) w3 (some w.heap.size) := fun c => HUP.out _ c ((HMP.out.alloc _).alloc _)
      obtain ⟨f, hf⟩ : ∃ f : Course → World, ∀ c, (Instr.mapUpdate 51 (.map (some w.heap.size)) (.int .i64 xa) (encCourse c)).run Try.prog ((wr.alloc (.cells #[.int .i64 xa, .bool xb, .int .i64 xc, .bool xd] 37)).alloc (.cells #[.int .i64 c.done, .int .i64 c.tried, .int .i64 c.undone, .bool c.early, .bool c.late] 58)) = .ok () (f c) ∧
          MapIs (fun n : Int => Value.int .i64 n) encCourse (f c) w.heap.size (mapPut m xa c) ∧ World.grownBy ((wr.alloc (.cells #[.int .i64 xa, .bool xb, .int .i64 xc, .bool xd] 37)).alloc (.cells #[.int .i64 c.done, .int .i64 c.tried, .int .i64 c.undone, .bool c.early, .bool c.late] 58)) (f c) (some w.heap.size) :=
        ⟨fun c => Classical.choose (hex c), fun c => Classical.choose_spec (hex c)⟩
      have hu : ∀ (n0 n1 n2 : Int) (n3 n4 : Bool), (Instr.mapUpdate 51 (.map (some w.heap.size)) (.int .i64 xa) (.agg #[.int .i64 n0, .int .i64 n1, .int .i64 n2, .bool n3, .bool n4])).run Try.prog ((wr.alloc (.cells #[.int .i64 xa, .bool xb, .int .i64 xc, .bool xd] 37)).alloc (.cells #[.int .i64 n0, .int .i64 n1, .int .i64 n2, .bool n3, .bool n4] 58)) = .ok () (f ⟨n0, n1, n2, n3, n4⟩) := fun n0 n1 n2 n3 n4 => (hf ⟨n0, n1, n2, n3, n4⟩).1
      have HF := Aside0.mk (fun c => (hf c).2)
      clear hf hex HUP
      have fin : ∀ c : Course, Aside0 (courseStep ⟨d0, d1, d2, d3, d4⟩ i ⟨⟨xa, xb, xc⟩, xd⟩ = c) → ∃ (i' : Nat) (m' : List (Int × Course)), i' + k = l0.length ∧ Value.int .i64 ((i : Int) + 1) = .int .i64 i' ∧ Aside0 (MapIs (fun n : Int => Value.int .i64 n) encCourse (f c) w.heap.size m') ∧ Aside0 (coursesOf l0 0 [] = coursesOf (l0.drop i') i' m') ∧ Aside0 (Below w.heap.size w (f c)) := by
        intro c hc
        refine ⟨i + 1, mapPut m xa c, by have := HI2.out; omega, by go_num, ⟨(HF.out c).1⟩, ⟨?_⟩, ⟨(((HB.out.alloc HB.out.size _).alloc (by simp; have := HB.out.size; omega) _).grown (HF.out c).2 (by simp; have := HB.out.size; omega) (fun k e => by cases e; exact Nat.le_refl _))⟩⟩
        have e1 := HD.out
        simp only [HC.out, hc.out] at e1
        rw [HI.out, e1]
        rfl
      have FIN := Aside0.mk fin
      clear fin HC HD
      cases xb
      all_goals cases xd
      all_goals go_wp2
      all_goals
        go_roundg k
        case measure => omega
        case rel =>
          refine FIN.out _ ⟨?_⟩
          (try have q0 := tt0 (d := d0) (by assumption))
          (try have q0 := ff0 (d := d0) (by assumption))
          (try have q1 := tt0 (d := d1) (by assumption))
          (try have q1 := ff0 (d := d1) (by assumption))
          (try have q2 := tt0 (d := d2) (by assumption))
          (try have q2 := ff0 (d := d2) (by assumption))
          clear FIN HF hu hlk
          first
            | (simp [courseStep, *]; done)
            | (simp [courseStep, *] <;> rfl)

end Go.Proofs.Ytphifpibjgeijaa.F
