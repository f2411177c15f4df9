-- A contract by hand, filled by myprint.py for this seat.
import Derived.Test.YtphifpibjgeijaaFx0
namespace Go.Proofs.Ytphifpibjgeijaa.F
open Go.RowKit Go.Proofs.YtphifpibjgeijaaW.PrintWords Go.Proofs.YtphifpibjgeijaaW.PrintLast Go.Proofs.YtphifpibjgeijaaW.PrintMore
attribute [local go_sem] max2_int min2_int max_two min_two max_three min_three max_four min_four   -- for this text's walks alone
set_option linter.unusedVariables false
set_option linter.unusedSimpArgs false

/-! trace.Find: where a key was done first -/
def keyIs (a : Int) (b : Bool) (c : Int) (x : S37) : Bool := x.f0.f0 == a && x.f0.f1 == b && x.f0.f2 == c
def idxFrom (p : S37 → Bool) : List S37 → Int → Int
  | [], _ => -1
  | x :: l, i => if p x then i else idxFrom p l (i + 1)
def trace_Find.f (l0 : List S37) (a1_0 : Int) (a1_1 : Bool) (a1_2 : Int) : Option Int := some (idxFrom (keyIs a1_0 a1_1 a1_2) l0 0)
theorem idxFrom_drop (p : S37 → Bool) (l : List S37) (i : Nat) (h : i < l.length) (v : Int) : idxFrom p (l.drop i) v = if p l[i] then v else idxFrom p (l.drop (i + 1)) (v + 1) := by
  rw [List.drop_eq_getElem_cons h]; rfl

set_option maxHeartbeats 2000000 in
set_option maxRecDepth 100000 in
theorem find_lit (g : Nat) (x : S37) (a : Int) (b : Bool) (c : Int) (w : World) (hg : w.heap[g]? = some (.cells #[.int .i64 a, .bool b, .int .i64 c] 24 (0, 0))) :
    Calls Try.prog 22 #[.agg #[.int .i64 x.f0.f0, .bool x.f0.f1, .int .i64 x.f0.f2, .bool x.f1], .pointer (some ⟨g, 0, none⟩)] w fun e w' => e = .returned (.bool (keyIs a b c x)) ∧ Below w.heap.size w w' := by
  have hlt := blk_lt hg
  have c0 : w.cell? ⟨g, 0, none⟩ = some (.int .i64 a) := (blk_cell hg 0).trans rfl
  have c1 : w.cell? ⟨g, 1, none⟩ = some (.bool b) := (blk_cell hg 1).trans rfl
  have c2 : w.cell? ⟨g, 2, none⟩ = some (.int .i64 c) := (blk_cell hg 2).trans rfl
  go_enter Try.func22, Try.ntmps22
  go_wp2
  all_goals (go_ret; refine ⟨?_, (Below.refl _ _).alloc (Nat.le_refl _) _⟩; simp [keyIs, *])

set_option maxHeartbeats 4000000 in
set_option maxRecDepth 100000 in
theorem find_index (A0 : Option Addr) (c0 : Nat) (l0 : List S37) (g : Nat) (a : Int) (b : Bool) (c : Int) (w : World) (hr0 : Kd.C k37 w A0 l0.length l0) (hc0 : l0.length ≤ c0) (hg : w.heap[g]? = some (.cells #[.int .i64 a, .bool b, .int .i64 c] 24 (0, 0))) :
    Calls Try.prog 21 #[.slice A0 l0.length c0, .func (.func 22) #[] #[.pointer (some ⟨g, 0, none⟩)]] w fun e w' => e = .returned (.int .i64 (idxFrom (keyIs a b c) l0 0)) ∧ Below w.heap.size w w' := by
  have HR := Aside0.mk hr0
  have HG := Aside0.mk hg
  have HB := Aside0.mk (Below.refl w.heap.size w)
  have HM := Aside0.mk (Kd.C_max hr0)
  have HL := Aside0.mk (idxFrom_drop (keyIs a b c) l0)
  clear hr0 hg
  go_enter Try.func21, Try.ntmps21
  go_wp2
  go_loopg [5, 8] l0.length (fun kq v5 v8 w' => ∃ i : Nat, i + kq = l0.length ∧ v8 = .int .i64 i ∧ Aside0 (idxFrom (keyIs a b c) l0 0 = idxFrom (keyIs a b c) (l0.drop i) i) ∧ Aside0 (Below w.heap.size w w'))
  case atStart => exact ⟨0, by omega, rfl, ⟨rfl⟩, ⟨Below.refl _ _⟩⟩
  case round =>
    obtain ⟨i, hi, rfl, HI, HB⟩ := hrel
    have hm := HM.out
    cases gk with
    | zero =>
      obtain rfl : i = l0.length := by omega
      have HE : Aside0 (idxFrom (keyIs a b c) l0 0 = -1) := ⟨by rw [HI.out, List.drop_eq_nil_of_le (Nat.le_refl _)]; rfl⟩
      go_wp2
      go_ret
      exact ⟨by rw [HE.out]; rfl, HB.out⟩
    | succ k =>
      have hlt : i < l0.length := by omega
      obtain ⟨ad, e0, x0, x1, x2, x3⟩ := at_T37 (Kd.C_below HR.out HB.out) (i : Int) (by omega) (by omega)
      rw [Int.toNat_natCast] at x0 x1 x2 x3
      have hrd : rd_T37 l0 (i : Int) = l0[i] := by unfold rd_T37; rw [Int.toNat_natCast, List.getD_eq_getElem?_getD, List.getElem?_eq_getElem hlt]; rfl
      rw [hrd] at x0 x1 x2 x3
      subst e0
      have HGR := Aside0.mk ((HB.out.block g (blk_lt HG.out)).trans HG.out)
      obtain ⟨x, hx⟩ : ∃ x, l0[i] = x := ⟨_, rfl⟩
      have HD := Aside0.mk (HL.out i hlt (i : Int))
      rw [hx] at x0 x1 x2 x3 HD
      have hlt' : (i : Int) < (l0.length : Int) := by omega
      have h0 : (0 : Int) ≤ i := by omega
      have HI2 := Aside0.mk hi
      clear hx hrd hi
      obtain ⟨v, hv⟩ : ∃ v, keyIs a b c x = v := ⟨_, rfl⟩
      have HV := Aside0.mk hv
      clear hv
      cases v
      all_goals
        go_wp2_with (go_at_call 22; refine (find_lit g x a b c _ HGR.out).mono ?_; rintro e w2 ⟨rfl, hB2⟩; rw [HV.out]; have HB2 := Aside0.mk hB2; clear hB2)
      · go_roundg k
        case measure => omega
        case rel => exact ⟨i + 1, by have := HI2.out; omega, by go_num, ⟨by rw [HI.out, HD.out, HV.out]; simp⟩, ⟨HB.out.trans (HB2.out.mono HB.out.size)⟩⟩
      · go_ret
        exact ⟨by rw [HI.out, HD.out, HV.out]; rfl, HB.out.trans (HB2.out.mono HB.out.size)⟩

set_option maxHeartbeats 2000000 in
set_option maxRecDepth 100000 in
theorem trace_Find.calls (A0 : Option Addr) (c0 : Nat) (l0 : List S37) (a1_0 : Int) (a1_1 : Bool) (a1_2 : Int) (r : Int) (w : World) (hr0 : Kd.C k37 w A0 l0.length l0) (hc0 : l0.length ≤ c0) (h : trace_Find.f l0 a1_0 a1_1 a1_2 = some r) :
    Calls Try.prog 11 #[.slice A0 l0.length c0, .agg #[.int .i64 a1_0, .bool a1_1, .int .i64 a1_2]] w fun e w' => e = .returned (.int .i64 r) ∧ Below w.heap.size w w' := by
  obtain rfl := Option.some.inj h
  have HR := Aside0.mk hr0
  clear hr0 h
  go_enter Try.func11, Try.ntmps11
  go_wp2_with (go_at_call 21; refine (find_index A0 c0 l0 w.heap.size a1_0 a1_1 a1_2 _ (Kd.C_alloc HR.out _) hc0 (heap_alloc_new w _)).mono ?_; rintro e w2 ⟨rfl, hB2⟩; have HB2 := Aside0.mk hB2; clear hB2)
  go_ret
  exact ⟨rfl, ((Below.refl _ w).alloc (Nat.le_refl _) _).trans (HB2.out.mono (by simp))⟩

end Go.Proofs.Ytphifpibjgeijaa.F
