-- A contract by hand, filled by myprint.py for this seat.
import Derived.Test.YtphifpibjgeijaaFx0
import Derived.Test.YtphifpibjgeijaaOMaps
namespace Go.Proofs.Ytphifpibjgeijaa.F
open Go.RowKit Go.Proofs.YtphifpibjgeijaaW.PrintWords Go.Proofs.YtphifpibjgeijaaW.PrintLast Go.Proofs.YtphifpibjgeijaaW.PrintMore
attribute [local go_sem] max2_int min2_int max_two min_two max_three min_three max_four min_four   -- for this text's walks alone
set_option linter.unusedVariables false
set_option linter.unusedSimpArgs false

/-! trace.Check: whether what is done again went alike -/
namespace trace_Check
theorem eqA24 (d : Nat) (w : World) (x0 y0 : Int) (x1 y1 : Bool) (x2 y2 : Int) :
    (Op.equalIn (d + 2) 24 (.agg #[.int .i64 x0, .bool x1, .int .i64 x2]) (.agg #[.int .i64 y0, .bool y1, .int .i64 y2])).run Try.prog w = .ok (x0 == y0 && (x1 == y1 && (x2 == y2))) w := by
  refine eqA_of Try.underlying24 (by kernel_rfl) ?_
  refine eqf_cons (by rfl) (by go_simp; rfl) (by go_simp; rfl) (by go_simp) ?_
  refine eqf_cons (by rfl) (by go_simp; rfl) (by go_simp; rfl) (by go_simp) ?_
  exact eqf_last (by rfl) (by go_simp; rfl) (by go_simp; rfl) (by go_simp)
end trace_Check
deriving instance DecidableEq for S24
deriving instance DecidableEq for S37
def encKey (x : S24) : Value := .agg #[.int .i64 x.f0, .bool x.f1, .int .i64 x.f2]
def encEff (x : S37) : Value := .agg #[.int .i64 x.f0.f0, .bool x.f0.f1, .int .i64 x.f0.f2, .bool x.f1]
theorem key_equal (a b : S24) (w : World) : (Op.equal 24 (encKey a) (encKey b)).run Try.prog w = .ok (decide (a = b)) w := by
  have h := trace_Check.eqA24 9998 w a.f0 b.f0 a.f1 b.f1 a.f2 b.f2
  have e : (a.f0 == b.f0 && (a.f1 == b.f1 && (a.f2 == b.f2))) = decide (a = b) := by
    obtain ⟨a0, a1, a2⟩ := a
    obtain ⟨b0, b1, b2⟩ := b
    simp only [S24.mk.injEq]
    by_cases h0 : a0 = b0 <;> by_cases h1 : a1 = b1 <;> by_cases h2 : a2 = b2 <;> simp [h0, h1, h2]
  rw [e] at h
  exact h
theorem key_check_n (n : Nat) (e : Bool) (k : S24) (w : World) : (Instr.checkKey e (n + 2) 24 (.agg #[.int .i64 k.f0, .bool k.f1, .int .i64 k.f2])).run Try.prog w = .ok () w := by
  simp [Instr.checkKey, Sem.run_bind, run_underlying Try.underlying24, run_underlying Try.underlying3, run_underlying Try.underlying4, Result.andThen_ok, go_sem]
theorem key_check (e : Bool) (k : S24) (w : World) : (Instr.checkKey e 10000 24 (encKey k)).run Try.prog w = .ok () w := key_check_n 9998 e k w
theorem key_ok : KeyOk Try.prog 24 encKey where
  check := key_check
  find := by
    intro k es ks w h
    have hr := findAsking_run (encK := encKey) key_equal k w es ks 0 h
    unfold Instr.findKey
    simp only [Sem.run_bind, run_underlying Try.underlying24, Result.andThen_ok]
    cases es with
    | nil =>
      obtain rfl : ks = [] := by cases ks <;> simp_all
      rfl
    | cons e es =>
      simp only [Instr.findNow, Instr.sameNow]
      simpa using hr
  same := fun k => by simp [encKey, Instr.sameBits]
def likeLoop : List S37 → List (S24 × S37) → Int
  | [], _ => 0
  | x :: l, m => match mapLook m x.f0 with
    | some o => if o = x then likeLoop l (mapPut m x.f0 x) else 14
    | none => likeLoop l (mapPut m x.f0 x)
def trace_Check.f (l0 : List S37) : Option Int := some (likeLoop l0 [])
theorem like_drop (l : List S37) (i : Nat) (h : i < l.length) (m : List (S24 × S37)) : likeLoop (l.drop i) m = match mapLook m l[i].f0 with
    | some o => if o = l[i] then likeLoop (l.drop (i + 1)) (mapPut m l[i].f0 l[i]) else 14
    | none => likeLoop (l.drop (i + 1)) (mapPut m l[i].f0 l[i]) := by
  rw [List.drop_eq_getElem_cons h]; rfl
theorem eff_ext {a b : S37} (h0 : a.f0.f0 = b.f0.f0) (h1 : a.f0.f1 = b.f0.f1) (h2 : a.f0.f2 = b.f0.f2) (h3 : a.f1 = b.f1) : a = b := by
  obtain ⟨⟨a0, a1, a2⟩, a3⟩ := a
  obtain ⟨⟨b0, b1, b2⟩, b3⟩ := b
  simp_all
theorem eff_zero (w : World) : (zeroValue 37).run Try.prog w = .ok (encEff z37) w := by
  have := Try.zeroValue37 w
  exact this
set_option maxHeartbeats 4000000 in
set_option maxRecDepth 100000 in
theorem trace_Check.calls (A0 : Option Addr) (c0 : Nat) (l0 : List S37) (r : Int) (w : World) (hr0 : Kd.C k37 w A0 l0.length l0) (hc0 : l0.length ≤ c0) (h : trace_Check.f l0 = some r) :
    Calls Try.prog 7 #[.slice A0 l0.length c0] w fun e w' => e = .returned (.int .i64 r) ∧ Below w.heap.size w w' := by
  obtain rfl := Option.some.inj h
  clear h
  have HR := Aside0.mk hr0
  have HM := Aside0.mk (Kd.C_max hr0)
  have HL := Aside0.mk (like_drop l0)
  clear hr0
  have hmm := @run_makeMap Try.prog
  go_enter Try.func7, Try.ntmps7
  go_wp2
  clear hmm
  go_loopg [11] l0.length (fun kq v11 w' => ∃ (i : Nat) (m : List (S24 × S37)), i + kq = l0.length ∧ v11 = .int .i64 i ∧ Aside0 (MapIs encKey encEff w' w.heap.size m) ∧ Aside0 (likeLoop l0 [] = likeLoop (l0.drop i) m) ∧ Aside0 (Below w.heap.size w w'))
  case atStart => exact ⟨0, [], by omega, rfl, ⟨MapIs.made _ _ _⟩, ⟨rfl⟩, ⟨(Below.refl _ w).alloc (Nat.le_refl _) _⟩⟩
  case round =>
    obtain ⟨i, m, hi, rfl, HMP, HI, HB⟩ := hrel
    have hm := HM.out
    cases gk with
    | zero =>
      obtain rfl : i = l0.length := by omega
      have HE : Aside0 (likeLoop l0 [] = 0) := ⟨by rw [HI.out, List.drop_eq_nil_of_le (Nat.le_refl _)]; rfl⟩
      go_wp2
      go_ret
      exact ⟨by rw [HE.out]; rfl, HB.out⟩
    | succ k =>
      have hlt : i < l0.length := by omega
      obtain ⟨ad, e0, x0, x1, x2, x3⟩ := at_T37 (Kd.C_below HR.out HB.out) (i : Int) (by omega) (by omega)
      rw [Int.toNat_natCast] at x0 x1 x2 x3
      have hrd : rd_T37 l0 (i : Int) = l0[i] := by unfold rd_T37; rw [Int.toNat_natCast, List.getD_eq_getElem?_getD, List.getElem?_eq_getElem hlt]; rfl
      rw [hrd] at x0 x1 x2 x3
      subst e0
      obtain ⟨x, hx⟩ : ∃ x, l0[i] = x := ⟨_, rfl⟩
      have HD := Aside0.mk (HL.out i hlt m)
      rw [hx] at x0 x1 x2 x3 HD
      have hlt' : (i : Int) < (l0.length : Int) := by omega
      have h0 : (0 : Int) ≤ i := by omega
      have HI2 := Aside0.mk hi
      clear hx hrd hi
      have hlk := run_map_lookup key_ok Try.underlying43 eff_zero (HMP.out.alloc (.cells #[.int .i64 x.f0.f0, .bool x.f0.f1, .int .i64 x.f0.f2, .bool x.f1] 37)) x.f0 true
      simp only [if_true] at hlk
      have hup := fun (W : World) (hW : MapIs encKey encEff W w.heap.size m) => run_map_update key_ok Try.underlying43 hW x.f0 x
      cases hl : mapLook m x.f0 with
      | none =>
        rw [hl] at hlk HD
        change (Instr.lookup 43 (.map (some w.heap.size)) (.agg #[.int .i64 x.f0.f0, .bool x.f0.f1, .int .i64 x.f0.f2]) true).run Try.prog _ = .ok (.tuple #[.agg #[.int .i64 0, .bool false, .int .i64 0, .bool false], .bool false]) _ at hlk
        clear hl
        obtain ⟨w3, hu, hM3, hg3⟩ := hup ((wr.alloc (.cells #[.int .i64 x.f0.f0, .bool x.f0.f1, .int .i64 x.f0.f2, .bool x.f1] 37)).alloc (.cells #[.int .i64 0, .bool false, .int .i64 0, .bool false] 37)) ((HMP.out.alloc _).alloc _)
        change (Instr.mapUpdate 43 (.map (some w.heap.size)) (.agg #[.int .i64 x.f0.f0, .bool x.f0.f1, .int .i64 x.f0.f2]) (.agg #[.int .i64 x.f0.f0, .bool x.f0.f1, .int .i64 x.f0.f2, .bool x.f1])).run Try.prog _ = .ok () w3 at hu
        have HM3 := Aside0.mk hM3
        have HG3 := Aside0.mk hg3
        clear hM3 hg3 hup
        go_wp2
        go_roundg k
        case measure => omega
        case rel => exact ⟨i + 1, mapPut m x.f0 x, by have := HI2.out; omega, by go_num, HM3, ⟨by rw [HI.out, HD.out]⟩, ⟨(((HB.out.alloc HB.out.size _).alloc (by simp; have := HB.out.size; omega) _).grown HG3.out (by simp; have := HB.out.size; omega) (fun k e => by cases e; exact Nat.le_refl _))⟩⟩
      | some o =>
        rw [hl] at hlk HD
        change (Instr.lookup 43 (.map (some w.heap.size)) (.agg #[.int .i64 x.f0.f0, .bool x.f0.f1, .int .i64 x.f0.f2]) true).run Try.prog _ = .ok (.tuple #[.agg #[.int .i64 o.f0.f0, .bool o.f0.f1, .int .i64 o.f0.f2, .bool o.f1], .bool true]) _ at hlk
        clear hl
        obtain ⟨w3, hu, hM3, hg3⟩ := hup ((wr.alloc (.cells #[.int .i64 x.f0.f0, .bool x.f0.f1, .int .i64 x.f0.f2, .bool x.f1] 37)).alloc (.cells #[.int .i64 o.f0.f0, .bool o.f0.f1, .int .i64 o.f0.f2, .bool o.f1] 37)) ((HMP.out.alloc _).alloc _)
        change (Instr.mapUpdate 43 (.map (some w.heap.size)) (.agg #[.int .i64 x.f0.f0, .bool x.f0.f1, .int .i64 x.f0.f2]) (.agg #[.int .i64 x.f0.f0, .bool x.f0.f1, .int .i64 x.f0.f2, .bool x.f1])).run Try.prog _ = .ok () w3 at hu
        have HM3 := Aside0.mk hM3
        have HG3 := Aside0.mk hg3
        clear hM3 hg3 hup
        by_cases ho : o = x
        · subst ho
          have HD2 := Aside0.mk (HD.out.trans (if_pos rfl))
          go_wp2
          go_roundg k
          case measure => omega
          case rel => exact ⟨i + 1, mapPut m o.f0 o, by have := HI2.out; omega, by go_num, HM3, ⟨by rw [HI.out, HD2.out]⟩, ⟨(((HB.out.alloc HB.out.size _).alloc (by simp; have := HB.out.size; omega) _).grown HG3.out (by simp; have := HB.out.size; omega) (fun k e => by cases e; exact Nat.le_refl _))⟩⟩
        · have HD2 := Aside0.mk (HD.out.trans (if_neg ho))
          have HO := Aside0.mk ho
          clear ho
          go_wp2
          all_goals first
            | (go_ret; exact ⟨by rw [HI.out, HD2.out]; rfl, (HB.out.alloc HB.out.size _).alloc (by simp; have := HB.out.size; omega) _⟩)
            | (exfalso; refine HO.out (eff_ext ?_ ?_ ?_ ?_) <;> first | assumption | (symm; assumption) | simp_all)

end Go.Proofs.Ytphifpibjgeijaa.F
