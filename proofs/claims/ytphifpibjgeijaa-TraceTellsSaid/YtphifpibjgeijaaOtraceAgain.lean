-- A contract by hand, filled by myprint.py for this seat.
import Derived.Test.YtphifpibjgeijaaFx0
import Derived.Test.YtphifpibjgeijaaOtraceCheck
import Derived.RegionTactic
import Derived.ChangeAlike
namespace Go.Proofs.Ytphifpibjgeijaa.F
open Go.RowKit Go.Proofs.YtphifpibjgeijaaW.PrintWords Go.Proofs.YtphifpibjgeijaaW.PrintLast Go.Proofs.YtphifpibjgeijaaW.PrintMore
attribute [local go_sem] max2_int min2_int max_two min_two max_three min_three max_four min_four   -- for this text's walks alone
set_option linter.unusedVariables false
set_option linter.unusedSimpArgs false

/-! trace.Again: how many effects are of keys that were done ahead -/
def countKeys : List S37 → List (S24 × Int) → List (S24 × Int)
  | [], m => m
  | x :: l, m => countKeys l (mapPut m x.f0 (wrap64 (((mapLook m x.f0).getD 0) + 1)))
def trace_Again.f (l0 : List S37) : Option Int := some (wrap64 ((l0.length : Int) - ((countKeys l0 []).length : Int)))
theorem count_drop (l : List S37) (i : Nat) (h : i < l.length) (m : List (S24 × Int)) : countKeys (l.drop i) m = countKeys (l.drop (i + 1)) (mapPut m l[i].f0 (wrap64 (((mapLook m l[i].f0).getD 0) + 1))) := by
  rw [List.drop_eq_getElem_cons h]; rfl
theorem int_zero (w : World) : (zeroValue 3).run Try.prog w = .ok ((fun n : Int => Value.int .i64 n) 0) w := Try.zeroValue3 w
set_option maxHeartbeats 4000000 in
set_option maxRecDepth 100000 in
theorem trace_Again.calls (A0 : Option Addr) (c0 : Nat) (l0 : List S37) (r : Int) (w : World) (hr0 : Kd.C k37 w A0 l0.length l0) (hc0 : l0.length ≤ c0) (h : trace_Again.f l0 = some r) :
    Calls Try.prog 9 #[.slice A0 l0.length c0] w fun e w' => e = .returned (.int .i64 r) ∧ Below w.heap.size w w' := by
  obtain rfl := Option.some.inj h
  clear h
  have HR := Aside0.mk hr0
  have HM := Aside0.mk (Kd.C_max hr0)
  have HL := Aside0.mk (count_drop l0)
  clear hr0
  have hmm := @run_makeMap Try.prog
  go_enter Try.func9, Try.ntmps9
  go_wp2
  clear hmm
  go_loopg [9] l0.length (fun kq v9 w' => ∃ (i : Nat) (m : List (S24 × Int)), i + kq = l0.length ∧ v9 = .int .i64 i ∧ Aside0 (MapIs encKey (fun n : Int => Value.int .i64 n) w' w.heap.size m) ∧ Aside0 (countKeys l0 [] = countKeys (l0.drop i) m) ∧ Aside0 (Below w.heap.size w w'))
  case atStart => exact ⟨0, [], by omega, rfl, ⟨MapIs.made _ _ _⟩, ⟨rfl⟩, ⟨(Below.refl _ w).alloc (Nat.le_refl _) _⟩⟩
  case round =>
    obtain ⟨i, m, hi, rfl, HMP, HI, HB⟩ := hrel
    have hm := HM.out
    cases gk with
    | zero =>
      obtain rfl : i = l0.length := by omega
      have HE : Aside0 (countKeys l0 [] = m) := ⟨by rw [HI.out, List.drop_eq_nil_of_le (Nat.le_refl _)]; rfl⟩
      have hlen := run_map_len (P := Try.prog) 3 Try.underlying45 HMP.out
      go_wp2
      go_ret
      exact ⟨by rw [HE.out]; rfl, HB.out⟩
    | succ k =>
      have hlt : i < l0.length := by omega
      obtain ⟨ad, e0, x0, x1, x2, x3⟩ := at_T37 (Kd.C_below HR.out HB.out) (i : Int) (by omega) (by omega)
      rw [Int.toNat_natCast] at x0 x1 x2 x3
      have hrd : rd_T37 l0 (i : Int) = l0[i] := by unfold rd_T37; rw [Int.toNat_natCast, List.getD_eq_getElem?_getD, List.getElem?_eq_getElem hlt]; rfl
      rw [hrd] at x0 x1 x2 x3
      subst e0
      obtain ⟨x, hx⟩ : ∃ x, l0[i] = x := ⟨_, rfl⟩
      have HD := Aside0.mk (HL.out i hlt m)
      rw [hx] at x0 x1 x2 x3 HD
      have hlt' : (i : Int) < (l0.length : Int) := by omega
      have h0 : (0 : Int) ≤ i := by omega
      have HI2 := Aside0.mk hi
      clear hx hrd hi
      obtain ⟨W, HW⟩ : ∃ W, Aside0 (W = (wr.alloc (.cells #[.int .i64 x.f0.f0, .bool x.f0.f1, .int .i64 x.f0.f2, .bool x.f1] 37)).drew) := ⟨_, ⟨rfl⟩⟩
      have HMW : Aside0 (MapIs encKey (fun n : Int => Value.int .i64 n) W w.heap.size m) := ⟨by rw [HW.out]; exact (HMP.out.alloc _).drew⟩
      obtain ⟨n, hn⟩ : ∃ n, (mapLook m x.f0).getD 0 = n := ⟨_, rfl⟩
      have hl1 := run_map_lookup key_ok Try.underlying45 int_zero HMW.out x.f0 false
      obtain ⟨w3, j, he1, hM3, hg3, hj⟩ := run_map_entry key_ok Try.underlying45 int_zero HMW.out x.f0
      have hl2 := run_map_lookup key_ok Try.underlying45 int_zero hM3 x.f0 false
      obtain ⟨w4, hs1, hM4, hg4⟩ := run_entry_store (P := Try.prog) (T := 45) hM3 hj (wrap64 (n + 1))
      rw [put_put] at hM4
      rw [put_look] at hl2
      rw [hn] at hl1 he1 hl2 HD
      change (Instr.lookup 45 (.map (some w.heap.size)) (.agg #[.int .i64 x.f0.f0, .bool x.f0.f1, .int .i64 x.f0.f2]) false).run Try.prog W = .ok (.int .i64 n) W at hl1
      change (Instr.lookup 45 (.map (some w.heap.size)) (.agg #[.int .i64 x.f0.f0, .bool x.f0.f1, .int .i64 x.f0.f2]) false).run Try.prog w3 = .ok (.int .i64 n) w3 at hl2
      change (Instr.mapEntry 45 (.map (some w.heap.size)) (.agg #[.int .i64 x.f0.f0, .bool x.f0.f1, .int .i64 x.f0.f2])).run Try.prog W = .ok (.tuple #[.int .i64 n, .int .i64 (j : Nat)]) w3 at he1
      change (Instr.entryStore 45 (.map (some w.heap.size)) (.int .i64 (j : Nat)) (.int .i64 (wrap64 (n + 1)))).run Try.prog w3 = .ok () w4 at hs1
      rw [HW.out] at hl1 he1
      have HM4 := Aside0.mk hM4
      have HG3 := Aside0.mk hg3
      have HG4 := Aside0.mk hg4
      have HN := Aside0.mk hn
      clear hM3 hg3 hM4 hg4 hj hn
      have HBW : Aside0 (Below w.heap.size w W) := ⟨by rw [HW.out]; exact below_drew (HB.out.alloc HB.out.size _)⟩
      go_wp2
      go_region
      go_wp2
      go_roundg k
      case measure => omega
      case rel => exact ⟨i + 1, _, by have := HI2.out; omega, by go_num, HM4, ⟨by rw [HI.out, HD.out]⟩, ⟨(HBW.out.grown HG3.out HBW.out.size (fun k e => by cases e; exact Nat.le_refl _)).grown HG4.out (Nat.le_trans HBW.out.size HG3.out.size) (fun k e => by cases e; exact Nat.le_refl _)⟩⟩

end Go.Proofs.Ytphifpibjgeijaa.F
