-- A contract by hand, filled by myprint.py for this seat.
import Derived.Test.YtphifpibjgeijaaFx0
import Derived.Test.YtphifpibjgeijaaOtraceAgain
import Derived.RangeFuncNested
import Derived.RangeFuncLeaves
import Derived.RegionIn
import Derived.LoopIn
import Derived.TacticsInMore
import Derived.OwnWalkIn
import Derived.Shelf.AbstractIn
namespace Go.Proofs.Ytphifpibjgeijaa.F
open Go.RowKit Go.Proofs.YtphifpibjgeijaaW.PrintWords Go.Proofs.YtphifpibjgeijaaW.PrintLast Go.Proofs.YtphifpibjgeijaaW.PrintMore
attribute [local go_sem] max2_int min2_int max_two min_two max_three min_three max_four min_four   -- for this text's walks alone
set_option linter.unusedVariables false
set_option linter.unusedSimpArgs false

/-! trace.lasts: the iterator over each key's last effect, from the end -/
def lastsRun : List S37 → List (S24 × Int) → List S37
  | [], _ => []
  | x :: l, m => if wrap64 (((mapLook m x.f0).getD 0) + 1) = 1 then x :: lastsRun l (mapPut m x.f0 (wrap64 (((mapLook m x.f0).getD 0) + 1))) else lastsRun l (mapPut m x.f0 (wrap64 (((mapLook m x.f0).getD 0) + 1)))
def lastsOf (l : List S37) : List S37 := lastsRun l.reverse []
theorem lasts_take (l : List S37) (i : Nat) (h : i < l.length) (m : List (S24 × Int)) : lastsRun (l.take (i + 1)).reverse m = if wrap64 (((mapLook m l[i].f0).getD 0) + 1) = 1 then l[i] :: lastsRun (l.take i).reverse (mapPut m l[i].f0 (wrap64 (((mapLook m l[i].f0).getD 0) + 1))) else lastsRun (l.take i).reverse (mapPut m l[i].f0 (wrap64 (((mapLook m l[i].f0).getD 0) + 1))) := by
  rw [List.take_succ_eq_append_getElem h, List.reverse_append]; rfl
def effArgs (x : S37) : Array Value := #[.agg #[.int .i64 x.f0.f0, .bool x.f0.f1, .int .i64 x.f0.f2, .bool x.f1]]
def effCells (x : S37) : List Value := [.int .i64 x.f0.f0, .bool x.f0.f1, .int .i64 x.f0.f2, .bool x.f1]
/-- What a round that goes on keeps: what lay below n₀; the walk's objects; the captured box. -/
structure KeepLasts (n₀ Bn : Nat) (A B : World) : Prop where
  below : Below n₀ A B
  walks : KeepsWalks A B
  box : ∀ v, Boxed A Bn 22 v → Boxed B Bn 22 v
theorem KeepLasts.trans {n₀ Bn : Nat} {A B C : World} (h : KeepLasts n₀ Bn A B) (k : KeepLasts n₀ Bn B C) : KeepLasts n₀ Bn A C := ⟨h.below.trans k.below, h.walks.trans k.walks, fun v hv => k.box v (h.box v hv)⟩
theorem MapIs.kept {κ ν : Type} {encK : κ → Value} {encV : ν → Value} {w w' : World} {b : Nat} {m : List (κ × ν)} (h : MapIs encK encV w b m) (hk : KeepsWalks w w') : MapIs encK encV w' b m := by
  obtain ⟨es, h1, h2⟩ := h.entries
  exact h.of_block ((hk.same b _ h1 rfl).trans h1.symm)
theorem MapIs.walk {κ ν : Type} {encK : κ → Value} {encV : ν → Value} {w : World} {b : Nat} {m : List (κ × ν)} (h : MapIs encK encV w b m) : ∃ o : Obj, w.heap[b]? = some o ∧ o.isWalk = true := by
  obtain ⟨es, h1, h2⟩ := h.entries
  exact ⟨_, h1, rfl⟩
theorem grownDrew (w : World) : w.grownBy w.drew none := ⟨rfl, rfl, rfl, Nat.le_refl _, fun _ _ _ => rfl⟩
theorem skip_wide {n : Nat} {P : Program} {ops : Array Oper} {Q : Exit → Act → World → Prop} {rest : List Oper} {o : Oper} {a : Act} {w : World} (hw : Region.wanted o (yielded ops a.tmps) = false) (h : wpListIn Fence.wide n P ops Q rest (a.put o.dst undef) w) : wpListIn Fence.wide n P ops Q (o :: rest) a w := by
  simp only [wpListIn, hw]
  exact ⟨fun _ _ => trivial, h⟩
def posOf : Value → Nat
  | .int _ n => (n + 1).toNat
  | _ => 0
set_option maxHeartbeats 8000000 in
set_option maxRecDepth 100000 in
theorem lasts_round (n : Nat) (hn : 1 ≤ n) (l Bn n₀ : Nat) (A0 : Option Addr) (c0 : Nat) (l0 : List S37) (J Jx : List S37 → World → Prop)
    (hY : ∀ pre x W, J pre W → pre.length < l0.length → YieldAt Fence.wide (n - 1) Try.prog l (effArgs x) W fun e W' =>
      (e = .returned (.bool true) ∧ J (pre ++ [x]) W' ∧ KeepLasts n₀ Bn W W') ∨ (e = .returned (.bool false) ∧ Jx (pre ++ [x]) W'))
    (W0 : World) (hJ : AbidesFrom W0.heap.size J) (hn₀ : n₀ ≤ W0.heap.size) (hBn : Boxed W0 Bn 22 (.slice A0 l0.length c0)) (hC : ∀ W, Below n₀ W0 W → Kd.C k37 W A0 l0.length l0) (hc0 : l0.length ≤ c0) (hmax : l0.length ≤ maxLen) (h0 : J [] W0) :
    CallsIn Fence.wide n Try.prog 29 #[.func (.yield l) #[] #[], .pointer (some ⟨Bn, 0, none⟩)] W0 fun e W' => (∃ v, e = .returned v) ∧
      ((∃ ys, ys = lastsOf l0 ∧ J ys W') ∨ (∃ pre, True ∧ Jx pre W')) := by
  have HY := Aside0.mk hY
  have HJ := Aside0.mk hJ
  have HC := Aside0.mk hC
  have HN := Aside0.mk hn₀
  have HM := Aside0.mk hmax
  have HH := Aside0.mk h0
  have HL := Aside0.mk (lasts_take l0)
  have hB1 := hBn.alloc (.map #[] 0)
  have cB := hB1.cell
  have HB := Aside0.mk hB1
  have hmm := @run_makeMap Try.prog
  have h1 : J [] (W0.alloc (.map #[] 0)) := hJ _ _ _ none h0 (World.grownBy_alloc _ _ _) (fun r e => by cases e)
  have HH := Aside0.mk h1
  clear hY hJ hC hn₀ h0 h1 hBn hB1 hmax
  refine callsIn_of_wp Try.func29 rfl trivial ?_ rfl
  simp only [Try.ntmps29, List.size_toArray, List.length_cons, List.length_nil, Nat.reduceAdd, Nat.reduceSub, Array.replicate_succ, Array.replicate_zero, List.push_toArray, List.append_toArray, List.nil_append, List.cons_append]
  gi_wp2
  clear hmm cB
  have hlen : (l0.length : Int) ≤ 9223372036854775807 := by have := HM.out; unfold maxLen at this; omega
  have hw : wrap64 ((l0.length : Int) - 1) = (l0.length : Int) - 1 := by unfold wrap64; omega
  rw [hw]
  clear hw hlen
  gi_loopw [4] (fun v wr => ∃ (i : Nat) (m : List (S24 × Int)) (pre : List S37), i ≤ l0.length ∧ v = .int .i64 ((i : Int) - 1) ∧ Aside0 (pre.length + i ≤ l0.length) ∧ Aside0 (MapIs encKey (fun n : Int => Value.int .i64 n) wr W0.heap.size m) ∧ Aside0 (lastsOf l0 = pre ++ lastsRun (l0.take i).reverse m) ∧ Aside0 (J pre wr) ∧ Aside0 (Below n₀ W0 wr) ∧ Aside0 (Boxed wr Bn 22 (.slice A0 l0.length c0)) ∧ Aside0 (W0.heap.size ≤ wr.heap.size))
    (fun v _ => posOf v)
  case atStart =>
    exact ⟨l0.length, [], [], Nat.le_refl _, rfl, ⟨by simp⟩, ⟨MapIs.made _ _ _⟩, ⟨by rw [List.take_length]; rfl⟩, HH, ⟨(Below.refl n₀ W0).alloc HN.out _⟩, HB, ⟨by simp⟩⟩
  case round =>
    obtain ⟨i, m, pre, hi, rfl, HP, HMP, HI, HJP, HBW, HBX, HSZ⟩ := hrel
    have hi2 := hi
    cases i with
    | zero =>
      have HE : Aside0 (lastsOf l0 = pre) := ⟨by rw [HI.out]; simp [lastsRun]⟩
      have hz : decide (((0 : Nat) : Int) - 1 ≥ 0) = false := by decide
      gi_wp2
      go_end0
      exact ⟨⟨_, rfl⟩, .inl ⟨_, HE.out.symm, HJP.out⟩⟩
    | succ i =>
      have hlt : i < l0.length := by omega
      have hv : ((i + 1 : Nat) : Int) - 1 = (i : Int) := by omega
      rw [hv]
      obtain ⟨ad, e0, x0, x1, x2, x3⟩ := at_T37 (HC.out wr HBW.out) (i : Int) (by omega) (by omega)
      rw [Int.toNat_natCast] at x0 x1 x2 x3
      have hrd : rd_T37 l0 (i : Int) = l0[i] := by unfold rd_T37; rw [Int.toNat_natCast, List.getD_eq_getElem?_getD, List.getElem?_eq_getElem hlt]; rfl
      rw [hrd] at x0 x1 x2 x3
      subst e0
      obtain ⟨x, hx⟩ : ∃ x, l0[i] = x := ⟨_, rfl⟩
      have HD := Aside0.mk (HL.out i hlt m)
      rw [hx] at x0 x1 x2 x3 HD
      have hlt' : (i : Int) < (l0.length : Int) := by omega
      have h0 : (0 : Int) ≤ i := by omega
      have hge : decide ((i : Int) ≥ 0) = true := decide_eq_true h0
      have hbx := HBX.out.cell
      have HI2 := Aside0.mk hi2
      clear hx hrd hi hi2 hv
      obtain ⟨W, HW⟩ : ∃ W, Aside0 (W = (wr.alloc (.cells #[.int .i64 x.f0.f0, .bool x.f0.f1, .int .i64 x.f0.f2, .bool x.f1] 37)).drew) := ⟨_, ⟨rfl⟩⟩
      have HMW : Aside0 (MapIs encKey (fun n : Int => Value.int .i64 n) W W0.heap.size m) := ⟨by rw [HW.out]; exact (HMP.out.alloc _).drew⟩
      obtain ⟨v, hv⟩ : ∃ v, (mapLook m x.f0).getD 0 = v := ⟨_, rfl⟩
      have hl1 := run_map_lookup key_ok Try.underlying45 int_zero HMW.out x.f0 false
      obtain ⟨w3, j, he1, hM3, hg3, hj⟩ := run_map_entry key_ok Try.underlying45 int_zero HMW.out x.f0
      obtain ⟨w4, hs1, hM4, hg4⟩ := run_entry_store (P := Try.prog) (T := 45) hM3 hj (wrap64 (v + 1))
      rw [put_put] at hM4
      have hl4 := run_map_lookup key_ok Try.underlying45 int_zero hM4 x.f0 false
      have hl2 := run_map_lookup key_ok Try.underlying45 int_zero hM3 x.f0 false
      rw [put_look] at hl2 hl4
      rw [hv] at hl1 he1 hl2 HD
      change (Instr.lookup 45 (.map (some W0.heap.size)) (.agg #[.int .i64 x.f0.f0, .bool x.f0.f1, .int .i64 x.f0.f2]) false).run Try.prog W = .ok (.int .i64 v) W at hl1
      change (Instr.lookup 45 (.map (some W0.heap.size)) (.agg #[.int .i64 x.f0.f0, .bool x.f0.f1, .int .i64 x.f0.f2]) false).run Try.prog w3 = .ok (.int .i64 v) w3 at hl2
      change (Instr.lookup 45 (.map (some W0.heap.size)) (.agg #[.int .i64 x.f0.f0, .bool x.f0.f1, .int .i64 x.f0.f2]) false).run Try.prog w4 = .ok (.int .i64 (wrap64 (v + 1))) w4 at hl4
      change (Instr.mapEntry 45 (.map (some W0.heap.size)) (.agg #[.int .i64 x.f0.f0, .bool x.f0.f1, .int .i64 x.f0.f2])).run Try.prog W = .ok (.tuple #[.int .i64 v, .int .i64 (j : Nat)]) w3 at he1
      change (Instr.entryStore 45 (.map (some W0.heap.size)) (.int .i64 (j : Nat)) (.int .i64 (wrap64 (v + 1)))).run Try.prog w3 = .ok () w4 at hs1
      rw [HW.out] at hl1 he1
      have HGW : Aside0 (W.grownBy w4 (some W0.heap.size)) := ⟨hg3.trans hg4⟩
      have hcell : ∀ j, w4.cell? ⟨wr.heap.size, j, none⟩ = W.cell? ⟨wr.heap.size, j, none⟩ := fun j =>
        World.cell?_of_block (HGW.out.block wr.heap.size (by rw [HW.out]; show wr.heap.size < (wr.alloc _).heap.size; rw [World.size_alloc]; omega) (by have := HMP.out.lt; intro e; injection e with e; omega))
      have hWc : ∀ j, W.cell? ⟨wr.heap.size, j, none⟩ = (#[Value.int .i64 x.f0.f0, .bool x.f0.f1, .int .i64 x.f0.f2, .bool x.f1])[j]? := fun j => by
        rw [HW.out]
        show (match (wr.alloc _).heap[wr.heap.size]? with | some (.cells c _ _) => c[j]? | _ => none) = _
        rw [World.alloc_heap_new]
      have y0 : w4.cell? ⟨wr.heap.size, 0, none⟩ = some (.int .i64 x.f0.f0) := by rw [hcell, hWc]; rfl
      have y1 : w4.cell? ⟨wr.heap.size, 1, none⟩ = some (.bool x.f0.f1) := by rw [hcell, hWc]; rfl
      have y2 : w4.cell? ⟨wr.heap.size, 2, none⟩ = some (.int .i64 x.f0.f2) := by rw [hcell, hWc]; rfl
      have y3 : w4.cell? ⟨wr.heap.size, 3, none⟩ = some (.bool x.f1) := by rw [hcell, hWc]; rfl
      have HGA : Aside0 (wr.grownBy w4 (some W0.heap.size)) := ⟨((World.grownBy_alloc wr _ _).trans (by have := grownDrew (wr.alloc (.cells #[.int .i64 x.f0.f0, .bool x.f0.f1, .int .i64 x.f0.f2, .bool x.f1] 37)); exact ⟨this.os, this.tape, this.output, this.size, fun k hk _ => this.block k hk (by simp)⟩)).trans (HW.out ▸ HGW.out)⟩
      have HM4 := Aside0.mk hM4
      have HV := Aside0.mk hv
      clear hM3 hg3 hM4 hg4 hj hv hcell hWc
      gi_wp2
      gi_region
      have HJ4 : Aside0 (J pre w4) := ⟨HJ.out _ _ _ _ HJP.out HGA.out (fun r e => by cases e; exact ⟨Nat.le_refl _, HMP.out.walk⟩)⟩
      have HB4 : Aside0 (Below n₀ W0 w4) := ⟨HBW.out.grown HGA.out (Nat.le_trans HN.out HSZ.out) (fun k e => by cases e; exact HN.out)⟩
      have HX4 : Aside0 (Boxed w4 Bn 22 (.slice (some ad) l0.length c0)) := ⟨HBX.out.kept HGA.out (fun e => by
        cases e
        obtain ⟨o, ho, hw⟩ := HMP.out.walk
        have hb := HBX.out
        unfold Boxed at hb
        rw [hb] at ho; cases ho; cases hw)⟩
      have HS4 : Aside0 (W0.heap.size ≤ w4.heap.size) := ⟨Nat.le_trans HSZ.out HGA.out.size⟩
      have hwi : wrap64 ((i : Int) - 1) = (i : Int) - 1 := by
        have := HM.out
        unfold maxLen at this
        unfold wrap64
        omega
      by_cases h1 : wrap64 (v + 1) = 1
      · have hb : (wrap64 (v + 1) == 1) = true := by rw [h1]; rfl
        have hd : lastsOf l0 = pre ++ x :: lastsRun (l0.take i).reverse (mapPut m x.f0 (wrap64 (v + 1))) := by rw [HI.out, HD.out, if_pos h1]
        have HDD := Aside0.mk hd
        clear hd
        obtain ⟨fn, tmps, assign, body, hy, hR⟩ := HY.out pre x w4 HJ4.out (by have := HP.out; omega)
        have HR := Aside0.mk hR
        clear hR
        change (Instr.yield l #[.agg #[.int .i64 x.f0.f0, .bool x.f0.f1, .int .i64 x.f0.f2, .bool x.f1]]).run Try.prog w4 = _ at hy
        gi_wp2_with (refine skip_wide (by rfl) ?_)
        refine HR.out.mono ?_
        rintro e W3 (⟨rfl, hJ3, hk3⟩ | ⟨rfl, hJx3⟩)
        · have HJ3 := Aside0.mk hJ3
          have HK3 := Aside0.mk hk3
          clear hJ3 hk3
          gi_wp2_with (refine skip_wide (by rfl) ?_)
          rw [hwi]
          go_roundw
          case rel => exact ⟨i, _, pre ++ [x], by have := HI2.out; omega, rfl, ⟨by have := HP.out; simp; omega⟩, ⟨HM4.out.kept HK3.out.walks⟩, ⟨by rw [HDD.out, List.append_assoc]; rfl⟩, HJ3, ⟨HB4.out.trans HK3.out.below⟩, ⟨HK3.out.box _ HX4.out⟩, ⟨Nat.le_trans HS4.out HK3.out.walks.size⟩⟩
          case measure => show ((i : Int) - 1 + 1).toNat < ((i : Int) + 1).toNat; omega
        · have HX3 := Aside0.mk hJx3
          clear hJx3
          gi_wp2_with (refine skip_wide (by rfl) ?_)
          refine bodyPost_ret (results_none rfl _ _ _) rfl ?_
          exact ⟨⟨_, rfl⟩, .inr ⟨pre ++ [x], trivial, HX3.out⟩⟩
      · have hb : (wrap64 (v + 1) == 1) = false := by simpa using h1
        have hd : lastsOf l0 = pre ++ lastsRun (l0.take i).reverse (mapPut m x.f0 (wrap64 (v + 1))) := by rw [HI.out, HD.out, if_neg h1]
        have HDD := Aside0.mk hd
        clear hd
        gi_wp2_with (refine skip_wide (by rfl) ?_)
        rw [hwi]
        go_roundw
        case rel => exact ⟨i, _, pre, by have := HI2.out; omega, rfl, ⟨by have := HP.out; omega⟩, HM4, HDD, HJ4, HB4, HX4, HS4⟩
        case measure => show ((i : Int) - 1 + 1).toNat < ((i : Int) + 1).toNat; omega
theorem lasts_call (n : Nat) (v : Value) (w : World) (hv : v.oneCell' = true) : CallsIn Fence.wide n Try.prog 23 #[v] w fun e w' => e = .returned (.func (.func 29) #[] #[.pointer (some ⟨w.heap.size, 0, none⟩)]) ∧ w' = w.alloc (.cells #[v] 22) := by
  refine callsIn_wide.2 ?_
  go_enter Try.func23, Try.ntmps23
  go_wp2
  go_ret
  exact ⟨rfl, rfl⟩
theorem lasts_stops (n : Nat) (hn : 1 ≤ n) (Bn n₀ : Nat) (A0 : Option Addr) (c0 : Nat) (l0 : List S37) (w : World) (hBn : Boxed w Bn 22 (.slice A0 l0.length c0)) (hn₀ : n₀ ≤ w.heap.size) (hC : ∀ W, Below n₀ w W → Kd.C k37 W A0 l0.length l0) (hc0 : l0.length ≤ c0) (hmax : l0.length ≤ maxLen) :
    SeqStopsK Fence.wide n Try.prog 29 #[.pointer (some ⟨Bn, 0, none⟩)] effArgs (KeepLasts n₀ Bn) (fun ys => ys = lastsOf l0) (fun _ => True) l0.length w := fun l J Jx W hW hJ _ hY h0 =>
  lasts_round n hn l Bn n₀ A0 c0 l0 J Jx hY W hJ (Nat.le_trans hn₀ hW.size) ((hW.block Bn hBn.lt).trans hBn) (fun W' h => hC W' ((hW.mono hn₀).trans h)) hc0 hmax h0

end Go.Proofs.Ytphifpibjgeijaa.F
