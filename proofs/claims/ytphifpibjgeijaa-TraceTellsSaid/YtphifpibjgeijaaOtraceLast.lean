-- A contract by hand, filled by myprint.py for this seat.
import Derived.Test.YtphifpibjgeijaaFx0
import Derived.Test.YtphifpibjgeijaaOtracelasts
import Derived.Test.YtphifpibjgeijaaFx8
import Derived.RangeFuncNested
import Derived.RangeFuncLeaves
import Derived.RangeFuncBox
import Derived.OwnWalkIn
namespace Go.Proofs.Ytphifpibjgeijaa.F
open Go.RowKit Go.Proofs.YtphifpibjgeijaaW.PrintWords Go.Proofs.YtphifpibjgeijaaW.PrintLast Go.Proofs.YtphifpibjgeijaaW.PrintMore
attribute [local go_sem] max2_int min2_int max_two min_two max_three min_three max_four min_four   -- for this text's walks alone
set_option linter.unusedVariables false
set_option linter.unusedSimpArgs false

/-! trace.Last: each key's last effect, in the trace's order -/
def trace_Last.f (l0 : List S37) : Option (List S37) := if l0.length ≤ 1000000 then api_Effect.f (l0.length + 1) (lastsOf l0) else none
attribute [local go_sem] Oper.semAt_some
def flatEffs (l : List S37) : List Value := l.flatMap effCells
theorem eff_M (w : World) (base : Nat) (ok : Nat → Prop) (x : S37) : (k37).M w base ok x (effCells x) :=
  ⟨[.int .i64 x.f0.f0, .bool x.f0.f1, .int .i64 x.f0.f2], [.bool x.f1], rfl, ⟨[.int .i64 x.f0.f0], [.bool x.f0.f1, .int .i64 x.f0.f2], rfl, rfl, ⟨[.bool x.f0.f1], [.int .i64 x.f0.f2], rfl, rfl, rfl⟩⟩, rfl⟩
theorem effs_reps (w : World) (base : Nat) (ok : Nat → Prop) : ∀ (l l' : List S37) (cs : List Value), Reps ((k37).M w base ok) 4 l' cs → Reps ((k37).M w base ok) 4 (l' ++ l) (cs ++ flatEffs l)
  | [], l', cs, h => by simpa [flatEffs] using h
  | x :: l, l', cs, h => by
    have h1 := effs_reps w base ok l (l' ++ [x]) (cs ++ effCells x) (h.snoc (eff_M w base ok x) rfl)
    rw [List.append_assoc, List.append_assoc] at h1
    exact h1
theorem effs_R (w : World) (base : Nat) (v : Value) (l : List S37) (h : w.ownsRow base 37 4 v l.length (flatEffs l)) : Kd.R k37 37 w base (fun k => some k = v.ownBlock) v l :=
  ⟨fun k hk => hk.symm, flatEffs l, h, by have := effs_reps w base (fun k => some k = v.ownBlock ∧ some k ≠ v.ownBlock) l [] [] (Reps.none _ _); simp only [List.nil_append] at this; exact this⟩
theorem effs_new (W : World) (x : S37) : ∀ (j : Nat) (u : Value), (effCells x)[j]? = some u → (W.alloc (.cells #[.int .i64 x.f0.f0, .bool x.f0.f1, .int .i64 x.f0.f2, .bool x.f1] 37)).cell? (Addr.add ⟨W.heap.size, 0, none⟩ j) = some u := by
  intro j u h
  have e : Addr.add ⟨W.heap.size, 0, none⟩ j = ⟨W.heap.size, j, none⟩ := add_plain _ _
  rw [e]
  show (match (W.alloc _).heap[W.heap.size]? with | some (.cells c _ _) => c[j]? | _ => none) = _
  rw [World.alloc_heap_new]
  show (List.toArray (effCells x))[j]? = some u
  rw [List.getElem?_toArray]
  exact h
theorem effs_one (x : S37) : ∀ u ∈ effCells x, u.oneCell' = true := by
  intro u hu
  simp only [effCells, List.mem_cons, List.not_mem_nil, or_false] at hu
  rcases hu with rfl | rfl | rfl | rfl <;> rfl
theorem lastsRun_len : ∀ (l : List S37) (m : List (S24 × Int)), (lastsRun l m).length ≤ l.length
  | [], m => Nat.le_refl _
  | x :: l, m => by
    unfold lastsRun
    split
    · simp only [List.length_cons]; have := lastsRun_len l (mapPut m x.f0 (wrap64 (((mapLook m x.f0).getD 0) + 1))); omega
    · have := lastsRun_len l (mapPut m x.f0 (wrap64 (((mapLook m x.f0).getD 0) + 1))); simp only [List.length_cons]; omega
theorem cells_own {β : Type} (B : Nat) (f : β → Obj) (hf : ∀ s, (f s).isCells = true) : Own (fun s W => W.heap[B]? = some (f s)) := by
  rintro s X Y row h hg hrow
  have hlt : B < X.heap.size := (Array.getElem?_eq_some_iff.1 h).1
  refine (hg.block B hlt fun e => ?_).trans h
  obtain ⟨o, ho, hc⟩ := hrow B e.symm
  rw [h] at ho; cases ho; rw [hf] at hc; cases hc
theorem flat_snoc (l : List S37) (x : S37) : flatEffs (l ++ [x]) = flatEffs l ++ effCells x := by unfold flatEffs; rw [List.flatMap_append]; simp
theorem boxed_kept {W W' : World} {B : Nat} {t : TypeId} {v u : Value} (h : Boxed W B t v) (hk : Kept W W' (fun k => some k = u.ownBlock)) (hne : some B ≠ u.ownBlock) : Boxed W' B t v := (hk.2 B h.lt hne).trans h
set_option maxHeartbeats 8000000 in
set_option maxRecDepth 100000 in
theorem trace_Last.calls (A0 : Option Addr) (c0 : Nat) (l0 : List S37) (r : List S37) (w : World) (hr0 : Kd.C k37 w A0 l0.length l0) (hc0 : l0.length ≤ c0) (h : trace_Last.f l0 = some r) :
    Calls Try.prog 14 #[.slice A0 l0.length c0] w fun e w' => ∃ v0_ : Value, e = .returned (v0_) ∧ Kd.R k37 37 w' w.heap.size (fun _ => True) v0_ r ∧ Below w.heap.size w w' := by
  unfold trace_Last.f at h
  have hcond : l0.length ≤ 1000000 := by
    by_cases hc : l0.length ≤ 1000000
    · exact hc
    · rw [if_neg hc] at h; cases h
  rw [if_pos hcond] at h
  refine (callsIn_wide (n := 6)).1 ?_
  obtain ⟨i0, hi, hz0, hz1, hz2⟩ := info_parts info37
  refine callsIn_of_wp_marks Try.func14 rfl trivial ?_ rfl
  simp only [Try.ntmps14, List.size_toArray, List.length_cons, List.length_nil, Nat.reduceAdd, Nat.reduceSub, Array.replicate_succ, Array.replicate_zero, List.push_toArray, List.append_toArray, List.nil_append, List.cons_append]
  gi_wp2_with (refine ⟨trivial, ?_⟩; gi_at_call 23; refine (lasts_call _ _ _ rfl).mono ?_; rintro e w' ⟨rfl, rfl⟩)
  have bO := Boxed.new w 22 (.slice none 0 0)
  have bN := Boxed.new (w.alloc (.cells #[.slice none 0 0] 22)) 22 (.slice A0 l0.length c0)
  rw [World.size_alloc] at bN
  have hB0 : Below w.heap.size w ((w.alloc (.cells #[.slice none 0 0] 22)).alloc (.cells #[.slice A0 l0.length c0] 22)) := ((Below.refl _ w).alloc (Nat.le_refl _) _).alloc (by simp) _
  have hsz : ((w.alloc (.cells #[.slice none 0 0] 22)).alloc (.cells #[.slice A0 l0.length c0] 22)).heap.size = w.heap.size + 2 := by simp
  have bO1 := bO.alloc (.cells #[.slice A0 l0.length c0] 22)
  obtain ⟨W0, hW0⟩ : ∃ W0, (w.alloc (.cells #[.slice none 0 0] 22)).alloc (.cells #[.slice A0 l0.length c0] 22) = W0 := ⟨_, rfl⟩
  rw [hW0] at bN bO1 hB0 hsz ⊢
  clear hW0 bO
  have HC := Aside0.mk hr0
  have HH := Aside0.mk h
  have hmax : l0.length ≤ maxLen := by unfold maxLen; omega
  have hst := lasts_stops 5 (by omega) (w.heap.size + 1) w.heap.size A0 c0 l0 W0 bN (by omega) (fun W h => Kd.C_below HC.out (hB0.trans h)) hc0 hmax
  have HL := Aside0.mk hcond
  have hlast : (lastsOf l0).length ≤ l0.length := by unfold lastsOf; have := lastsRun_len l0.reverse []; rwa [List.length_reverse] at this
  clear hr0 h hmax
  refine wpIn_rangeFunc_ownH rfl (by omega) (gf := 29) (lb := #[.pointer (some ⟨w.heap.size + 1, 0, none⟩)]) rfl trivial (enters_of Try.func29 (by kernel_rfl) rfl)
    hst (fun h k => h.trans k) (fun W l o o' hl ho hc hw => ⟨belowK_b (w := W0) (by omega) W l o o' hl ho hc hw, walksK_b (w := W0) W l o o' hl ho hc hw, fun v hv => hv.kept (grownBy_putObj' W l o') (fun e => by cases e; unfold Boxed at hv; rw [hv] at ho; cases ho; cases hc)⟩) (Below.refl _ _) (fun _ => rfl)
    (fun pre W => (∃ v, Boxed W w.heap.size 22 v ∧ W.ownsRow w.heap.size 37 4 v pre.length (flatEffs pre) ∧ True) ∧ Below w.heap.size w W ∧ w.heap.size + 2 ≤ W.heap.size)
    (fun _ _ _ => False)
    (OwnFrom.and (Own.from (holdsRow_own w.heap.size w.heap.size 22 37 4 (fun pre => pre.length) flatEffs (fun _ _ => True)) _) (OwnFrom.and (ownFrom_below (Nat.le_refl _) (by omega)) (fun _ _ _ _ hs hg _ => Nat.le_trans hs hg.size)))
    (fun _ _ _ _ _ hs _ _ => hs)
    ⟨⟨_, bO1, World.ownsRow_nil _ _ _ _, trivial⟩, hB0, by omega⟩
    (fun x a' W => ∃ Bx, w.heap.size + 1 < Bx ∧ W.heap[Bx]? = some (.cells #[.int .i64 x.f0.f0, .bool x.f0.f1, .int .i64 x.f0.f2, .bool x.f1] 37 (0, 0)) ∧ a' = { tmps := #[.slice A0 l0.length c0, undef, .slice none 0 0, .pointer (some ⟨w.heap.size, 0, none⟩), .pointer (some ⟨Bx, 0, none⟩), .slice A0 l0.length c0, .func (.func 29) #[] #[.pointer (some ⟨w.heap.size + 1, 0, none⟩)], .agg #[.int .i64 x.f0.f0, .bool x.f0.f1, .int .i64 x.f0.f2, .bool x.f1], undef, undef, undef, undef, undef, undef, undef], defers := [] })
    (fun x a' _ X Y row hs hg hr => by obtain ⟨Bx, h1, h2, h3⟩ := hs; exact ⟨Bx, h1, cells_own Bx (fun (_ : Unit) => .cells #[.int .i64 x.f0.f0, .bool x.f0.f1, .int .i64 x.f0.f2, .bool x.f1] 37 (0, 0)) (fun _ => rfl) () X Y row h2 hg (fun r e => (hr r e).2), h3⟩)
    ?assign ?body ?done ?stop
  case assign =>
    rintro l pre x W K ⟨⟨v, hv, hrow, _⟩, hB, hS⟩ hK
    have hsW := hB.size
    unfold effArgs
    gi_wp2
    refine hK _ _ ((KeepsOthers.alloc _ _).from _) ⟨(Below.refl _ W).alloc hsW _, KeepsWalks.alloc _ _, fun v hv => hv.alloc _⟩ ⟨⟨v, hv.alloc _, hrow.alloc _, trivial⟩, hB.alloc hsW _, Nat.le_trans hS (by simp)⟩ ⟨W.heap.size, by omega, World.alloc_heap_new W _, rfl⟩
  case body =>
    rintro l pre x a' W hl ⟨rr, hrr⟩ ⟨⟨v, hv, hrow, _⟩, hB, hS⟩ ⟨Bx, hBx, hX, rfl⟩ hlt
    have hc := hv.cell
    have z0 : W.cell? ⟨Bx, 0, none⟩ = some (.int .i64 x.f0.f0) := by simp [World.cell?, hX, effCells]
    have z1 : W.cell? ⟨Bx, 1, none⟩ = some (.bool x.f0.f1) := by simp [World.cell?, hX, effCells]
    have z2 : W.cell? ⟨Bx, 2, none⟩ = some (.int .i64 x.f0.f2) := by simp [World.cell?, hX, effCells]
    have z3 : W.cell? ⟨Bx, 3, none⟩ = some (.bool x.f1) := by simp [World.cell?, hX, effCells]
    have HX := Aside0.mk hX
    clear hX
    gi_wp2_with (gi_at_builtin; refine wpListIn_append_own _ rfl _ _ 22 rfl w.heap.size 37 i0 _ 4 32 Try.underlying22 hi hz0 hz1 hz2 rfl (by decide) _ _ _ rfl (hrow.alloc _) ⟨W.heap.size, 0, none⟩ 1 1 (effCells x) rfl rfl (effs_new W x) (effs_one x) (by unfold maxLen; omega) (by omega) (by have := hB.size; simp; omega) ?_; intro v' w1 hown' hgrow _; obtain ⟨g', cap', rfl⟩ := ownsRow_succ hown'; obtain ⟨hv1, hv2, hr2, hk2, hb2⟩ := hv.appended (by decide) hrow hB.size (Nat.le_refl _) hown' hgrow; have HBN := Aside0.mk (fun (u : Value) (h : Boxed W (w.heap.size + 1) 22 u) => (((h.alloc _).kept hgrow (h.not_row (by decide) hrow)).other (B' := w.heap.size) (by omega) (Value.slice (some ⟨g', 0, none⟩) (pre.length + 1) cap'))); have hc1 := hv1.cell; have hf1 := hv1.frozen; have HS1 := Aside0.mk hv2; have HR1 := Aside0.mk hr2; have HK1 := Aside0.mk hk2; have HB1 := Aside0.mk hb2; clear hown' hgrow hv1 hv2 hr2 hk2 hb2)
    exact ⟨HK1.out.from _, ⟨HB1.out, ⟨HK1.out.size, fun k o hk ho => HK1.out.same k o hk (Obj.not_cells_of_walk ho)⟩, HBN.out⟩, ⟨_, HS1.out, by rw [flat_snoc, List.length_append]; exact HR1.out, trivial⟩, hB.trans HB1.out, Nat.le_trans hS HK1.out.size⟩
  case done =>
    rintro D ys W hD rfl ⟨⟨v, hv, hrow, _⟩, hB, hS⟩ hK
    have hc := hv.cell
    have HV := Aside0.mk hv
    have HKD := Aside0.mk hK
    have HBW := Aside0.mk hB
    have hR := effs_R W w.heap.size v (lastsOf l0) hrow
    have HR := Aside0.mk (callsIn_wide (n := 5) |>.2 (api_Effect.calls (l0.length + 1) (fun k => some k = v.ownBlock) v (lastsOf l0) r w W hB hR HH.out))
    have HNB := Aside0.mk (hv.not_row (by decide) hrow)
    have HND : Aside0 (some D ≠ v.ownBlock) := ⟨fun e => by
      have hb := (Kd.R_bound hR).1 D e.symm
      obtain ⟨_, _, _, q, _, cells, hq⟩ := hb
      rw [hK] at hq; cases hq⟩
    clear hR hrow hv hB hK
    gi_wp2
    refine ⟨trivial, ?_⟩
    refine HR.out.mono ?_
    rintro e W2 ⟨rfl, hr2, hb2, hk2⟩
    have HR2 := Aside0.mk hr2
    have HB2 := Aside0.mk hb2
    have hc2 := (boxed_kept HV.out hk2 HNB.out).cell
    have hK2 := (hk2.2 D (Array.getElem?_eq_some_iff.1 HKD.out).1 HND.out).trans HKD.out
    have HK2 := Aside0.mk hK2
    clear hr2 hb2 hk2 hK2
    gi_wp2
    refine ⟨by simp, .inl ⟨_, _, rfl, run_takeDeferred HK2.out, ?_⟩⟩
    refine ⟨_, results_tmp rfl _ _ _, v, rfl, Kd.R_mono (Kd.R_step (Kd.R_bound HR2.out) (fun k hk _ => World.putObj_heap_other (fun e => ?_))) (fun _ _ => trivial), HB2.out.trans (belowK_b (w := w) (Nat.le_refl _) W2 D _ _ (by omega) HK2.out rfl rfl)⟩
    obtain ⟨_, _, _, q, _, cells, hq⟩ := hk
    have hd := HK2.out
    rw [e, hd] at hq
    cases hq
  case stop =>
    rintro D c pre W _ _ h _
    exact h.elim

end Go.Proofs.Ytphifpibjgeijaa.F
