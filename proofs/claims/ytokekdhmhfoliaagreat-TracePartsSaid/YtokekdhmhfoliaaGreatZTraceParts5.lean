-- Texts of this seat's, joined.
import Derived.Test.YtokekdhmhfoliaaGreatZTraceParts1
import Derived.Test.YtokekdhmhfoliaaGreatZTraceParts4
import Derived.Test.YtokekdhmhfoliaaGreatZTraceParts3
import Derived.Test.YtokekdhmhfoliaaGreatZTraceParts2
import Derived.Defers
import Derived.Recover
import Derived.WalkSmall
import Derived.Shelf.Abstract
import Derived.BigRegion
import Derived.Deep.MidRow
import Derived.Shelf.AbstractIn
import Derived.RangeFuncBound
section
namespace Go.Proofs.YtokekdhmhfoliaaGreat.F
open Go.RowKit Go.Proofs.YtokekdhmhfoliaaGreatW.PrintWords Go.Proofs.YtokekdhmhfoliaaGreatW.PrintLast Go.Proofs.YtokekdhmhfoliaaGreatW.PrintMore
attribute [local go_sem] max2_int min2_int max_two min_two max_three min_three max_four min_four
set_option linter.unusedVariables false
set_option linter.unusedSimpArgs false
attribute [local go_sem] Oper.semAt_some
instance decBytes : DecidableEq ByteArray := fun a b => decidable_of_iff (a.data = b.data) ⟨fun h => by cases a; cases b; simp_all, fun h => by rw [h]⟩
theorem beq_bytes (a b : ByteArray) : (a == b) = decide (a = b) := by
 have h : (a == b) = (a.data == b.data) := rfl
 rw [h, Bool.eq_iff_iff]
 simp only [beq_iff_eq, decide_eq_true_iff]
 exact ⟨fun h => by cases a; cases b; simp_all, fun h => by rw [h]⟩
instance lawBytes : LawfulBEq ByteArray where
 eq_of_beq := fun {a b} h => by rw [beq_bytes] at h; simpa using h
 rfl := fun {a} => by rw [beq_bytes]; simp
theorem find_now_string (k : ByteArray) : ∀ (es : List MapEntry) (ks : List ByteArray) (j : Nat), es.map (·.key) = ks.map (fun n => Value.string n) →
  Instr.findNow .string (.string k) es j = some ((ks.findIdx? (fun x => decide (x = k))).bind fun i => es[i]?.map fun e => (j + i, e.val)) := by
 intro es
 induction es with
 | nil =>
  intro ks j h
  obtain rfl : ks = [] := by cases ks <;> simp_all
  rfl
 | cons e es ih =>
  intro ks j h
  cases ks with
  | nil => simp at h
  | cons k' ks =>
   simp only [List.map_cons, List.cons.injEq] at h
   unfold Instr.findNow
   rw [h.1]
   simp only [Instr.sameNow, if_true]
   by_cases hk : k = k'
   ·subst hk
    simp [List.findIdx?_cons, beq_bytes]
   ·have hk' : ¬ k' = k := fun e => hk e.symm
    have hb : (k == k') = false := by rw [beq_bytes]; simpa using hk
    rw [hb]
    simp only [List.findIdx?_cons, decide_eq_false hk', Bool.false_eq_true, if_false]
    rw [ih ks (j + 1) h.2]
    cases ks.findIdx? (fun x => decide (x = k)) with
    | none => rfl
    | some i => simp [Nat.add_assoc, Nat.add_comm 1 i]
theorem key_ok_string {P : Program} {K : TypeId} (hK : P.underlying K = some .string) : KeyOk P K (fun n : ByteArray => Value.string n) where
 check := fun e k w => by unfold Instr.checkKey; simp [Sem.run_bind, run_underlying hK, Result.andThen_ok, Sem.run_pure]
 find := fun k es ks w h => by
  unfold Instr.findKey
  simp only [Sem.run_bind, run_underlying hK, Result.andThen_ok, find_now_string k es ks 0 h, Sem.run_pure]
  simp
 same := fun k => by simp [Instr.sameBits, beq_bytes]
theorem skip_w {n : Nat} {P : Program} {ops : Array Oper} {Q : Exit → Act → World → Prop} {rest : List Oper} {o : Oper} {a : Act} {w : World} (hw : Region.wanted o (yielded ops a.tmps) = false) (h : wpListIn Fence.wide n P ops Q rest (a.put o.dst undef) w) : wpListIn Fence.wide n P ops Q (o :: rest) a w := by
 unfold wpListIn
 rw [hw]
 simp only [Bool.false_eq_true, if_false]
 exact ⟨fun _ _ => trivial, h⟩
def nameOf (v : Vis) : ByteArray := v.n.f0
def onesOf (s : List Vis) : List (ByteArray × Int) := s.map fun v => (nameOf v, 1)
theorem look_ones (s : List Vis) (k : ByteArray) : mapLook (onesOf s) k = if k ∈ s.map nameOf then some 1 else none := by
 induction s with
 | nil => rfl
 | cons v s ih =>
  unfold mapLook onesOf at *
  by_cases h : nameOf v = k
  ·simp [List.find?_cons, h]
  ·have h' : ¬ k = nameOf v := fun e => h e.symm
   simp only [List.map_cons, List.find?_cons, h, decide_false, List.mem_cons, h', false_or]
   exact ih
theorem put_ones (s : List Vis) (v : Vis) (h : nameOf v ∉ s.map nameOf) : mapPut (onesOf s) (nameOf v) 1 = onesOf (s ++ [v]) := by
 unfold mapPut
 rw [look_ones, if_neg h]
 simp [onesOf]
def undoes (v : Vis) : Bool := v.n.f3 || !decide (v.n.f1.toList = [])
def okV (v : Vis) : Bool := undoes v && (decide (v.d ≤ 6) && soundB v.n.f5)
def okAll (s : List Vis) : Bool := decide ((s.map nameOf).Nodup) && s.all okV
theorem okAll_snoc (s : List Vis) (v : Vis) : okAll (s ++ [v]) = (okAll s && (decide (nameOf v ∉ s.map nameOf) && okV v)) := by
 unfold okAll
 rw [List.map_append, List.all_append, List.map_singleton]
 have : (s.map nameOf ++ [nameOf v]).Nodup ↔ (s.map nameOf).Nodup ∧ nameOf v ∉ s.map nameOf := by
  rw [List.nodup_append]
  simp only [List.nodup_cons, List.not_mem_nil, not_false_eq_true, List.nodup_nil, and_self, true_and, List.mem_singleton]
  constructor
  ·rintro ⟨h1, h2⟩
   exact ⟨h1, fun hin => h2 _ hin _ rfl rfl⟩
  ·rintro ⟨h1, h2⟩
   exact ⟨h1, fun a ha b hb e => h2 (by rw [← hb, ← e]; exact ha)⟩
 rw [decide_eq_decide.2 this, Bool.decide_and]
 simp only [List.all_cons, List.all_nil, Bool.and_true]
 cases decide ((s.map nameOf).Nodup) <;> cases s.all okV <;> cases decide (nameOf v ∉ s.map nameOf) <;> simp
theorem okAll_prefix (s t : List Vis) (h : okAll s = false) : okAll (s ++ t) = false := by
 unfold okAll at *
 rw [List.map_append, List.all_append]
 cases hd : decide ((s.map nameOf).Nodup)
 ·have : ¬ (s.map nameOf ++ t.map nameOf).Nodup := fun hn => by rw [List.nodup_append] at hn; rw [decide_eq_true hn.1] at hd; cases hd
  rw [decide_eq_false this]; rfl
 ·rw [hd] at h
  simp only [Bool.true_and] at h
  rw [h]; simp
def RunP (o : Bool) (w : World) (e : Ending) (w' : World) : Prop := Below w.heap.size w w' ∧ (if o then ∃ v, e = .returned v else ∃ why, e = .panicked [{ v := faultV why, recovered := false }])
def runB (r1 r2 : Int) (l : List S147) : Bool := (r1 == 0 && decide (r2 < 64)) && (soundB l && okAll (visAlts 1 l))
theorem wordOk_ : KeyOk Tryz.prog 9 (fun n : ByteArray => Value.string n) := key_ok_string Tryz.underlying9
theorem int_zero_ (w : World) : (zeroValue 3).run Tryz.prog w = .ok (.int .i64 0) w := by kernel_rfl
theorem below_grown {n mp : Nat} {X Y : World} (h : X.grownBy Y (some mp)) (hn : n ≤ mp) (hm : mp < X.heap.size) : Below n X Y :=
 ⟨h.os, h.tape, h.output, h.size, fun k hk => h.block k (by omega) (fun e => by have := Option.some.inj e; omega)⟩
theorem keep_grown {n mp : Nat} {X Y : World} (h : X.grownBy Y (some mp)) (hn : mp < n) : KeepUp n X Y := ⟨h.size, fun k hk hx => h.block k hx (fun e => by have := Option.some.inj e; omega)⟩
structure RunJ (w : World) (A : Option Addr) (c : Nat) (l : List S147) (mp bp : Nat) (s : List Vis) (X : World) : Prop where
 b : Below w.heap.size w X
 ok : okAll s = true
 box : X.heap[mp + 1]? = some (.cells #[.map (some mp)] 195 (0, 0))
 map : MapIs (fun n : ByteArray => Value.string n) (fun n : Int => Value.int .i64 n) X mp (onesOf s)
 d1 : X.heap[bp]? = some (.cells #[.slice A l.length c] 40 (0, 0))
 d2 : X.heap[bp + 1]? = some (.cells #[.int .i64 1] 3 (0, 0))
 lo : w.heap.size ≤ mp
 hi : mp + 2 ≤ bp
theorem RunJ.below {w : World} {A : Option Addr} {c : Nat} {l : List S147} {mp bp n : Nat} {s : List Vis} {X X' : World} (h : RunJ w A c l mp bp s X) (hb : Below n X X') (hn : bp + 2 ≤ n) : RunJ w A c l mp bp s X' := by
 have h1 := h.lo
 have h2 := h.hi
 exact ⟨h.b.trans (hb.mono (by omega)), h.ok, (hb.block _ (by omega)).trans h.box, h.map.of_block (hb.block _ (by omega)), (hb.block _ (by omega)).trans h.d1, (hb.block _ (by omega)).trans h.d2, h1, h2⟩
def RunX (w : World) (l : List S147) (X : World) (ch : List PanicEntry) : Prop := Below w.heap.size w X ∧ okAll (visAlts 1 l) = false ∧ ∃ why, ch = [{ v := faultV why, recovered := false }]
set_option maxHeartbeats 16000000 in
set_option maxRecDepth 100000 in
theorem run_walk (nm : ByteArray) (A : Option Addr) (c : Nat) (l : List S147) (w : World) (hC : k147.C w A l.length l) (hc : l.length ≤ c) (k : Nat) (r1 r2 : Int) (h1 : syntax_Check.f k nm l = some r1) (h2 : syntax_Count.f k nm l = some r2) :
  Calls Tryz.prog 89 #[.agg #[.string nm, .slice A l.length c]] w (RunP (runB r1 r2 l) w) := by
 have HC0 := Aside0.mk hC
 have HCA := Aside0.mk (Kd.C_alloc hC (.cells #[.string nm, .slice A l.length c] 42 (0, 0)))
 have HL := Aside0.mk hc
 have HM := Aside0.mk (Kd.C_max hC)
 have H1 := Aside0.mk h1
 have H2 := Aside0.mk h2
 have HG := Aside0.mk (blk_new w (.cells #[.string nm, .slice A l.length c] 42 (0, 0)))
 have HB := Aside0.mk (below_alloc (Below.refl w.heap.size w) (.cells #[.string nm, .slice A l.length c] 42 (0, 0)))
 clear hC hc h1 h2
 refine (callsIn_wide (n := 0)).1 ?_
 refine callsIn_of_wpB Tryz.func89 rfl ?_
 simp only [Tryz.ntmps89, List.size_toArray, List.length_cons, List.length_nil, Nat.reduceAdd, Nat.reduceSub, Array.replicate_succ, Array.replicate_zero, List.push_toArray, List.append_toArray, List.nil_append, List.cons_append]
 refine wpB_seq_k (fun K hK => ?_); gi_wp2; refine hK.out _ _ ?_; clear hK K
 have HCB := HCA
 obtain ⟨bo, hbo⟩ : ∃ bo, (r1 == 0 && decide (r2 < 64)) = bo := ⟨_, rfl⟩
 have HBO := Aside0.mk hbo
 have HFA : Aside0 (bo = false → runB r1 r2 l = false) := ⟨fun h => by unfold runB; rw [HBO.out, h]; rfl⟩
 have HTR : Aside0 (bo = true → runB r1 r2 l = (soundB l && okAll (visAlts 1 l))) := ⟨fun h => by unfold runB; rw [HBO.out, h]; rfl⟩
 have HFW : Aside0 (∀ (o : Bool) (why : ByteArray) (W : World), o = false → Below w.heap.size w W → RunP o w (.panicked [{ v := faultV why, recovered := false }]) W) := ⟨fun o why W ho hB => ⟨hB, by rw [ho]; exact ⟨why, rfl⟩⟩⟩
 clear hbo
 by_cases hr1 : r1 = 0
 ·have hx1 : (r1 == 0) = true := by simpa using hr1
  clear hr1
  refine wpB_seq_k (fun K hK => ?_)
  gi_wp2
  refine ⟨trivial, rfl, (callsIn_wide.2 (syntax_Check.calls k nm A c l r1 _ HCA.out HL.out H1.out)).mono ?_⟩
  rintro e w2 ⟨rfl, hb⟩
  have HB2 := Aside0.mk (HB.out.trans (hb.mono (by simp)))
  have HG2 := Aside0.mk (blk_below HG.out hb)
  have HC2 := Aside0.mk (Kd.C_below HCA.out hb)
  have c20 : w2.cell? ⟨w.heap.size, 0, none⟩ = some (.string nm) := (blk_cell HG2.out 0).trans rfl
  have c21 : w2.cell? ⟨w.heap.size, 1, none⟩ = some (.slice A l.length c) := (blk_cell HG2.out 1).trans rfl
  clear hb
  gi_wp2
  refine ⟨trivial, rfl, (callsIn_wide.2 (syntax_Count.calls k nm A c l r2 _ HC2.out HL.out H2.out)).mono ?_⟩
  rintro e w3 ⟨rfl, hb⟩
  (have HB3 := Aside0.mk (HB2.out.trans (hb.mono HB2.out.size)); have HG3 := Aside0.mk (blk_below HG2.out hb); have HC3 := Aside0.mk (Kd.C_below HC2.out hb); have c30 : w3.cell? ⟨w.heap.size, 0, none⟩ = some (.string nm) := (blk_cell HG3.out 0).trans rfl; have c31 : w3.cell? ⟨w.heap.size, 1, none⟩ = some (.slice A l.length c) := (blk_cell HG3.out 1).trans rfl; clear hb)
  by_cases h64 : r2 < 64
  ·have hbt : bo = true := by rw [← HBO.out, hx1]; simpa using h64
   have hd64 : decide (r2 < 64) = true := decide_eq_true h64
   have HT2 := Aside0.mk (HTR.out hbt)
   clear hbt hx1 h64
   gi_wp2
   refine ⟨trivial, rfl, (callsIn_wide.2 (must_yes _ _)).mono ?_⟩
   rintro e w3' ⟨rfl, rfl⟩
   gi_wp2
   refine hK.out _ _ ?_
   clear hK K
   refine wpB_seq_k (fun K hK => ?_)
   gi_wp2
   refine ⟨trivial, rfl, (callsIn_wide.2 (sound_walk A c l _ HC3.out HL.out)).mono ?_⟩
   rintro e w4 ⟨hb, he⟩
   (have HB4 := Aside0.mk (HB3.out.trans (hb.mono HB3.out.size)); have HG4 := Aside0.mk (blk_below HG3.out hb); have HC4 := Aside0.mk (Kd.C_below HC3.out hb); have c40 : w4.cell? ⟨w.heap.size, 0, none⟩ = some (.string nm) := (blk_cell HG4.out 0).trans rfl; have c41 : w4.cell? ⟨w.heap.size, 1, none⟩ = some (.slice A l.length c) := (blk_cell HG4.out 1).trans rfl; clear hb)
   by_cases hs : soundB l = true
   ·rw [if_pos hs] at he
    subst he
    have HT3 : Aside0 (runB r1 r2 l = okAll (visAlts 1 l)) := ⟨by rw [HT2.out, hs]; rfl⟩
    clear hs
    gi_wp2
    refine hK.out _ _ ?_
    clear hK K
    have hmm := @run_makeMap Tryz.prog
    refine wpB_seq_k (fun K hK => ?_)
    gi_wp2
    refine hK.out _ _ ?_
    clear hK K hmm
    obtain ⟨mp, hmp⟩ : ∃ mp, w4.heap.size = mp := ⟨_, rfl⟩
    have HMP := Aside0.mk hmp
    have hM5 := (MapIs.made (fun n : ByteArray => Value.string n) (fun n : Int => Value.int .i64 n) w4).alloc (.cells #[.map (some w4.heap.size)] 195 (0, 0))
    have hX5 := blk_new (w4.alloc (.map #[] 0)) (.cells #[.map (some w4.heap.size)] 195 (0, 0))
    have hB5 := ((Below.refl w4.heap.size w4).alloc (Nat.le_refl _) (.map #[] 0)).alloc (by simp) (.cells #[.map (some w4.heap.size)] 195 (0, 0))
    have hS5 : ((w4.alloc (.map #[] 0)).alloc (.cells #[.map (some w4.heap.size)] 195 (0, 0))).heap.size = w4.heap.size + 2 := by simp
    rw [World.size_alloc] at hX5
    obtain ⟨w5, hw5⟩ : ∃ w5, (w4.alloc (.map #[] 0)).alloc (.cells #[.map (some w4.heap.size)] 195 (0, 0)) = w5 := ⟨_, rfl⟩
    rw [hw5] at hM5 hX5 hB5 hS5
    rw [hmp] at hM5 hX5 hS5
    have HB5 := Aside0.mk (HB4.out.trans (hB5.mono HB4.out.size))
    have c51 : w5.cell? ⟨w.heap.size, 1, none⟩ = some (.slice A l.length c) := (blk_cell (blk_below HG4.out hB5) 1).trans rfl
    have HM5 := Aside0.mk hM5
    have HX5 := Aside0.mk hX5
    have HS5 := Aside0.mk hS5
    have HLO : Aside0 (w.heap.size ≤ mp) := ⟨by rw [← hmp]; exact HB4.out.size⟩
    show wpB _ _ _ _ _ _
    rw [hw5, hmp]
    clear hM5 hX5 hB5 hS5 hw5 hmp c40 c41 c30 c31 c20 c21 hd64
    refine wpB_seq_k (fun K hK => ?_)
    gi_wp2
    refine ⟨trivial, rfl, (nodes_call A l.length c 1 w5).mono ?_⟩
    rintro e w6 ⟨rfl, hX6⟩
    have HX6 := Aside0.mk hX6
    clear hX6
    gi_wp2
    refine hK.out _ _ ?_
    clear hK K c51
    obtain ⟨bp, hbp⟩ : ∃ bp, w5.heap.size = bp := ⟨_, rfl⟩
    have HS6 : Aside0 (w6.heap.size = bp + 2) := ⟨by rw [HX6.out, ← hbp]; simp⟩
    have hb6 : Below w5.heap.size w5 w6 := by rw [HX6.out]; exact ((Below.refl _ w5).alloc (Nat.le_refl _) _).alloc (by simp) _
    have hc1 : w6.heap[bp]? = some (.cells #[.slice A l.length c] 40 (0, 0)) := by rw [HX6.out, ← hbp]; exact (Below.heap_alloc _ _ _ (by simp)).trans (blk_new w5 _)
    have hc2 : w6.heap[bp + 1]? = some (.cells #[.int .i64 1] 3 (0, 0)) := by rw [HX6.out, ← hbp]; have := blk_new (w5.alloc (.cells #[.slice A l.length c] 40 (0, 0))) (.cells #[.int .i64 1] 3 (0, 0)); rwa [World.size_alloc] at this
    have HJ0 : Aside0 (RunJ w A c l mp bp [] w6) := ⟨⟨HB5.out.trans (hb6.mono HB5.out.size), rfl, blk_below HX5.out hb6, HM5.out.below hb6, hc1, hc2, HLO.out, by have := HS5.out; omega⟩⟩
    rw [hbp]
    clear hb6 hc1 hc2 hbp HX6
    refine wpB_block ?_
    refine wpB_rangeFuncP (gf := 163) (lb := #[.pointer (some ⟨bp, 0, none⟩), .pointer (some ⟨bp + 1, 0, none⟩)]) rfl (enters_of Tryz.func163 (by kernel_rfl) rfl) ⟨_, Tryz.func89⟩ (nodes_iter l 1 A c bp (bp + 1) w HC0.out HL.out) ?hsz
     (RunJ w A c l mp bp) (RunX w l) ?h0 ?hD ?hst ?hstp ?hround ?hdone ?hpanic
    case hsz => rintro v args ⟨_, _, _, _, _, _, rfl, _⟩; rfl
    case h0 => exact HJ0.out
    case hD => exact fun s X h => ⟨h.b, h.d1, h.d2⟩
    case hst => exact fun s X X' h hb => h.below hb (Nat.le_of_eq HS6.out.symm)
    case hstp => exact fun X X' ch h hb => ⟨h.1.trans (hb.mono (by have h1 := HJ0.out.lo; have h2 := HJ0.out.hi; have h3 := HS6.out; omega)), h.2⟩
    case hround =>
     rintro ly s v t args X hS hl1 hl2 hJ hv
     obtain ⟨A2', c2', A5', c5', A6', c6', rfl, hvl2, hvC2, hvl5, hvC5⟩ := hv
     have HJ := Aside0.mk hJ
     have HS := Aside0.mk hS
     have HL1 := Aside0.mk hl1
     have HL2 := Aside0.mk hl2
     have HV5 := Aside0.mk hvl5
     have HVC := Aside0.mk hvC5
     clear hS hl1 hl2 hJ hvl2 hvC2 hvl5 hvC5
     gi_wp2
     refine ⟨(Below.refl X.heap.size X).alloc (Nat.le_refl _) _, ?_⟩
     intro X4 hku hbl
     have hl3 : bp + 2 ≤ ly := by have h1 := HS6.out; have h2 := HL1.out; omega
     have hb14 : Below (bp + 2) X X4 := (((Below.refl X.heap.size X).alloc (Nat.le_refl _) _).mono (by have h2 := HL2.out; omega)).trans (hbl.mono hl3)
     have HJ4 := Aside0.mk (HJ.out.below hb14 (Nat.le_refl _))
     have hVB := hku.blk HL2.out (blk_new X (.cells #[.string v.n.f0, .string v.n.f1, .slice A2' v.n.f2.length c2', .bool v.n.f3, .bool v.n.f4, .slice A5' v.n.f5.length c5', .slice A6' v.b.f0.length c6', .int .i64 v.d] 199 (0, 0)))
     have HVB := Aside0.mk hVB
     have HNE : Aside0 (X.heap.size ≠ mp ∧ mp + 1 ≠ mp) := ⟨by have h1 := HJ.out.hi; have h2 := HL1.out; have h3 := HL2.out; omega⟩
     have q0 : X4.cell? ⟨X.heap.size, 0, none⟩ = some (.string v.n.f0) := (blk_cell hVB 0).trans rfl
     have q1 : X4.cell? ⟨X.heap.size, 1, none⟩ = some (.string v.n.f1) := (blk_cell hVB 1).trans rfl
     have q2 : X4.cell? ⟨X.heap.size, 2, none⟩ = some (.slice A2' v.n.f2.length c2') := (blk_cell hVB 2).trans rfl
     have q3 : X4.cell? ⟨X.heap.size, 3, none⟩ = some (.bool v.n.f3) := (blk_cell hVB 3).trans rfl
     have q4 : X4.cell? ⟨X.heap.size, 4, none⟩ = some (.bool v.n.f4) := (blk_cell hVB 4).trans rfl
     have q5 : X4.cell? ⟨X.heap.size, 5, none⟩ = some (.slice A5' v.n.f5.length c5') := (blk_cell hVB 5).trans rfl
     have q6 : X4.cell? ⟨X.heap.size, 6, none⟩ = some (.slice A6' v.b.f0.length c6') := (blk_cell hVB 6).trans rfl
     have q7 : X4.cell? ⟨X.heap.size, 7, none⟩ = some (.int .i64 v.d) := (blk_cell hVB 7).trans rfl
     have cm : X4.cell? ⟨mp + 1, 0, none⟩ = some (.map (some mp)) := (blk_cell HJ4.out.box 0).trans rfl
     have hl1 := run_map_lookup wordOk_ Tryz.underlying195 int_zero_ HJ4.out.map v.n.f0 false
     rw [look_ones] at hl1
     clear hku hbl hl3 hb14 hVB
     by_cases hin : v.n.f0 ∈ s.map nameOf
     ·rw [if_pos hin] at hl1
      change (Instr.lookup 195 (.map (some mp)) (.string v.n.f0) false).run Tryz.prog X4 = .ok (.int .i64 1) X4 at hl1
      have HIN := Aside0.mk hin
      obtain ⟨X5, hup, hM5, hg5⟩ := run_map_update wordOk_ Tryz.underlying195 HJ4.out.map v.n.f0 (2 : Int)
      change (Instr.mapUpdate 195 (.map (some mp)) (.string v.n.f0) (.int .i64 2)).run Tryz.prog X4 = .ok () X5 at hup
      have hl2 := run_map_lookup wordOk_ Tryz.underlying195 int_zero_ hM5 v.n.f0 false
      rw [put_look] at hl2
      change (Instr.lookup 195 (.map (some mp)) (.string v.n.f0) false).run Tryz.prog X5 = .ok (.int .i64 2) X5 at hl2
      have hVB5 : X5.heap[X.heap.size]? = _ := (hg5.block _ (lt_of_blk_ HVB.out) (fun e => HNE.out.1 (Option.some.inj e))).trans HVB.out
      have p0 : X5.cell? ⟨X.heap.size, 0, none⟩ = some (.string v.n.f0) := (blk_cell hVB5 0).trans rfl
      have p1 : X5.cell? ⟨X.heap.size, 1, none⟩ = some (.string v.n.f1) := (blk_cell hVB5 1).trans rfl
      have p2 : X5.cell? ⟨X.heap.size, 2, none⟩ = some (.slice A2' v.n.f2.length c2') := (blk_cell hVB5 2).trans rfl
      have p3 : X5.cell? ⟨X.heap.size, 3, none⟩ = some (.bool v.n.f3) := (blk_cell hVB5 3).trans rfl
      have p4 : X5.cell? ⟨X.heap.size, 4, none⟩ = some (.bool v.n.f4) := (blk_cell hVB5 4).trans rfl
      have p5 : X5.cell? ⟨X.heap.size, 5, none⟩ = some (.slice A5' v.n.f5.length c5') := (blk_cell hVB5 5).trans rfl
      have p6 : X5.cell? ⟨X.heap.size, 6, none⟩ = some (.slice A6' v.b.f0.length c6') := (blk_cell hVB5 6).trans rfl
      have p7 : X5.cell? ⟨X.heap.size, 7, none⟩ = some (.int .i64 v.d) := (blk_cell hVB5 7).trans rfl
      have cm5 : X5.cell? ⟨mp + 1, 0, none⟩ = some (.map (some mp)) := (blk_cell ((hg5.block _ (lt_of_blk_ HJ4.out.box) (fun e => HNE.out.2 (Option.some.inj e))).trans HJ4.out.box) 0).trans rfl
      have HG5 := Aside0.mk hg5
      clear hVB5 hM5 hg5 hin
      gi_wp2
      refine ⟨trivial, rfl, (show CallsIn (Fence.wide.inRound ly) 0 _ _ _ _ _ from callsIn_wide.2 (must_no _ _)).mono ?_⟩
      rintro e X6 ⟨rfl, rfl⟩
      have h2 := HJ4.out.hi
      have h3 := HS6.out
      exact ⟨rfl, keep_grown HG5.out (by omega), HJ4.out.b.trans (below_grown HG5.out HJ4.out.lo HJ4.out.map.lt), by rw [HS.out, show s ++ v :: t = (s ++ [v]) ++ t from by simp]; exact okAll_prefix _ _ (by rw [okAll_snoc, decide_eq_false (fun h => h HIN.out)]; simp), _, rfl⟩
     ·rw [if_neg hin] at hl1
      change (Instr.lookup 195 (.map (some mp)) (.string v.n.f0) false).run Tryz.prog X4 = .ok (.int .i64 0) X4 at hl1
      obtain ⟨X5, hup, hM5, hg5⟩ := run_map_update wordOk_ Tryz.underlying195 HJ4.out.map v.n.f0 (1 : Int)
      change (Instr.mapUpdate 195 (.map (some mp)) (.string v.n.f0) (.int .i64 1)).run Tryz.prog X4 = .ok () X5 at hup
      have hl2 := run_map_lookup wordOk_ Tryz.underlying195 int_zero_ hM5 v.n.f0 false
      rw [put_look] at hl2
      change (Instr.lookup 195 (.map (some mp)) (.string v.n.f0) false).run Tryz.prog X5 = .ok (.int .i64 1) X5 at hl2
      rw [show mapPut (onesOf s) v.n.f0 1 = onesOf (s ++ [v]) from put_ones s v hin] at hM5
      have hVB5 : X5.heap[X.heap.size]? = _ := (hg5.block _ (lt_of_blk_ HVB.out) (fun e => HNE.out.1 (Option.some.inj e))).trans HVB.out
      have p0 : X5.cell? ⟨X.heap.size, 0, none⟩ = some (.string v.n.f0) := (blk_cell hVB5 0).trans rfl
      have p1 : X5.cell? ⟨X.heap.size, 1, none⟩ = some (.string v.n.f1) := (blk_cell hVB5 1).trans rfl
      have p2 : X5.cell? ⟨X.heap.size, 2, none⟩ = some (.slice A2' v.n.f2.length c2') := (blk_cell hVB5 2).trans rfl
      have p3 : X5.cell? ⟨X.heap.size, 3, none⟩ = some (.bool v.n.f3) := (blk_cell hVB5 3).trans rfl
      have p4 : X5.cell? ⟨X.heap.size, 4, none⟩ = some (.bool v.n.f4) := (blk_cell hVB5 4).trans rfl
      have p5 : X5.cell? ⟨X.heap.size, 5, none⟩ = some (.slice A5' v.n.f5.length c5') := (blk_cell hVB5 5).trans rfl
      have p6 : X5.cell? ⟨X.heap.size, 6, none⟩ = some (.slice A6' v.b.f0.length c6') := (blk_cell hVB5 6).trans rfl
      have p7 : X5.cell? ⟨X.heap.size, 7, none⟩ = some (.int .i64 v.d) := (blk_cell hVB5 7).trans rfl
      have cm5 : X5.cell? ⟨mp + 1, 0, none⟩ = some (.map (some mp)) := (blk_cell ((hg5.block _ (lt_of_blk_ HJ4.out.box) (fun e => HNE.out.2 (Option.some.inj e))).trans HJ4.out.box) 0).trans rfl
      have h2 := HJ4.out.hi
      have h3 := HS6.out
      have hB45 : Below w.heap.size w X5 := HJ4.out.b.trans (below_grown hg5 HJ4.out.lo HJ4.out.map.lt)
      have HK5 := Aside0.mk (keep_grown (n := w6.heap.size) hg5 (by omega))
      have HC5 := Aside0.mk (Kd.C_below HVC.out hB45)
      have HOK : Aside0 (okAll (s ++ [v]) = okV v) := ⟨by rw [okAll_snoc, HJ4.out.ok, decide_eq_true (show nameOf v ∉ s.map nameOf from hin)]; simp⟩
      have HBAD : Aside0 (okV v = false → ∀ (X' : World) (why : ByteArray), Below X5.heap.size X5 X' → KeepUp w6.heap.size X4 X' ∧ RunX w l X' [{ v := faultV why, recovered := false }]) := ⟨fun hv X' why hb => ⟨HK5.out.trans (KeepUp.of_below hb (Nat.le_refl _)), hB45.trans (hb.mono hB45.size), by rw [HS.out, show s ++ v :: t = (s ++ [v]) ++ t from by simp]; exact okAll_prefix _ _ (HOK.out.trans hv), _, rfl⟩⟩
      have HGOOD : Aside0 (okV v = true → ∀ X' : World, Below X5.heap.size X5 X' → KeepUp w6.heap.size X4 X' ∧ RunJ w A c l mp bp (s ++ [v]) X') := ⟨fun hv X' hb => by
       have hz := HJ4.out
       have hsz := hg5.size
       have l1 := lt_of_blk_ hz.box
       have l2 := lt_of_blk_ hz.d1
       have l3 := lt_of_blk_ hz.d2
       refine ⟨HK5.out.trans (KeepUp.of_below hb (Nat.le_refl _)), hB45.trans (hb.mono hB45.size), HOK.out.trans hv, ?_, hM5.of_block (hb.block _ (Nat.lt_of_lt_of_le hz.map.lt hsz)), ?_, ?_, hz.lo, hz.hi⟩
       ·exact (hb.block _ (by omega)).trans ((hg5.block _ l1 (fun e => by have := Option.some.inj e; omega)).trans hz.box)
       ·exact (hb.block _ (by omega)).trans ((hg5.block _ l2 (fun e => by have := Option.some.inj e; omega)).trans hz.d1)
       ·exact (hb.block _ (by omega)).trans ((hg5.block _ l3 (fun e => by have := Option.some.inj e; omega)).trans hz.d2)⟩
      clear hVB5 hM5 hg5 hin h2 h3 hB45
      gi_wp2
      refine ⟨trivial, rfl, (show CallsIn (Fence.wide.inRound ly) 0 _ _ _ _ _ from callsIn_wide.2 (must_yes _ _)).mono ?_⟩
      rintro e X6 ⟨rfl, rfl⟩
      clear hl1 hl2 hup cm cm5 q0 q1 q2 q3 q4 q5 q6 q7
      obtain ⟨b3, hb3⟩ : ∃ b3, v.n.f3 = b3 := ⟨_, rfl⟩
      obtain ⟨g1, hg1⟩ : ∃ g1, v.n.f1 = g1 := ⟨_, rfl⟩
      have HUD : Aside0 (undoes v = (b3 || !decide (g1.toList = []))) := ⟨by rw [← hb3, ← hg1]; rfl⟩
      rw [hb3] at p3
      rw [hg1] at p1
      clear hb3 hg1
      cases b3
      ·by_cases h1 : g1.toList = []
       ·have HU : Aside0 (undoes v = false) := ⟨by rw [HUD.out, decide_eq_true h1]; rfl⟩
        gi_wp2
        refine ⟨trivial, rfl, (show CallsIn (Fence.wide.inRound ly) 0 _ _ _ _ _ from callsIn_wide.2 (must_no _ _)).mono ?_⟩
        rintro e X7 ⟨rfl, rfl⟩
        have HU2 : Aside0 (okV v = false) := ⟨by unfold okV; rw [HU.out]; rfl⟩
        exact ⟨rfl, (HBAD.out HU2.out _ ⟨#[]⟩ (Below.refl _ _)).1, (HBAD.out HU2.out _ _ (Below.refl _ _)).2⟩
       ·have HU : Aside0 (undoes v = true) := ⟨by rw [HUD.out, decide_eq_false h1]; rfl⟩
        have hx1 : g1.toList.isEmpty = false := by cases hh : g1.toList with | nil => exact absurd hh h1 | cons _ _ => rfl
        clear h1
        gi_wp2
        refine ⟨trivial, rfl, (show CallsIn (Fence.wide.inRound ly) 0 _ _ _ _ _ from callsIn_wide.2 (must_yes _ _)).mono ?_⟩
        rintro e X7 ⟨rfl, rfl⟩
        by_cases hd6 : v.d ≤ 6
        ·have hx6 : decide (v.d ≤ 6) = true := decide_eq_true hd6
         have HU2 : Aside0 (okV v = soundB v.n.f5) := ⟨by unfold okV; rw [HU.out, hx6]; rfl⟩
         gi_wp2
         refine ⟨trivial, rfl, (show CallsIn (Fence.wide.inRound ly) 0 _ _ _ _ _ from callsIn_wide.2 (must_yes _ _)).mono ?_⟩
         rintro e X8 ⟨rfl, rfl⟩
         clear hx6 hd6
         gi_wp2
         refine ⟨trivial, rfl, (show CallsIn (Fence.wide.inRound ly) 0 _ _ _ _ _ from callsIn_wide.2 (sound_walk A5' c5' v.n.f5 _ HC5.out HV5.out)).mono ?_⟩
         rintro e X9 ⟨hb, he⟩
         by_cases hs5 : soundB v.n.f5 = true
         ·rw [if_pos hs5] at he
          subst he
          have hh := HGOOD.out (HU2.out.trans hs5) _ hb
          have HH := Aside0.mk hh
          clear hh hb hs5
          gi_wp2
          exact HH.out
         ·rw [if_neg hs5] at he
          obtain ⟨why, rfl⟩ := he
          have hh := HBAD.out (by rw [HU2.out]; simpa using hs5) X9 why hb
          exact ⟨rfl, hh.1, hh.2⟩
        ·have hx6 : decide (v.d ≤ 6) = false := decide_eq_false hd6
         have HU2 : Aside0 (okV v = false) := ⟨by unfold okV; rw [HU.out, hx6]; rfl⟩
         gi_wp2
         refine ⟨trivial, rfl, (show CallsIn (Fence.wide.inRound ly) 0 _ _ _ _ _ from callsIn_wide.2 (must_no _ _)).mono ?_⟩
         rintro e X8 ⟨rfl, rfl⟩
         exact ⟨rfl, (HBAD.out HU2.out _ ⟨#[]⟩ (Below.refl _ _)).1, (HBAD.out HU2.out _ _ (Below.refl _ _)).2⟩
      ·have HU : Aside0 (undoes v = true) := ⟨by rw [HUD.out]; rfl⟩
       gi_wp2
       refine ⟨trivial, rfl, (show CallsIn (Fence.wide.inRound ly) 0 _ _ _ _ _ from callsIn_wide.2 (must_yes _ _)).mono ?_⟩
       rintro e X7 ⟨rfl, rfl⟩
       by_cases hd6 : v.d ≤ 6
       ·have hx6 : decide (v.d ≤ 6) = true := decide_eq_true hd6
        have HU2 : Aside0 (okV v = soundB v.n.f5) := ⟨by unfold okV; rw [HU.out, hx6]; rfl⟩
        gi_wp2
        refine ⟨trivial, rfl, (show CallsIn (Fence.wide.inRound ly) 0 _ _ _ _ _ from callsIn_wide.2 (must_yes _ _)).mono ?_⟩
        rintro e X8 ⟨rfl, rfl⟩
        clear hx6 hd6
        gi_wp2
        refine ⟨trivial, rfl, (show CallsIn (Fence.wide.inRound ly) 0 _ _ _ _ _ from callsIn_wide.2 (sound_walk A5' c5' v.n.f5 _ HC5.out HV5.out)).mono ?_⟩
        rintro e X9 ⟨hb, he⟩
        by_cases hs5 : soundB v.n.f5 = true
        ·rw [if_pos hs5] at he
         subst he
         have hh := HGOOD.out (HU2.out.trans hs5) _ hb
         have HH := Aside0.mk hh
         clear hh hb hs5
         gi_wp2
         exact HH.out
        ·rw [if_neg hs5] at he
         obtain ⟨why, rfl⟩ := he
         have hh := HBAD.out (by rw [HU2.out]; simpa using hs5) X9 why hb
         exact ⟨rfl, hh.1, hh.2⟩
       ·have hx6 : decide (v.d ≤ 6) = false := decide_eq_false hd6
        have HU2 : Aside0 (okV v = false) := ⟨by unfold okV; rw [HU.out, hx6]; rfl⟩
        gi_wp2
        refine ⟨trivial, rfl, (show CallsIn (Fence.wide.inRound ly) 0 _ _ _ _ _ from callsIn_wide.2 (must_no _ _)).mono ?_⟩
        rintro e X8 ⟨rfl, rfl⟩
        exact ⟨rfl, (HBAD.out HU2.out _ ⟨#[]⟩ (Below.refl _ _)).1, (HBAD.out HU2.out _ _ (Below.refl _ _)).2⟩
    case hdone =>
     intro d Wd hd hJd hmark
     refine leaves_marks (B := w6.heap.size) .returning (by simp) [d] Wd (Marks.cons (Marks.nil _ _) hd (by simp) hmark) (fun W' hW' => ?_)
     exact ⟨.tuple #[], results_none rfl _ _ _, hJd.b.trans (hW'.mono (by have h1 := HJ0.out.lo; have h2 := HJ0.out.hi; have h3 := HS6.out; omega)), by rw [HT3.out, hJd.ok]; exact ⟨_, rfl⟩⟩
    case hpanic =>
     intro d ch Wd hd hJd hmark
     refine leaves_marks (B := w6.heap.size) (.panicking ch) (by simp) [d] Wd (Marks.cons (Marks.nil _ _) hd (by simp) hmark) (fun W' hW' => ?_)
     obtain ⟨h1, h2, why, rfl⟩ := hJd
     exact HFW.out _ why _ (by rw [HT3.out, h2]) (h1.trans (hW'.mono (by have h1 := HJ0.out.lo; have h2 := HJ0.out.hi; have h3 := HS6.out; omega)))
   ·rw [if_neg hs] at he
    obtain ⟨why, rfl⟩ := he
    exact HFW.out _ why _ (by rw [HT2.out]; simp [hs]) HB4.out
  ·have hbf : bo = false := by rw [← HBO.out, hx1]; simpa using h64
   have hd64 : decide (r2 < 64) = false := decide_eq_false h64
   gi_wp2
   refine ⟨trivial, rfl, (callsIn_wide.2 (must_no _ _)).mono ?_⟩
   rintro e w3' ⟨rfl, rfl⟩
   exact HFW.out _ _ _ (HFA.out hbf) HB3.out
 ·have hx1 : (r1 == 0) = false := by simpa using hr1
  have hbf : bo = false := by rw [← HBO.out, hx1]; rfl
  clear hr1
  refine wpB_seq_k (fun K hK => ?_)
  gi_wp2
  refine ⟨trivial, rfl, (callsIn_wide.2 (syntax_Check.calls k nm A c l r1 _ HCA.out HL.out H1.out)).mono ?_⟩
  rintro e w2 ⟨rfl, hb⟩
  have HB2 := Aside0.mk (HB.out.trans (hb.mono (by simp)))
  clear hb
  gi_wp2_with (refine skip_w (by rfl) ?_)
  refine ⟨trivial, rfl, (callsIn_wide.2 (must_no _ _)).mono ?_⟩
  rintro e w3' ⟨rfl, rfl⟩
  exact HFW.out _ _ _ (HFA.out hbf) HB2.out
end Go.Proofs.YtokekdhmhfoliaaGreat.F
end

section
namespace Go.Proofs.YtokekdhmhfoliaaGreat.F
open Go.RowKit Go.Proofs.YtokekdhmhfoliaaGreatW.PrintWords Go.Proofs.YtokekdhmhfoliaaGreatW.PrintLast Go.Proofs.YtokekdhmhfoliaaGreatW.PrintMore
attribute [local go_sem] max2_int min2_int max_two min_two max_three min_three max_four min_four
set_option linter.unusedVariables false
set_option linter.unusedSimpArgs false
set_option maxHeartbeats 2000000 in
set_option maxRecDepth 100000 in
theorem guarded_idle (p : Addr) (w : World) :
  CallsD Tryz.prog 120 #[.pointer (some p)] .returning w fun e u' w' => e = .returned (.tuple #[]) ∧ u' = .returning ∧ w' = w := by
 refine callsD_of_wpS Tryz.func120 rfl fun c₀ cs hu => ?_
 apply wpS_seq
 apply wpS_region
 simp [wpOpsS, go_sem, recoverD, hu, Tryz.ntmps120, Exit.thenS]
 refine wpS_of_wp ?_
 go_wp2
 cases c₀
 simp_all [bodyPostS, results, Tryz.results120, go_sem]
theorem ta_fault (why : ByteArray) (w : World) : (Instr.typeAssert (.iface 191 (.string why)) 20 191 false).run Tryz.prog w = .ok (.string why) w := by kernel_rfl
set_option maxHeartbeats 4000000 in
set_option maxRecDepth 100000 in
theorem guarded_fault (why : ByteArray) (g : Nat) (x : Bool) (w : World) (hg : w.heap[g]? = some (.cells #[.bool x] 4 (0, 0))) :
  CallsD Tryz.prog 120 #[.pointer (some ⟨g, 0, none⟩)] (.panicking [{ v := faultV why, recovered := false }]) w fun e u' w' => e = .returned (.tuple #[]) ∧ u' = .panicking [{ v := faultV why, recovered := true }] ∧ w' = w.setCell ⟨g, 0, none⟩ (.bool false) := by
 have hz := blk_frozen hg 0
 have hc : w.cell? ⟨g, 0, none⟩ = some (.bool x) := (blk_cell hg 0).trans rfl
 clear hg
 refine callsD_of_wpS Tryz.func120 rfl fun c₀ cs hu => ?_
 apply wpS_seq
 apply wpS_region
 simp [wpOpsS, go_sem, recoverD, hu, Tryz.ntmps120, Exit.thenS, faultV]
 refine wpS_of_wp ?_
 clear hu
 have h1 := ta_fault
 go_wp2
 cases c₀
 simp_all [bodyPostS, results, Tryz.results120, go_sem]
theorem run_lit (g : Nat) (nm : ByteArray) (A : Option Addr) (c : Nat) (l : List S147) (w : World) (hg : w.heap[g]? = some (.cells #[.string nm, .slice A l.length c] 42 (0, 0))) (hC : k147.C w A l.length l) (hc : l.length ≤ c) (k : Nat) (r1 r2 : Int) (h1 : syntax_Check.f k nm l = some r1) (h2 : syntax_Count.f k nm l = some r2) :
  Calls Tryz.prog 88 #[.pointer (some ⟨g, 0, none⟩)] w (RunP (runB r1 r2 l) w) := by
 have q0 : w.cell? ⟨g, 0, none⟩ = some (.string nm) := (blk_cell hg 0).trans rfl
 have q1 : w.cell? ⟨g, 1, none⟩ = some (.slice A l.length c) := (blk_cell hg 1).trans rfl
 have HR := Aside0.mk (run_walk nm A c l w hC hc k r1 r2 h1 h2)
 clear hg hC hc h1 h2
 obtain ⟨o, ho⟩ : ∃ o, runB r1 r2 l = o := ⟨_, rfl⟩
 rw [ho] at HR ⊢
 clear ho
 cases o
 ·go_enter Tryz.func88, Tryz.ntmps88
  go_wp2_with (go_at_call 89; refine HR.out.mono ?_; rintro e w2 ⟨hb, he⟩; rw [if_neg (by simp)] at he; obtain ⟨why, rfl⟩ := he)
  exact ⟨rfl, hb, why, rfl⟩
 ·go_enter Tryz.func88, Tryz.ntmps88
  go_wp2_with (go_at_call 89; refine HR.out.mono ?_; rintro e w2 ⟨hb, he⟩; rw [if_pos rfl] at he; obtain ⟨v, rfl⟩ := he; have HB := Aside0.mk hb; clear hb)
  exact ⟨rfl, _, results_none rfl _ _ _, HB.out, _, rfl⟩
def GuardP (o : Bool) (w : World) (e : Ending) (w' : World) : Prop := Below w.heap.size w w' ∧ e = .returned (.bool o)
set_option maxHeartbeats 8000000 in
set_option maxRecDepth 100000 in
theorem guarded_walk (g : Nat) (nm : ByteArray) (A : Option Addr) (c : Nat) (l : List S147) (w : World) (hg : w.heap[g]? = some (.cells #[.string nm, .slice A l.length c] 42 (0, 0))) (hC : k147.C w A l.length l) (hc : l.length ≤ c) (k : Nat) (r1 r2 : Int) (h1 : syntax_Check.f k nm l = some r1) (h2 : syntax_Count.f k nm l = some r2) :
  Calls Tryz.prog 87 #[.func (.func 88) #[] #[.pointer (some ⟨g, 0, none⟩)]] w (GuardP (runB r1 r2 l) w) := by
 have hmf : ∀ (fn : Fn) (first cap : Array Value) (w : World), (Instr.makeFunc fn first cap).run Tryz.prog w = .ok (.func fn first cap) w := fun _ _ _ _ => rfl
 have HR := Aside0.mk (run_lit g nm A c l _ (blk_alloc hg (.cells #[.bool false] 4 (0, 0))) (Kd.C_alloc hC (.cells #[.bool false] 4 (0, 0))) hc k r1 r2 h1 h2)
 have HG := Aside0.mk (blk_new w (.cells #[.bool false] 4 (0, 0)))
 have HB0 := Aside0.mk ((Below.refl w.heap.size w).alloc (Nat.le_refl _) (.cells #[.bool false] 4 (0, 0)))
 clear hg hC hc h1 h2
 obtain ⟨o, ho⟩ : ∃ o, runB r1 r2 l = o := ⟨_, rfl⟩
 rw [ho] at HR ⊢
 clear ho
 cases o
 ·go_enter_defers Tryz.func87, Tryz.ntmps87
  go_wp2_with (go_at_call 88; refine HR.out.mono ?_; rintro e w2 ⟨hb, he⟩; rw [if_neg (by simp)] at he; obtain ⟨why, rfl⟩ := he)
  have HB2 := HB0.out.trans (hb.mono (by simp))
  have HG2 := blk_below HG.out hb
  refine leaves_cons (f := 120) (args := #[.pointer (some ⟨w.heap.size, 0, none⟩)]) (by simp) (by simp [go_sem]) ?_
  refine (guarded_fault why w.heap.size false _ HG2).mono ?_
  rintro e u' w'' ⟨rfl, rfl, rfl⟩
  have hG3 := blk_put HG2 0 (.bool false) rfl
  have hcl := (blk_cell hG3 0).trans rfl
  refine ⟨.bool false, by simp [results, Tryz.results87, go_sem, hcl], ?_⟩
  exact ⟨HB2.setCell (p := ⟨w.heap.size, 0, none⟩) (Nat.le_refl _) _, rfl⟩
 ·go_enter_defers Tryz.func87, Tryz.ntmps87
  go_wp2_with (go_at_call 88; refine HR.out.mono ?_; rintro e w2 ⟨hb, he⟩; rw [if_pos rfl] at he; obtain ⟨v, rfl⟩ := he; have HB2 := Aside0.mk (HB0.out.trans (hb.mono (by simp))); have HG2 := Aside0.mk (blk_below HG.out hb); have y0 : w2.cell? ⟨w.heap.size, 0, none⟩ = some (.bool false) := (blk_cell HG2.out 0).trans rfl; have y1 := blk_frozen HG2.out 0; clear hb)
  refine leaves_cons (f := 120) (args := #[.pointer (some ⟨w.heap.size, 0, none⟩)]) (by simp) (by simp [go_sem]) ?_
  refine (guarded_idle ⟨w.heap.size, 0, none⟩ _).mono ?_
  rintro e u' w'' ⟨rfl, rfl, rfl⟩
  have hG3 := blk_put HG2.out 0 (.bool true) rfl
  have hcl := (blk_cell hG3 0).trans rfl
  refine ⟨.bool true, by simp [results, Tryz.results87, go_sem, hcl], ?_⟩
  exact ⟨HB2.out.setCell (p := ⟨w.heap.size, 0, none⟩) (Nat.le_refl _) _, rfl⟩
set_option maxHeartbeats 8000000 in
set_option maxRecDepth 100000 in
theorem check_walk (nm : ByteArray) (A : Option Addr) (c : Nat) (l : List S147) (w : World) (hC : k147.C w A l.length l) (hc : l.length ≤ c) (k : Nat) (r1 r2 : Int) (h1 : syntax_Check.f k nm l = some r1) (h2 : syntax_Count.f k nm l = some r2) :
  Calls Tryz.prog 48 #[.agg #[.string nm, .slice A l.length c]] w fun e w' => e = .returned (.int .i64 (if runB r1 r2 l then 0 else 11)) ∧ Below w.heap.size w w' := by
 have hmf : ∀ (fn : Fn) (first cap : Array Value) (w : World), (Instr.makeFunc fn first cap).run Tryz.prog w = .ok (.func fn first cap) w := fun _ _ _ _ => rfl
 have HR := Aside0.mk (guarded_walk w.heap.size nm A c l _ (blk_new w (.cells #[.string nm, .slice A l.length c] 42 (0, 0))) (Kd.C_alloc hC (.cells #[.string nm, .slice A l.length c] 42 (0, 0))) hc k r1 r2 h1 h2)
 have HB0 := Aside0.mk ((Below.refl w.heap.size w).alloc (Nat.le_refl _) (.cells #[.string nm, .slice A l.length c] 42 (0, 0)))
 clear hC hc h1 h2
 obtain ⟨o, ho⟩ : ∃ o, runB r1 r2 l = o := ⟨_, rfl⟩
 rw [ho] at HR ⊢
 clear ho
 cases o
 all_goals
  go_enter Tryz.func48, Tryz.ntmps48
  go_wp2_with (go_at_call 87; refine HR.out.mono ?_; rintro e w2 ⟨hb, rfl⟩; have HB2 := Aside0.mk (HB0.out.trans (hb.mono (by simp))); clear hb)
  go_ret
  exact ⟨rfl, HB2.out⟩
end Go.Proofs.YtokekdhmhfoliaaGreat.F
end

section
namespace Go.Proofs.YtokekdhmhfoliaaGreat.F
open Go.RowKit Go.Proofs.YtokekdhmhfoliaaGreatW.PrintWords Go.Proofs.YtokekdhmhfoliaaGreatW.PrintLast Go.Proofs.YtokekdhmhfoliaaGreatW.PrintMore
attribute [local go_sem] max2_int min2_int max_two min_two max_three min_three max_four min_four
set_option linter.unusedVariables false
set_option linter.unusedSimpArgs false
theorem info40_ : (Tryz.prog.info? 56).map (fun i => (i.zero, i.size, i.bytes)) = some (some (.agg #[.string ⟨#[]⟩, .string ⟨#[]⟩, .bool false, .bool false, .int .i64 0, .int .i64 0, .int .i64 0, .slice none 0 0]), 8, 88) := by kernel_rfl
theorem info3_ : (Tryz.prog.info? 3).map (fun i => (i.zero, i.size, i.bytes)) = some (some (.int .i64 0), 1, 8) := by kernel_rfl
def addAfter (out : List ItemK) (a k : Int) : List ItemK := out.set a.toNat ⟨(rd_T56 out a).f0, (rd_T56 out a).f1, (rd_T56 out a).f2, (rd_T56 out a).f3, (rd_T56 out a).f4, (rd_T56 out a).f5, (rd_T56 out a).f6, (rd_T56 out a).f7 ++ [k]⟩
def arcsTo (b : List NodeK) (ats : List Int) (a : Int) : List ByteArray → List ItemK → List ItemK
 | [], out => out
 | s :: r, out => arcsTo b ats a r (addAfter out a (rd ats (namedI b s)))
def pass2 (b : List NodeK) (ats : List Int) : Nat → List NodeK → List ItemK → List ItemK
 | _, [], out => out
 | i, x :: l, out => pass2 b ats (i + 1) l (arcsTo b ats (rd ats (i : Int)) x.f2 out)
mutual
def flNode (inn alt : Int) (out : List ItemK) : S143 → List ItemK
 | ⟨nm, un, af, sb, vi, al⟩ => flAlts (out.length : Int) 0 (out ++ [⟨nm, un, sb, vi, (al.length : Int), inn, alt, []⟩]) al
def flNodes (inn alt : Int) (out : List ItemK) (nums : List Int) : List S143 → List ItemK × List Int
 | [] => (out, nums)
 | x :: l => flNodes inn alt (flNode inn alt out x) (nums ++ [(out.length : Int)]) l
def flBody (inn alt : Int) (out : List ItemK) : SB147 S143 → List ItemK
 | ⟨l⟩ => pass2 l (flNodes inn alt out [] l).2 0 l (flNodes inn alt out [] l).1
def flAlts (inn alt : Int) (out : List ItemK) : List (SB147 S143) → List ItemK
 | [] => out
 | b :: l => flAlts inn (alt + 1) (flBody inn alt out b) l
end
mutual
def wNode : S143 → Nat
 | ⟨_, _, af, _, _, al⟩ => 1 + af.length + wAlts al
def wNodes : List S143 → Nat
 | [] => 0
 | x :: l => wNode x + wNodes l
def wBody : SB147 S143 → Nat
 | ⟨l⟩ => wNodes l
def wAlts : List (SB147 S143) → Nat
 | [] => 0
 | b :: l => wBody b + wAlts l
end
def aNodes (l : List NodeK) : Nat := (l.map fun x => 1 + wAlts x.f5).sum
def sAf (l : List NodeK) : Nat := (l.map fun x => x.f2.length).sum
theorem wNode_eq (x : NodeK) : wNode x = 1 + x.f2.length + wAlts x.f5 := by cases x; simp [wNode]
theorem wNodes_eq (l : List NodeK) : wNodes l = aNodes l + sAf l := by
 induction l with
 | nil => simp [wNodes, aNodes, sAf]
 | cons x l ih => rw [wNodes, ih, wNode_eq]; simp only [aNodes, sAf, List.map_cons, List.sum_cons]; omega
theorem wBody_eq (b : BodyK) : wBody b = wNodes b.f0 := by cases b; simp [wBody]
theorem aNodes_take (l : List NodeK) (q : Nat) (h : q < l.length) : aNodes (l.take (q + 1)) = aNodes (l.take q) + (1 + wAlts l[q].f5) := by
 unfold aNodes; rw [List.take_succ_eq_append_getElem h, List.map_append, List.sum_append]; simp only [List.map_cons, List.map_nil, List.sum_cons, List.sum_nil, Nat.add_zero]
theorem sAf_take (l : List NodeK) (q : Nat) (h : q < l.length) : sAf (l.take (q + 1)) = sAf (l.take q) + l[q].f2.length := by
 unfold sAf; rw [List.take_succ_eq_append_getElem h, List.map_append, List.sum_append]; simp only [List.map_cons, List.map_nil, List.sum_cons, List.sum_nil, Nat.add_zero]
theorem aNodes_le (l : List NodeK) (q : Nat) : aNodes (l.take q) ≤ aNodes l := by
 have e : aNodes l = aNodes (l.take q) + aNodes (l.drop q) := by
  unfold aNodes; rw [← List.sum_append, ← List.map_append, List.take_append_drop]
 omega
theorem sAf_le (l : List NodeK) (q : Nat) : sAf (l.take q) ≤ sAf l := by
 have e : sAf l = sAf (l.take q) + sAf (l.drop q) := by
  unfold sAf; rw [← List.sum_append, ← List.map_append, List.take_append_drop]
 omega
theorem wAlts_take (l : List BodyK) (q : Nat) (h : q < l.length) : wAlts (l.take (q + 1)) = wAlts (l.take q) + wNodes l[q].f0 := by
 induction l generalizing q with
 | nil => simp at h
 | cons b l ih =>
  cases q with
  | zero => simp [wAlts, wBody_eq]
  | succ q =>
   simp only [List.take_succ_cons, wAlts, List.getElem_cons_succ]
   rw [ih q (by simpa using h)]; omega
theorem wAlts_le (l : List BodyK) (q : Nat) : wAlts (l.take q) ≤ wAlts l := by
 induction l generalizing q with
 | nil => simp [wAlts]
 | cons b l ih =>
  cases q with
  | zero => simp [wAlts]
  | succ q => simp only [List.take_succ_cons, wAlts]; have := ih q; omega
theorem flNode_eq (inn alt : Int) (out : List ItemK) (x : NodeK) : flNode inn alt out x = flAlts (out.length : Int) 0 (out ++ [⟨x.f0, x.f1, x.f3, x.f4, (x.f5.length : Int), inn, alt, []⟩]) x.f5 := by cases x; simp [flNode]
theorem flBody_eq (inn alt : Int) (out : List ItemK) (b : BodyK) : flBody inn alt out b = pass2 b.f0 (flNodes inn alt out [] b.f0).2 0 b.f0 (flNodes inn alt out [] b.f0).1 := by cases b; simp [flBody]
def Bnd (N : Nat) (xs : List ItemK) : Prop := xs.length ≤ N ∧ ∀ it ∈ xs, it.f7.length ≤ N
theorem Bnd.mono {N M : Nat} {xs : List ItemK} (h : Bnd N xs) (hN : N ≤ M) : Bnd M xs := ⟨Nat.le_trans h.1 hN, fun it hi => Nat.le_trans (h.2 it hi) hN⟩
theorem Bnd.snoc {N : Nat} {xs : List ItemK} (h : Bnd N xs) {it : ItemK} (hi : it.f7 = []) : Bnd (N + 1) (xs ++ [it]) :=
 ⟨by rw [List.length_append]; have := h.1; simpa using this, fun y hy => by
  rcases List.mem_append.1 hy with hy | hy
  ·exact Nat.le_succ_of_le (h.2 y hy)
  ·rw [List.mem_singleton.1 hy, hi]; simp⟩
theorem Bnd.add {N : Nat} {xs : List ItemK} (h : Bnd N xs) {a k : Int} (ha : a.toNat < xs.length) : Bnd (N + 1) (addAfter xs a k) :=
 ⟨by unfold addAfter; rw [List.length_set]; exact Nat.le_succ_of_le h.1, fun y hy => by
  unfold addAfter at hy
  rcases List.mem_or_eq_of_mem_set hy with hy | rfl
  ·exact Nat.le_succ_of_le (h.2 y hy)
  ·have hm : rd_T56 xs a ∈ xs := by unfold rd_T56; rw [List.getD_eq_getElem?_getD, List.getElem?_eq_getElem ha]; exact List.getElem_mem ha
   have := h.2 _ hm
   simp only [List.length_append, List.length_singleton]
   omega⟩
theorem arcsN_some (b : List NodeK) (i : Int) : ∀ (r bef : List ByteArray) (out o : List S263), arcsN b i bef r out = some o → ∀ s ∈ r, 0 ≤ namedI b s
 | [], _, _, _, _, s, hs => by cases hs
 | t :: r, bef, out, o, h, s, hs => by
  unfold arcsN at h
  split at h
  ·rename_i hc
   simp only [Bool.and_eq_true, decide_eq_true_eq] at hc
   rcases List.mem_cons.1 hs with rfl | hs
   ·exact hc.1.1
   ·exact arcsN_some b i r _ _ _ h s hs
  ·cases h
theorem arcsL_some (b : List NodeK) : ∀ (l : List NodeK) (i : Int) (out o : List S263), arcsL b i l out = some o → ∀ x ∈ l, ∀ s ∈ x.f2, 0 ≤ namedI b s
 | [], _, _, _, _, x, hx => by cases hx
 | y :: l, i, out, o, h, x, hx => by
  unfold arcsL at h
  split at h
  ·cases h
  ·rename_i o2 ho
   rcases List.mem_cons.1 hx with rfl | hx
   ·exact arcsN_some b i _ _ _ _ ho
   ·exact arcsL_some b l _ _ _ h x hx
theorem idxF_lt {α : Type} (p : α → Bool) : ∀ (l : List α) (i : Int), idxF p l i < i + (l.length : Int) ∨ idxF p l i = -1
 | [], i => by simp [idxF]
 | x :: l, i => by
  unfold idxF
  split
  ·left; simp only [List.length_cons]; omega
  ·rcases idxF_lt p l (i + 1) with h | h
   ·left; simp only [List.length_cons]; omega
   ·right; exact h
theorem sound_named {l : List BodyK} (h : soundB l = true) {b : BodyK} (hb : b ∈ l) : b.f0.length ≤ 16 ∧ ∀ x ∈ b.f0, ∀ s ∈ x.f2, 0 ≤ namedI b.f0 s ∧ namedI b.f0 s < (b.f0.length : Int) := by
 unfold soundB at h
 rw [Bool.and_eq_true, List.all_eq_true] at h
 have h1 := h.2 b hb
 unfold bodySound at h1
 simp only [Bool.and_eq_true, decide_eq_true_eq] at h1
 refine ⟨h1.1.2, fun x hx s hs => ?_⟩
 have h2 := h1.2
 split at h2
 ·cases h2
 ·rename_i a ha
  have h3 := arcsL_some _ _ _ _ _ ha x hx s hs
  refine ⟨h3, ?_⟩
  unfold namedI at h3 ⊢
  rcases idxF_lt (isName s) b.f0 0 with h4 | h4
  ·omega
  ·omega
theorem itm_get {W : World} {base : Nat} {ok : Nat → Prop} {v : Value} {out : List ItemK} (HS : Kd.S k56 56 W base ok v out) {a : Nat} (ha : a < out.length) :
  ∃ (g cap : Nat) (oki : Nat → Prop) (v7 : Value) (cs : List Value), v = .slice (some ⟨g, 0, none⟩) out.length cap ∧ W.cell? ⟨g, a * 8 + 7, none⟩ = some v7 ∧ W.frozen? ⟨g, a * 8 + 7, none⟩ = false ∧ Kd.R (Kd.int .i64) 3 W base oki v7 (rd_T56 out (a : Int)).f7 ∧ (∀ k, oki k → ok k ∧ k ≠ g) ∧ ok g ∧ base ≤ g ∧
   cs = [.string (rd_T56 out (a : Int)).f0, .string (rd_T56 out (a : Int)).f1, .bool (rd_T56 out (a : Int)).f2, .bool (rd_T56 out (a : Int)).f3, .int .i64 (rd_T56 out (a : Int)).f4, .int .i64 (rd_T56 out (a : Int)).f5, .int .i64 (rd_T56 out (a : Int)).f6, v7] ∧
   Kd.H k56 56 W base ok (.slice (some ⟨g, 0, none⟩) out.length cap) out (a : Int) oki cs := by
 obtain ⟨g, cap, rfl, hbg, hglt, _⟩ := Kd.S_form HS (by omega)
 obtain ⟨oki, c, hcl, hM, hcc, hfr, hoki, hH⟩ := Kd.S_elem HS z56 (a : Int) (by omega) (by omega)
 have hrd : out.getD (a : Int).toNat z56 = rd_T56 out (a : Int) := rfl
 rw [hrd] at hM
 obtain ⟨v7, rfl, hR⟩ := k56_openM hM
 have h1 := hcc 7 v7 rfl
 have h2 := hfr 7
 rw [Int.toNat_natCast] at h1 h2
 refine ⟨g, cap, oki, v7, _, rfl, h1, h2, hR, hoki, (Kd.S_R HS).1 g (by simp [Value.ownBlock]), hbg, rfl, hH⟩
theorem itm_back {W w1 : World} {base g cap a n : Nat} {ok oki : Nat → Prop} {v7 v1 : Value} {out : List ItemK} {x : ItemK} {l : List Int} (ha : a < n)
  (hH : Kd.H k56 56 W base ok (.slice (some ⟨g, 0, none⟩) n cap) out (a : Int) oki [.string x.f0, .string x.f1, .bool x.f2, .bool x.f3, .int .i64 x.f4, .int .i64 x.f5, .int .i64 x.f6, v7]) (hg : W.grownBy w1 v7.ownBlock) (hve : ∀ k, v7.ownBlock = some k → oki k)
  (hfresh : ∀ k, W.heap.size ≤ k → ok k) (hR : Kd.R (Kd.int .i64) 3 w1 base (fun k => oki k ∨ W.heap.size ≤ k) v1 l) :
  Kd.S k56 56 (w1.setCell ⟨g, a * 8 + 7, none⟩ v1) base ok (.slice (some ⟨g, 0, none⟩) n cap) (out.set a ⟨x.f0, x.f1, x.f2, x.f3, x.f4, x.f5, x.f6, l⟩) ∧ w1.grownBy (w1.setCell ⟨g, a * 8 + 7, none⟩ v1) (some g) := by
 have h2 := Kd.H_widen hH
 have h3 := Kd.H_grown h2 hg (fun k hk => .inl (hve k hk))
 have h4 := Kd.S_seg0 h3 (by omega) (by omega) (seg := [v1]) (j := 7) (Nat.le_refl 8) (x' := (⟨x.f0, x.f1, x.f2, x.f3, x.f4, x.f5, x.f6, l⟩ : ItemK)) (okp := fun k => oki k ∨ ok k ∧ W.heap.size ≤ k) (k56_mkM _ _ _ _ (Kd.R_mono hR (fun k hk => hk.elim .inl (fun h => .inr ⟨hfresh k h, h⟩)))) (fun _ hk => hk)
 rw [Int.toNat_natCast] at h4
 simpa [show (k56).sz = 8 from rfl, World.setCells] using h4
theorem frozen_al {W : World} {a : Addr} {v : Value} {o : Obj} (h : W.cell? a = some v) (hf : W.frozen? a = false) : (W.alloc o).frozen? a = false := by
 have := Below.heap_alloc W o a.block (World.block_lt_of_cell? W a h)
 simpa [World.frozen?, this] using hf
theorem ats_set (nums : List Int) (m n q : Nat) (hn : nums.length = q) (hq : q < n) : (nums ++ List.replicate (n - q) (0 : Int)).set q (m : Int) = (nums ++ [(m : Int)]) ++ List.replicate (n - (q + 1)) 0 := by
 obtain ⟨d, rfl⟩ : ∃ d, n = q + 1 + d := ⟨n - (q + 1), by omega⟩
 rw [show q + 1 + d - q = d + 1 by omega, show q + 1 + d - (q + 1) = d by omega, List.replicate_succ, List.set_append_right _ _ (by omega), hn, Nat.sub_self]
 simp
theorem Q_drew_ {W : World} {base : Nat} {ok : Nat → Prop} {v : Value} {xs : List Int} (h : Kd.Q (Kd.int .i64) 3 W base ok v xs) : Kd.Q (Kd.int .i64) 3 W.drew base ok v xs := Kd.Q_below h (below_drew (Below.refl _ _))
theorem at_cell {W : World} {base g n cap q : Nat} {ok : Nat → Prop} {nums : List Int} {m : Int} {z : List Int} (h : Kd.Q (Kd.int .i64) 3 W base ok (.slice (some ⟨g, 0, none⟩) n cap) ((nums ++ [m]) ++ z)) (hn : nums.length = q) (hq : q < n) : W.drew.cell? ⟨g, q, none⟩ = some (.int .i64 m) := by
 have h1 := (Kd.Q_cell (0 : Int) (Q_drew_ h) (q : Int) (by omega) (by omega)).1
 rw [Int.toNat_natCast, Nat.zero_add] at h1
 rw [h1]
 simp [rdOf, ← hn]
def Stop_ (p : Prop) : Prop := p
theorem stop_ {p : Prop} (h : Stop_ p) : p := h
theorem frozen_below {W W2 : World} {a : Addr} {v : Value} (hb : Below W.heap.size W W2) (h : W.cell? a = some v) (hf : W.frozen? a = false) : W2.drew.frozen? a = false := by
 have := hb.block a.block (World.block_lt_of_cell? W a h)
 have h2 : W2.drew.heap[a.block]? = W.heap[a.block]? := this
 simpa [World.frozen?, h2] using hf
theorem at_form {W : World} {base g N : Nat} {v : Value} {xs : List Int} (h : Kd.R (Kd.int .i64) 3 W base (fun k => k = g) v xs) (hb : ∃ b, v.ownBlock = some b ∧ N ≤ b) : ∃ c, v = .slice (some ⟨g, 0, none⟩) xs.length c := by
 obtain ⟨A, c, rfl⟩ := Kd.R_slice h
 obtain ⟨b, hb, _⟩ := hb
 cases A with
 | none => simp [Value.ownBlock] at hb
 | some a =>
  obtain ⟨g', rfl⟩ := Kd.R_head h
  have : g' = g := h.1 g' (by simp [Value.ownBlock])
  subst this
  exact ⟨c, rfl⟩
theorem addAfter_length (out : List ItemK) (a k : Int) : (addAfter out a k).length = out.length := by simp [addAfter]
theorem arcsTo_length (b : List NodeK) (ats : List Int) (a : Int) : ∀ (r : List ByteArray) (out : List ItemK), (arcsTo b ats a r out).length = out.length
 | [], _ => rfl
 | s :: r, out => by rw [arcsTo, arcsTo_length b ats a r, addAfter_length]
theorem pass2_length (b : List NodeK) (ats : List Int) : ∀ (l : List NodeK) (i : Nat) (out : List ItemK), (pass2 b ats i l out).length = out.length
 | [], _, _ => rfl
 | x :: l, i, out => by rw [pass2, pass2_length b ats l, arcsTo_length]
mutual
theorem flNode_len (inn alt : Int) (out : List ItemK) : ∀ x : S143, out.length < (flNode inn alt out x).length
 | ⟨nm, un, af, sb, vi, al⟩ => by
  unfold flNode
  have := flAlts_len (out.length : Int) 0 (out ++ [⟨nm, un, sb, vi, (al.length : Int), inn, alt, []⟩]) al
  rw [List.length_append] at this
  simp only [List.length_singleton] at this
  omega
theorem flNodes_len (inn alt : Int) (out : List ItemK) (nums : List Int) : ∀ l : List S143, out.length ≤ (flNodes inn alt out nums l).1.length
 | [] => by simp [flNodes]
 | x :: l => by
  unfold flNodes
  have h1 := flNode_len inn alt out x
  have h2 := flNodes_len inn alt (flNode inn alt out x) (nums ++ [(out.length : Int)]) l
  omega
theorem flBody_len (inn alt : Int) (out : List ItemK) : ∀ b : SB147 S143, out.length ≤ (flBody inn alt out b).length
 | ⟨l⟩ => by
  unfold flBody
  rw [pass2_length]
  exact flNodes_len inn alt out [] l
theorem flAlts_len (inn alt : Int) (out : List ItemK) : ∀ l : List (SB147 S143), out.length ≤ (flAlts inn alt out l).length
 | [] => by simp [flAlts]
 | b :: l => by
  unfold flAlts
  have h1 := flBody_len inn alt out b
  have h2 := flAlts_len inn (alt + 1) (flBody inn alt out b) l
  omega
end
def FlatP (w0 w : World) (ok : Nat → Prop) (N : Nat) (r : List ItemK) (e : Ending) (w' : World) : Prop := Below w0.heap.size w0 w' ∧ Kept w w' ok ∧ Bnd N r ∧ ∃ v, e = .returned v ∧ Kd.S k56 56 w' w0.heap.size (fun k => ok k ∨ w.heap.size ≤ k) v r
def FlatC (l : List BodyK) : Prop := ∀ (d : Int) (w0 w : World) (A : Option Addr) (c : Nat) (ok : Nat → Prop) (v : Value) (xs : List ItemK) (inn : Int) (N : Nat), Kd.C k147 w0 A l.length l → l.length ≤ c → soundB l = true → (∀ u ∈ visAlts d l, soundB u.n.f5 = true) →
 Below w0.heap.size w0 w → Kd.S k56 56 w w0.heap.size ok v xs → Bnd N xs → N + wAlts l ≤ 1000000 → Calls Tryz.prog 49 #[v, .int .i64 inn, .slice A l.length c] w (FlatP w0 w ok (N + wAlts l) (flAlts inn 0 xs l))
theorem flAlts_drop (inn alt : Int) (out : List ItemK) (l : List BodyK) (i : Nat) (h : i < l.length) : flAlts inn alt out (l.drop i) = flAlts inn (alt + 1) (flBody inn alt out l[i]) (l.drop (i + 1)) := by rw [List.drop_eq_getElem_cons h]; simp [flAlts]
theorem flNodes_drop (inn alt : Int) (out : List ItemK) (nums : List Int) (l : List NodeK) (i : Nat) (h : i < l.length) : flNodes inn alt out nums (l.drop i) = flNodes inn alt (flNode inn alt out l[i]) (nums ++ [(out.length : Int)]) (l.drop (i + 1)) := by rw [List.drop_eq_getElem_cons h]; simp [flNodes]
theorem vis_child {d : Int} {l : List BodyK} {i : Nat} (h : i < l.length) {q : Nat} (hq : q < l[i].f0.length) {P : Vis → Prop} (hall : ∀ u ∈ visAlts d l, P u) : P ⟨l[i].f0[q], l[i], d⟩ ∧ ∀ u ∈ visAlts (wrap64 (d + 1)) l[i].f0[q].f5, P u := by
 rw [visAlts_split d l i h] at hall
 have h1 : ∀ u ∈ visNodes l[i] d l[i].f0, P u := fun u hu => hall u (List.mem_append_right _ (List.mem_append_left _ hu))
 rw [visNodes_split l[i] d l[i].f0 q hq] at h1
 exact ⟨h1 _ (List.mem_append_right _ List.mem_cons_self), fun u hu => h1 u (List.mem_append_right _ (List.mem_cons_of_mem _ (List.mem_append_left _ hu)))⟩
set_option maxHeartbeats 16000000 in
set_option maxRecDepth 100000 in
theorem flat_walk (l : List BodyK) (ih : ∀ b ∈ l, ∀ x ∈ b.f0, FlatC x.f5) : FlatC l := by
 intro d w0 w A c ok v xs inn N hC hc hs hall hB hS hN hW
 have IH := Aside0.mk ih
 have HC := Aside0.mk hC
 have HLC := Aside0.mk hc
 have HSB := Aside0.mk hs
 have HALL := Aside0.mk hall
 have HB0 := Aside0.mk hB
 have HS0 := Aside0.mk hS
 have HN0 := Aside0.mk hN
 have HW0 := Aside0.mk hW
 have HM := Aside0.mk (Kd.C_max hC)
 obtain ⟨A0, c0, rfl⟩ := Kd.S_slice hS
 clear ih hC hc hs hall hB hS hN hW
 go_enter Tryz.func49, Tryz.ntmps49
 go_wp2
 go_loopg [0, 19] l.length (fun kq v0 v19 w' => ∃ (i : Nat) (out : List ItemK), i + kq = l.length ∧ v19 = .int .i64 i ∧ Aside0 (Below w0.heap.size w0 w') ∧ Aside0 (Kept w w' ok) ∧ Aside0 (Bnd (N + wAlts (l.take i)) out) ∧ Aside0 (flAlts inn 0 xs l = flAlts inn (i : Int) out (l.drop i)) ∧ Aside0 (Kd.S k56 56 w' w0.heap.size (fun k => ok k ∨ w.heap.size ≤ k) v0 out))
 case atStart => exact ⟨0, xs, by omega, rfl, HB0, ⟨Kept.refl _ _⟩, ⟨by simpa [wAlts] using HN0.out⟩, ⟨rfl⟩, ⟨Kd.S_mono HS0.out (fun _ hk => .inl hk)⟩⟩
 case round =>
  obtain ⟨wo, hwo⟩ : ∃ x, x = wr := ⟨_, rfl⟩
  subst hwo
  obtain ⟨i, out, hi, rfl, HB, HK, HN, HI, HS⟩ := hrel
  have hm := HM.out
  cases gk with
  | zero =>
   obtain rfl : i = l.length := by omega
   obtain ⟨A1, c1, rfl⟩ := Kd.S_slice HS.out
   have HE : Aside0 (flAlts inn 0 xs l = out) := ⟨by rw [HI.out, List.drop_eq_nil_of_le (Nat.le_refl _)]; simp [flAlts]⟩
   have HN' : Aside0 (Bnd (N + wAlts l) out) := ⟨by have := HN.out; rwa [List.take_length] at this⟩
   go_wp2
   go_ret
   refine ⟨HB.out, HK.out, ?_, _, rfl, ?_⟩
   ·rw [HE.out]; exact HN'.out
   ·rw [HE.out]; exact HS.out
  | succ k =>
   have hlt : i < l.length := by omega
   obtain ⟨A1, c1, rfl⟩ := Kd.S_slice HS.out
   obtain ⟨ad, A2, c2, e0, x0, l2, g2⟩ := at_T147 HC.out (i : Int) (by omega) (by omega)
   subst e0
   rw [Int.toNat_natCast] at x0
   replace x0 := (HB.out.cell (World.block_lt_of_cell? w0 _ x0)).trans x0
   have hrd : rd_T147 l (i : Int) = l[i] := by unfold rd_T147; rw [Int.toNat_natCast, List.getD_eq_getElem?_getD, List.getElem?_eq_getElem hlt]; rfl
   rw [hrd] at x0 l2 g2
   have HNB := Aside0.mk (sound_named HSB.out (List.getElem_mem hlt))
   have HIHB : Aside0 (∀ x ∈ l[i].f0, FlatC x.f5) := ⟨fun x hx => IH.out l[i] (List.getElem_mem hlt) x hx⟩
   have HCH : Aside0 (∀ x ∈ l[i].f0, soundB x.f5 = true ∧ ∀ u ∈ visAlts (wrap64 (d + 1)) x.f5, soundB u.n.f5 = true) := ⟨fun x hx => by obtain ⟨q, hq, rfl⟩ := List.getElem_of_mem hx; exact vis_child (P := fun u => soundB u.n.f5 = true) hlt hq HALL.out⟩
   have HWT : Aside0 (wAlts (l.take (i + 1)) = wAlts (l.take i) + wNodes l[i].f0) := ⟨wAlts_take l i hlt⟩
   have HWL : Aside0 (N + wAlts (l.take (i + 1)) ≤ 1000000) := ⟨Nat.le_trans (Nat.add_le_add_left (wAlts_le l (i + 1)) N) HW0.out⟩
   have HD : Aside0 (flAlts inn (i : Int) out (l.drop i) = flAlts inn ((i : Int) + 1) (pass2 l[i].f0 (flNodes inn i out [] l[i].f0).2 0 l[i].f0 (flNodes inn i out [] l[i].f0).1) (l.drop (i + 1))) := ⟨by rw [flAlts_drop inn i out l i hlt, flBody_eq]⟩
   obtain ⟨⟨b⟩, hbx⟩ : ∃ x, l[i] = x := ⟨_, rfl⟩
   simp only [hbx] at x0 l2 g2 HNB HIHB HCH HWT HD
   have HI2 := Aside0.mk hi
   have HNX : Aside0 (Value.int .i64 (wrap64 ((i : Int) + 1)) = .int .i64 ((i + 1 : Nat) : Int)) := ⟨by rw [show wrap64 ((i : Int) + 1) = ((i + 1 : Nat) : Int) from by unfold wrap64; omega]⟩
   have hlt' : (i : Int) < (l.length : Int) := by omega
   have h0 : (0 : Int) ≤ i := by omega
   have HCB := Aside0.mk g2
   have HLB := Aside0.mk l2
   have hb16 := HNB.out.1
   clear hrd hbx hi g2 l2
   have HGB := Aside0.mk (blk_new wo (.cells #[.slice A2 b.length c2] 147 (0, 0)))
   have HBB := Aside0.mk (HB.out.alloc HB.out.size (.cells #[.slice A2 b.length c2] 147 (0, 0)))
   have HKB := Aside0.mk (HK.out.alloc (.cells #[.slice A2 b.length c2] 147 (0, 0)))
   have HSB2 := Aside0.mk (Kd.S_alloc HS.out (.cells #[.slice A2 b.length c2] 147 (0, 0)))
   go_wp2_with ((with_reducible refine gate_dst (N := 27) rfl ?_); refine Kd.R_make (Kd.int .i64) (w0 := wo.alloc (.cells #[.slice A2 b.length c2] 147 (0, 0))) w0.heap.size 3 rfl (N := 27) rfl 48 _ _ rfl (b.length : Int) rfl rfl Tryz.underlying48 (.int .i64 0) 8 info3_ rfl (by decide) (by omega) (0 : Int) (ok := fun k => k = wo.heap.size + 1) (okp := fun _ => False) rfl (fun _ hk => hk.elim) (by simp) (by omega) (by omega) (Below.refl _ _) HBB.out.size ?_; intro vA wA hA hbA hgA hkA; obtain ⟨cA, rfl⟩ := at_form hA hkA; have HQA := Aside0.mk (Kd.Q_of_R hA); have HBA := Aside0.mk (HBB.out.trans hbA); have HKA := Aside0.mk (Kept.of_grown hgA HKB.out (fun k hk => by cases hk)); have HSA := Aside0.mk (Kd.S_mono (Kd.S_grown (Kd.S_bound HSB2.out) hgA (fun k _ => by simp)) (fun k hk => (⟨hk.1, by have h1 := hk.2.2.1; simp at h1; omega⟩ : (ok k ∨ w.heap.size ≤ k) ∧ k ≠ wo.heap.size + 1))); have HGA := Aside0.mk (blk_grown HGB.out hgA (by simp)); have c0 : wA.cell? ⟨wo.heap.size, 0, none⟩ = some (.slice A2 b.length c2) := (blk_cell HGA.out 0).trans rfl; clear hA hbA hgA hkA)
   rw [show (List.replicate ((b.length : Int)).toNat (0 : Int)).length = b.length from by simp] at HQA
   have HSZ : Aside0 (w.heap.size ≤ wo.heap.size) := ⟨HK.out.1⟩
   clear c0
   go_loopg [0, 31] b.length (fun kq v0 v31 w' => ∃ (q : Nat) (o2 : List ItemK) (nums : List Int), q + kq = b.length ∧ v31 = .int .i64 q ∧ Aside0 (nums.length = q) ∧ Aside0 (∀ m ∈ nums, 0 ≤ m ∧ m < (o2.length : Int)) ∧ Aside0 (flNodes inn i out [] b = flNodes inn i o2 nums (b.drop q)) ∧ Aside0 (Below w0.heap.size w0 w') ∧ Aside0 (Kept w w' ok) ∧
    Aside0 (Kd.S k56 56 w' w0.heap.size (fun k => (ok k ∨ w.heap.size ≤ k) ∧ k ≠ wo.heap.size + 1) v0 o2) ∧ Aside0 (Kd.Q (Kd.int .i64) 3 w' w0.heap.size (fun k => k = wo.heap.size + 1) (.slice (some ⟨wo.heap.size + 1, 0, none⟩) b.length cA) (nums ++ List.replicate (b.length - q) 0)) ∧
    Aside0 (w'.heap[wo.heap.size]? = some (.cells #[.slice A2 b.length c2] 147 (0, 0))) ∧ Aside0 (Bnd (N + wAlts (l.take i) + aNodes (b.take q)) o2))
   case atStart => exact ⟨0, out, [], by omega, rfl, ⟨rfl⟩, ⟨fun m hm => by cases hm⟩, ⟨rfl⟩, HBA, HKA, HSA, by simpa using HQA, HGA, ⟨by simpa [aNodes] using HN.out⟩⟩
   case round =>
    obtain ⟨w1, hw1⟩ : ∃ x, x = wr := ⟨_, rfl⟩
    subst hw1
    obtain ⟨q, o2, nums, hq, rfl, HNL, HNM, HI3, HB1, HK1, HS1, HQ1, HG1, HN1⟩ := hrel
    obtain ⟨A3, c3, rfl⟩ := Kd.S_slice HS1.out
    cases gk with
    | zero =>
     obtain rfl : q = b.length := by omega
     have HFE : Aside0 (flNodes inn i out [] b = (o2, nums)) := ⟨by rw [HI3.out, List.drop_eq_nil_of_le (Nat.le_refl _)]; simp [flNodes]⟩
     rw [Nat.sub_self, List.replicate_zero, List.append_nil] at HQ1
     have HN1' : Aside0 (Bnd (N + wAlts (l.take i) + aNodes b) o2) := ⟨by have := HN1.out; rwa [List.take_length] at this⟩
     have c0 : w1.cell? ⟨wo.heap.size, 0, none⟩ = some (.slice A2 b.length c2) := (blk_cell HG1.out 0).trans rfl
     go_wp2
     clear c0
     go_loopg [70] b.length (fun kq v70 w' => ∃ (q : Nat) (o3 : List ItemK), q + kq = b.length ∧ v70 = .int .i64 q ∧ Aside0 (o3.length = o2.length) ∧ Aside0 (pass2 b nums 0 b o2 = pass2 b nums q (b.drop q) o3) ∧ Aside0 (Below w0.heap.size w0 w') ∧ Aside0 (Kept w w' ok) ∧
      Aside0 (Kd.S k56 56 w' w0.heap.size (fun k => (ok k ∨ w.heap.size ≤ k) ∧ k ≠ wo.heap.size + 1) (.slice A3 o2.length c3) o3) ∧ Aside0 (Kd.Q (Kd.int .i64) 3 w' w0.heap.size (fun k => k = wo.heap.size + 1) (.slice (some ⟨wo.heap.size + 1, 0, none⟩) b.length cA) nums) ∧
      Aside0 (w'.heap[wo.heap.size]? = some (.cells #[.slice A2 b.length c2] 147 (0, 0))) ∧ Aside0 (Bnd (N + wAlts (l.take i) + aNodes b + sAf (b.take q)) o3))
     case atStart => exact ⟨0, o2, by omega, rfl, ⟨rfl⟩, ⟨rfl⟩, HB1, HK1, HS1, HQ1, HG1, ⟨by simpa [sAf] using HN1'.out⟩⟩
     case round =>
      obtain ⟨w2, hw2⟩ : ∃ x, x = wr := ⟨_, rfl⟩
      subst hw2
      obtain ⟨q, o3, hq, rfl, HO3, HP3, HB2, HK2, HS2, HQ2, HG2, HN2⟩ := hrel
      cases gk with
      | zero =>
       obtain rfl : q = b.length := by omega
       have HE3 : Aside0 (pass2 b nums 0 b o2 = o3) := ⟨by rw [HP3.out, List.drop_eq_nil_of_le (Nat.le_refl _)]; rfl⟩
       go_wp2
       go_roundg k
       case measure => omega
       case rel => exact ⟨i + 1, o3, by have := HI2.out; omega, by first | exact HNX.out | go_num, HB2, HK2, ⟨HN2.out.mono (by have h1 := HWT.out; have h2 := wNodes_eq b; rw [List.take_length]; omega)⟩, ⟨by rw [HI.out, HD.out, HFE.out, HE3.out]; rfl⟩, ⟨Kd.S_mono HS2.out (fun _ hk => hk.1)⟩⟩
      | succ k2 =>
       have hltq : q < b.length := by omega
       obtain ⟨adn, Af, cf, Aal, cal, en, y0, y1, y2, y3, y4, y5, lf, gf, lal, gal⟩ := at_T143 HCB.out (q : Int) (by omega) (by omega)
       subst en
       rw [Int.toNat_natCast] at y0 y1 y2 y3 y4 y5
       replace y0 := (HB2.out.cell (World.block_lt_of_cell? w0 _ y0)).trans y0
       replace y1 := (HB2.out.cell (World.block_lt_of_cell? w0 _ y1)).trans y1
       replace y2 := (HB2.out.cell (World.block_lt_of_cell? w0 _ y2)).trans y2
       replace y3 := (HB2.out.cell (World.block_lt_of_cell? w0 _ y3)).trans y3
       replace y4 := (HB2.out.cell (World.block_lt_of_cell? w0 _ y4)).trans y4
       replace y5 := (HB2.out.cell (World.block_lt_of_cell? w0 _ y5)).trans y5
       have hrq : rd_T143 b (q : Int) = b[q] := by unfold rd_T143; rw [Int.toNat_natCast, List.getD_eq_getElem?_getD, List.getElem?_eq_getElem hltq]; rfl
       rw [hrq] at y0 y1 y2 y3 y4 y5 lf gf lal gal
       have HSN : Aside0 (∀ s ∈ b[q].f2, 0 ≤ namedI b s ∧ namedI b s < (b.length : Int)) := ⟨HNB.out.2 _ (List.getElem_mem hltq)⟩
       have HPD : Aside0 (pass2 b nums q (b.drop q) o3 = pass2 b nums (q + 1) (b.drop (q + 1)) (arcsTo b nums (rd nums (q : Int)) b[q].f2 o3)) := ⟨by rw [List.drop_eq_getElem_cons hltq]; rfl⟩
       have HST : Aside0 (sAf (b.take (q + 1)) = sAf (b.take q) + b[q].f2.length) := ⟨sAf_take b q hltq⟩
       have HLIM : Aside0 (N + wAlts (l.take i) + aNodes b + sAf (b.take (q + 1)) ≤ 1000000) := ⟨by have h1 := sAf_le b (q + 1); have h2 := wNodes_eq b; have h3 := HWT.out; have h4 := HWL.out; omega⟩
       have HRD : Aside0 (0 ≤ rd nums (q : Int) ∧ rd nums (q : Int) < (o2.length : Int)) := ⟨by have := HNM.out (nums[q]'(by have := HNL.out; omega)) (List.getElem_mem _); unfold rd; rw [Int.toNat_natCast, List.getD_eq_getElem?_getD, List.getElem?_eq_getElem (by have := HNL.out; omega)]; exact this⟩
       obtain ⟨⟨nm, un, af, sb, vi, al⟩, hxx⟩ : ∃ x, b[q] = x := ⟨_, rfl⟩
       simp only [hxx] at y0 y1 y2 y3 y4 y5 lf gf lal gal HSN HPD HST
       have HAFC := Aside0.mk gf
       have HLF := Aside0.mk lf
       have hmf := Kd.C_max gf
       have hq0 : (0 : Int) ≤ (q : Int) := by omega
       have hq1 : (q : Int) < (b.length : Int) := by omega
       have HQN := Aside0.mk hq
       have HNX2 : Aside0 (Value.int .i64 (wrap64 ((q : Int) + 1)) = .int .i64 ((q + 1 : Nat) : Int)) := ⟨by rw [show wrap64 ((q : Int) + 1) = ((q + 1 : Nat) : Int) from by unfold wrap64; omega]⟩
       obtain ⟨an, han⟩ : ∃ an : Nat, rd nums (q : Int) = (an : Int) := ⟨(rd nums (q : Int)).toNat, by have := HRD.out; omega⟩
       have HAN := Aside0.mk han
       have HANL : Aside0 (an < o2.length) := ⟨by have h1 := HRD.out.2; rw [han] at h1; omega⟩
       have HB3 := Aside0.mk (HB2.out.alloc HB2.out.size (.cells #[.string nm, .string un, .slice Af af.length cf, .bool sb, .bool vi, .slice Aal al.length cal] 143 (0, 0)))
       have HK3 := Aside0.mk (HK2.out.alloc (.cells #[.string nm, .string un, .slice Af af.length cf, .bool sb, .bool vi, .slice Aal al.length cal] 143 (0, 0)))
       have HS3 := Aside0.mk (Kd.S_alloc HS2.out (.cells #[.string nm, .string un, .slice Af af.length cf, .bool sb, .bool vi, .slice Aal al.length cal] 143 (0, 0)))
       have HQ3 := Aside0.mk (Kd.Q_below HQ2.out ((Below.refl _ _).alloc (Nat.le_refl _) (.cells #[.string nm, .string un, .slice Af af.length cf, .bool sb, .bool vi, .slice Aal al.length cal] 143 (0, 0))))
       have HG3 := Aside0.mk (blk_alloc HG2.out (.cells #[.string nm, .string un, .slice Af af.length cf, .bool sb, .bool vi, .slice Aal al.length cal] 143 (0, 0)))
       clear hrq hxx gf lf gal lal hq han
       go_wp2
       go_loopg [78] af.length (fun kq v78 w' => ∃ (r : Nat) (o4 : List ItemK), r + kq = af.length ∧ v78 = .int .i64 r ∧ Aside0 (o4.length = o2.length) ∧ Aside0 (arcsTo b nums (rd nums (q : Int)) af o3 = arcsTo b nums (rd nums (q : Int)) (af.drop r) o4) ∧ Aside0 (Below w0.heap.size w0 w') ∧ Aside0 (Kept w w' ok) ∧
        Aside0 (Kd.S k56 56 w' w0.heap.size (fun k => (ok k ∨ w.heap.size ≤ k) ∧ k ≠ wo.heap.size + 1) (.slice A3 o2.length c3) o4) ∧ Aside0 (Kd.Q (Kd.int .i64) 3 w' w0.heap.size (fun k => k = wo.heap.size + 1) (.slice (some ⟨wo.heap.size + 1, 0, none⟩) b.length cA) nums) ∧
        Aside0 (w'.heap[wo.heap.size]? = some (.cells #[.slice (some adn) b.length c2] 147 (0, 0))) ∧ Aside0 (Bnd (N + wAlts (l.take i) + aNodes b + sAf (b.take q) + r) o4))
       case atStart => exact ⟨0, o3, by omega, rfl, HO3, ⟨rfl⟩, HB3, HK3, HS3, HQ3, HG3, HN2⟩
       case round =>
        obtain ⟨w3, hw3⟩ : ∃ x, x = wr := ⟨_, rfl⟩
        subst hw3
        obtain ⟨r, o4, hr, rfl, HO4, HP4, HB4, HK4, HS4, HQ4, HG4, HN4⟩ := hrel
        cases gk with
        | zero =>
         obtain rfl : r = af.length := by omega
         have HE4 : Aside0 (arcsTo b nums (rd nums (q : Int)) af o3 = o4) := ⟨by rw [HP4.out, List.drop_eq_nil_of_le (Nat.le_refl _)]; rfl⟩
         go_wp2
         go_roundg k2
         case measure => omega
         case rel => exact ⟨q + 1, o4, by have := HQN.out; omega, by first | exact HNX2.out | go_num, HO4, ⟨by rw [HP3.out, HPD.out, HE4.out]⟩, HB4, HK4, HS4, HQ4, HG4, ⟨HN4.out.mono (by have := HST.out; omega)⟩⟩
        | succ k3 =>
         have hltr : r < af.length := by omega
         obtain ⟨gO, cO, oki, v7, cs7, ev, hc7, hf7, hR7, hoki, hokg, hglt, rfl, hH7⟩ := itm_get HS4.out (a := an) (by have h1 := HANL.out; have h2 := HO4.out; omega)
         rw [HO4.out] at ev hH7
         injection ev with e1 e2 e3
         subst e1
         subst e3
         clear e2
         obtain ⟨A7, c7, rfl⟩ := Kd.R_slice hR7
         obtain ⟨ads, es, z0⟩ := Kd.at_string HAFC.out (r : Int) (by omega) (by omega)
         subst es
         rw [Int.toNat_natCast] at z0
         replace z0 := (HB4.out.cell (World.block_lt_of_cell? w0 _ z0)).trans z0
         have hrs : rdOf ByteArray.empty af (r : Int) = af[r] := by unfold rdOf; rw [Int.toNat_natCast, List.getD_eq_getElem?_getD, List.getElem?_eq_getElem hltr]; rfl
         rw [hrs] at z0
         have HPE : Aside0 (arcsTo b nums (rd nums (q : Int)) (af.drop r) o4 = arcsTo b nums (rd nums (q : Int)) (af.drop (r + 1)) (addAfter o4 (rd nums (q : Int)) (rd nums (namedI b af[r])))) := ⟨by rw [List.drop_eq_getElem_cons hltr]; rfl⟩
         have HSI := Aside0.mk (HSN.out _ (List.getElem_mem hltr))
         obtain ⟨s, hss⟩ : ∃ s, af[r] = s := ⟨_, rfl⟩
         rw [hss] at z0 HPE HSI
         obtain ⟨kn, hkn⟩ : ∃ kn : Nat, namedI b s = (kn : Int) := ⟨(namedI b s).toNat, by have := HSI.out; omega⟩
         have HKN := Aside0.mk hkn
         have HKNL : Aside0 (kn < b.length) := ⟨by have h1 := HSI.out.2; rw [hkn] at h1; omega⟩
         have HNM4 := Aside0.mk (fun (W : World) (h : Kd.C k143 W (some adn) b.length b) => named_walk (some adn) c2 b s W h)
         rw [hkn] at HNM4
         have HR7 := Aside0.mk hR7
         have HOKI := Aside0.mk hoki
         have HOKG := Aside0.mk hokg
         have HBGO := Aside0.mk hglt
         have HH7 := Aside0.mk hH7
         have HC7 := Aside0.mk hc7
         have HF7 := Aside0.mk hf7
         have HRN := Aside0.mk hr
         have hr0 : (0 : Int) ≤ (r : Int) := by omega
         have hr1 : (r : Int) < (af.length : Int) := by omega
         have hk0 : (0 : Int) ≤ (kn : Int) := by omega
         have hk1 : (kn : Int) < (b.length : Int) := by have := HKNL.out; omega
         have ha0 : (0 : Int) ≤ (an : Int) := by omega
         have ha1 : (an : Int) < (o2.length : Int) := by have h1 := HANL.out; omega
         have c0 : w3.cell? ⟨wo.heap.size, 0, none⟩ = some (.slice (some adn) b.length c2) := (blk_cell HG4.out 0).trans rfl
         have HNX3 : Aside0 (Value.int .i64 (wrap64 ((r : Int) + 1)) = .int .i64 ((r + 1 : Nat) : Int)) := ⟨by rw [show wrap64 ((r : Int) + 1) = ((r + 1 : Nat) : Int) from by unfold wrap64; omega]⟩
         clear hrs hss hkn hR7 hoki hokg hH7 hc7 hf7 hglt hr
         go_wp2_with (go_at_call 90; (with_reducible refine (HNM4.out _ (Kd.C_below HCB.out HB4.out)).mono ?_); rintro e w4 ⟨rfl, hb4⟩; have HB5 := Aside0.mk hb4; clear hb4 c0 z0)
         have HB6 := Aside0.mk (HB4.out.trans (HB5.out.mono HB4.out.size))
         have HQ6 := Aside0.mk (Kd.Q_below HQ4.out HB5.out)
         have HCO5 : Aside0 (w4.drew.cell? ⟨gO, an * 8 + 7, none⟩ = some (.slice A7 (rd_T56 o4 (an : Int)).f7.length c7)) := ⟨(HB5.out.cell (World.block_lt_of_cell? _ _ HC7.out)).trans HC7.out⟩
         have HFO5 : Aside0 (w4.drew.frozen? ⟨gO, an * 8 + 7, none⟩ = false) := ⟨frozen_below HB5.out HC7.out HF7.out⟩
         have HCA5 : Aside0 (w4.drew.cell? ⟨wo.heap.size + 1, q, none⟩ = some (.int .i64 an)) := ⟨by have h := (Kd.Q_cell (0 : Int) (Q_drew_ HQ6.out) (q : Int) (by omega) (by omega)).1; rw [Int.toNat_natCast, Nat.zero_add] at h; rw [h, show rdOf (0 : Int) nums (q : Int) = (an : Int) from HAN.out]⟩
         have HCK5 : Aside0 (w4.drew.cell? ⟨wo.heap.size + 1, kn, none⟩ = some (.int .i64 (rd nums (kn : Int)))) := ⟨by have h := (Kd.Q_cell (0 : Int) (Q_drew_ HQ6.out) (kn : Int) (by omega) (by omega)).1; rw [Int.toNat_natCast, Nat.zero_add] at h; rw [h]; rfl⟩
         have HL7 : Aside0 (((rd_T56 o4 (an : Int)).f7.length + 1) * 8 ≤ 140737488355328) := ⟨by have h1 := HN4.out.2 (rd_T56 o4 (an : Int)) (by unfold rd_T56; rw [Int.toNat_natCast, List.getD_eq_getElem?_getD, List.getElem?_eq_getElem (by have h1 := HANL.out; have h2 := HO4.out; omega)]; exact List.getElem_mem _); have h2 := HLIM.out; have h3 := HST.out; have h4 := HRN.out; omega⟩
         --MARK19
         refine start_ (n := 22) (S := fun w' => w'.cell? ⟨wo.heap.size + 1, q, none⟩ = some (.int .i64 an) ∧ w'.cell? ⟨wo.heap.size + 1, kn, none⟩ = some (.int .i64 (rd nums (kn : Int))) ∧ w'.cell? ⟨gO, an * 8 + 7, none⟩ = some (.slice A7 (rd_T56 o4 (an : Int)).f7.length c7)) (ds := [21]) #[false, false, false, false, false, false, false, false, false, false, false, false, false, false, false, false, false, false, false, false, false, false] (by kernel_rfl) rfl rfl ⟨HCA5.out, HCK5.out, HCO5.out⟩ (fun hHeld => ?_)
         refine pure_ (i := 0) (N := some 85) (v := ?_) (a' := ?_) #[true, false, false, false, false, false, false, false, false, false, false, false, false, false, false, false, false, false, false, false, false, false] rfl rfl (by kernel_rfl) (fun _ _ _ h => h) (Or.inl ⟨by rfl, ?_⟩) ?_ ?_
         rotate_left
         ·intro w'
          go_simp
          with_reducible rfl
         rotate_left
         ·simp only [Act.put, List.setIfInBounds_toArray, List.set_cons_zero, List.set_cons_succ, i64_w, i32_w]
          rfl
         refine pure_ (i := 1) (N := some 86) (v := ?_) (a' := ?_) #[true, true, false, false, false, false, false, false, false, false, false, false, false, false, false, false, false, false, false, false, false, false] rfl rfl (by kernel_rfl) (fun _ _ _ h => h) (Or.inl ⟨by rfl, ?_⟩) ?_ ?_
         rotate_left
         ·intro w'
          go_simp
          with_reducible rfl
         rotate_left
         ·simp only [Act.put, List.setIfInBounds_toArray, List.set_cons_zero, List.set_cons_succ, i64_w, i32_w]
          rfl
         refine pure_ (i := 2) (N := some 87) (v := ?_) (a' := ?_) #[true, true, true, false, false, false, false, false, false, false, false, false, false, false, false, false, false, false, false, false, false, false] rfl rfl (by kernel_rfl) (fun _ _ _ h => h) (Or.inl ⟨by rfl, ?_⟩) ?_ ?_
         rotate_left
         ·intro w'
          go_simp
          with_reducible rfl
         rotate_left
         ·simp only [Act.put, List.setIfInBounds_toArray, List.set_cons_zero, List.set_cons_succ, i64_w, i32_w]
          rfl
         refine pure_ (i := 3) (N := some 88) (v := ?_) (a' := ?_) #[true, true, true, true, false, false, false, false, false, false, false, false, false, false, false, false, false, false, false, false, false, false] rfl rfl (by kernel_rfl) (fun _ _ _ h => h) (Or.inl ⟨by rfl, ?_⟩) ?_ ?_
         rotate_left
         ·intro w'
          go_simp
          with_reducible rfl
         rotate_left
         ·simp only [Act.put, List.setIfInBounds_toArray, List.set_cons_zero, List.set_cons_succ, i64_w, i32_w]
          rfl
         refine pure_ (i := 5) (N := some 90) (v := ?_) (a' := ?_) #[true, true, true, true, false, true, false, false, false, false, false, false, false, false, false, false, false, false, false, false, false, false] rfl rfl (by kernel_rfl) (fun _ _ _ h => h) (Or.inl ⟨by rfl, ?_⟩) ?_ ?_
         rotate_left
         ·intro w'
          go_simp
          with_reducible rfl
         rotate_left
         ·simp only [Act.put, List.setIfInBounds_toArray, List.set_cons_zero, List.set_cons_succ, i64_w, i32_w]
          rfl
         refine pure_ (i := 6) (N := some 91) (v := ?_) (a' := ?_) #[true, true, true, true, false, true, true, false, false, false, false, false, false, false, false, false, false, false, false, false, false, false] rfl rfl (by kernel_rfl) (fun _ _ _ h => h) (Or.inl ⟨by rfl, ?_⟩) ?_ ?_
         rotate_left
         ·intro w'
          go_simp
          with_reducible rfl
         rotate_left
         ·simp only [Act.put, List.setIfInBounds_toArray, List.set_cons_zero, List.set_cons_succ, i64_w, i32_w]
          rfl
         refine pure_ (i := 7) (N := some 92) (v := ?_) (a' := ?_) #[true, true, true, true, false, true, true, true, false, false, false, false, false, false, false, false, false, false, false, false, false, false] rfl rfl (by kernel_rfl) (fun _ _ _ h => h) (Or.inl ⟨by rfl, ?_⟩) ?_ ?_
         rotate_left
         ·intro w'
          go_simp
          with_reducible rfl
         rotate_left
         ·simp only [Act.put, List.setIfInBounds_toArray, List.set_cons_zero, List.set_cons_succ, i64_w, i32_w]
          rfl
         refine pure_ (i := 8) (N := some 93) (v := ?_) (a' := ?_) #[true, true, true, true, false, true, true, true, true, false, false, false, false, false, false, false, false, false, false, false, false, false] rfl rfl (by kernel_rfl) (fun _ _ _ h => h) (Or.inl ⟨by rfl, ?_⟩) ?_ ?_
         rotate_left
         ·intro w'
          go_simp
          with_reducible rfl
         rotate_left
         ·simp only [Act.put, List.setIfInBounds_toArray, List.set_cons_zero, List.set_cons_succ, i64_w, i32_w]
          rfl
         refine pure_ (i := 13) (N := some 98) (v := ?_) (a' := ?_) #[true, true, true, true, false, true, true, true, true, false, false, false, false, true, false, false, false, false, false, false, false, false] rfl rfl (by kernel_rfl) (fun _ _ _ h => h) (Or.inl ⟨by rfl, ?_⟩) ?_ ?_
         rotate_left
         ·intro w'
          go_simp
          with_reducible rfl
         rotate_left
         ·simp only [Act.put, List.setIfInBounds_toArray, List.set_cons_zero, List.set_cons_succ, i64_w, i32_w]
          rfl
         refine pure_ (i := 14) (N := some 99) (v := ?_) (a' := ?_) #[true, true, true, true, false, true, true, true, true, false, false, false, false, true, true, false, false, false, false, false, false, false] rfl rfl (by kernel_rfl) (fun _ _ _ h => h) (Or.inl ⟨by rfl, ?_⟩) ?_ ?_
         rotate_left
         ·intro w'
          go_simp
          with_reducible rfl
         rotate_left
         ·simp only [Act.put, List.setIfInBounds_toArray, List.set_cons_zero, List.set_cons_succ, i64_w, i32_w]
          rfl
         refine pure_ (i := 15) (N := some 100) (v := ?_) (a' := ?_) #[true, true, true, true, false, true, true, true, true, false, false, false, false, true, true, true, false, false, false, false, false, false] rfl rfl (by kernel_rfl) (fun _ _ _ h => h) (Or.inl ⟨by rfl, ?_⟩) ?_ ?_
         rotate_left
         ·intro w'
          go_simp
          with_reducible rfl
         rotate_left
         ·simp only [Act.put, List.setIfInBounds_toArray, List.set_cons_zero, List.set_cons_succ, i64_w, i32_w]
          rfl
         refine take_ (i := 4) (N := some 89) (v := ?_) (a' := ?_) #[true, true, true, true, true, true, true, true, true, false, false, false, false, true, true, true, false, false, false, false, false, false] rfl rfl (by kernel_rfl) (fun _ _ _ h => h) (Or.inl ⟨by rfl, ?_⟩) hHeld ?_ ?_
         rotate_left
         ·rintro w' ⟨s0, s1, s2⟩
          go_simp
          with_reducible rfl
         rotate_left
         ·simp only [Act.put, List.setIfInBounds_toArray, List.set_cons_zero, List.set_cons_succ, i64_w, i32_w]
          rfl
         refine take_ (i := 9) (N := some 94) (v := ?_) (a' := ?_) #[true, true, true, true, true, true, true, true, true, true, false, false, false, true, true, true, false, false, false, false, false, false] rfl rfl (by kernel_rfl) (fun _ _ _ h => h) (Or.inl ⟨by rfl, ?_⟩) hHeld ?_ ?_
         rotate_left
         ·rintro w' ⟨s0, s1, s2⟩
          go_simp
          with_reducible rfl
         rotate_left
         ·simp only [Act.put, List.setIfInBounds_toArray, List.set_cons_zero, List.set_cons_succ, i64_w, i32_w]
          rfl
         refine pure_ (i := 10) (N := some 95) (v := ?_) (a' := ?_) #[true, true, true, true, true, true, true, true, true, true, true, false, false, true, true, true, false, false, false, false, false, false] rfl rfl (by kernel_rfl) (fun _ _ _ h => h) (Or.inl ⟨by rfl, ?_⟩) ?_ ?_
         rotate_left
         ·intro w'
          go_simp
          with_reducible rfl
         rotate_left
         ·simp only [Act.put, List.setIfInBounds_toArray, List.set_cons_zero, List.set_cons_succ, i64_w, i32_w]
          rfl
         refine pure_ (i := 11) (N := some 96) (v := ?_) (a' := ?_) #[true, true, true, true, true, true, true, true, true, true, true, true, false, true, true, true, false, false, false, false, false, false] rfl rfl (by kernel_rfl) (fun _ _ _ h => h) (Or.inl ⟨by rfl, ?_⟩) ?_ ?_
         rotate_left
         ·intro w'
          go_simp
          with_reducible rfl
         rotate_left
         ·simp only [Act.put, List.setIfInBounds_toArray, List.set_cons_zero, List.set_cons_succ, i64_w, i32_w]
          rfl
         refine take_ (i := 12) (N := some 97) (v := ?_) (a' := ?_) #[true, true, true, true, true, true, true, true, true, true, true, true, true, true, true, true, false, false, false, false, false, false] rfl rfl (by kernel_rfl) (fun _ _ _ h => h) (Or.inl ⟨by rfl, ?_⟩) hHeld ?_ ?_
         rotate_left
         ·rintro w' ⟨s0, s1, s2⟩
          go_simp
          with_reducible rfl
         rotate_left
         ·simp only [Act.put, List.setIfInBounds_toArray, List.set_cons_zero, List.set_cons_succ, i64_w, i32_w]
          rfl
         refine take_ (i := 16) (N := some 101) (v := ?_) (a' := ?_) #[true, true, true, true, true, true, true, true, true, true, true, true, true, true, true, true, true, false, false, false, false, false] rfl rfl (by kernel_rfl) (fun _ _ _ h => h) (Or.inl ⟨by rfl, ?_⟩) hHeld ?_ ?_
         rotate_left
         ·rintro w' ⟨s0, s1, s2⟩
          go_simp
          with_reducible rfl
         rotate_left
         ·simp only [Act.put, List.setIfInBounds_toArray, List.set_cons_zero, List.set_cons_succ, i64_w, i32_w]
          rfl
         refine one_ (i := 17) (N := some 102) #[true, true, true, true, true, true, true, true, true, true, true, true, true, true, true, true, true, true, false, false, false, false] rfl rfl (by kernel_rfl) (by decide) (fun K hK => ?_)
         refine value_ (w1 := ?_) (v := ?_) (by rfl) rfl ?_ ?_
         rotate_left 2
         ·go_simp
          constructor
          ·rfl
          ·rfl
         refine hK.out _ _ ⟨(cell_al hHeld.1), (cell_al hHeld.2.1), (cell_al hHeld.2.2)⟩ (fun hHeld => ?_)
         clear hK K
         refine norm_ (a' := ?_) ?_ ?_
         rotate_left
         ·show Act.put _ (some 102) _ = _
          simp only [Act.put, List.setIfInBounds_toArray, List.set_cons_zero, List.set_cons_succ, i64_w, i32_w]
          rfl
         refine one_ (i := 18) (N := some 103) #[true, true, true, true, true, true, true, true, true, true, true, true, true, true, true, true, true, true, true, false, false, false] rfl rfl (by kernel_rfl) (by decide) (fun K hK => ?_)
         refine Kd.R_append_step (Kd.int .i64) (w0 := w4.drew) w0.heap.size (by rfl) (.tmp 97) (.tmp 102) 48 3 (.int .i64 0) 8 rfl Tryz.underlying48 info3_ rfl (by decide) (by omega) (.slice A7 (rd_T56 o4 (an : Int)).f7.length c7) (rd_T56 o4 (an : Int)).f7 (rd nums (kn : Int)) [.int .i64 (rd nums (kn : Int))] (fun k => oki k ∨ w4.drew.heap.size ≤ k) (fun _ => False) rfl rfl rfl (fun _ hk => hk.elim) (fun k hk => .inr hk) (Kd.R_drew (Kd.R_mono (Kd.R_below HR7.out HB5.out) (fun _ hk => .inl hk))) (Below.refl _ _) HB6.out.size HL7.out ?_
         intro v1 w9 hR9 hb9 hg9 hat9
         obtain ⟨A9, c9, e9⟩ := Kd.R_slice hR9
         rw [List.length_append] at e9
         have e8 : v1 = .slice A9 ((rd_T56 o4 (an : Int)).f7.length + 1) c9 := e9
         subst e8
         clear e9
         have HB9 := Aside0.mk hb9
         have HR9 := Aside0.mk hR9
         have HG9 := Aside0.mk hg9
         have HNA : Aside0 (some (wo.heap.size + 1) ≠ (Value.slice A7 (rd_T56 o4 (an : Int)).f7.length c7).ownBlock) := ⟨fun e => (HOKI.out _ (HR7.out.1 _ e.symm)).1.2 rfl⟩
         have HNO : Aside0 (some gO ≠ (Value.slice A7 (rd_T56 o4 (an : Int)).f7.length c7).ownBlock) := ⟨fun e => (HOKI.out _ (HR7.out.1 _ e.symm)).2 rfl⟩
         have q9 := cell_grown hg9 HCO5.out HNO.out
         have f9 := frozen_grown hg9 HCO5.out HFO5.out HNO.out
         clear hb9 hg9 hat9 hR9
         refine hK.out _ _ ⟨(cell_grown HG9.out HCA5.out HNA.out), (cell_grown HG9.out HCK5.out HNA.out), q9⟩ (fun hHeld => ?_)
         clear hK K
         refine norm_ (a' := ?_) ?_ ?_
         rotate_left
         ·show Act.put _ (some 103) _ = _
          simp only [Act.put, List.setIfInBounds_toArray, List.set_cons_zero, List.set_cons_succ, i64_w, i32_w]
          rfl
         refine pure_ (i := 19) (N := some 104) (v := ?_) (a' := ?_) #[true, true, true, true, true, true, true, true, true, true, true, true, true, true, true, true, true, true, true, true, false, false] rfl rfl (by kernel_rfl) (fun _ _ _ h => h) (Or.inl ⟨by rfl, ?_⟩) ?_ ?_
         rotate_left
         ·intro w'
          go_simp
          with_reducible rfl
         rotate_left
         ·simp only [Act.put, List.setIfInBounds_toArray, List.set_cons_zero, List.set_cons_succ, i64_w, i32_w]
          rfl
         refine pure_ (i := 20) (N := some 105) (v := ?_) (a' := ?_) #[true, true, true, true, true, true, true, true, true, true, true, true, true, true, true, true, true, true, true, true, true, false] rfl rfl (by kernel_rfl) (fun _ _ _ h => h) (Or.inl ⟨by rfl, ?_⟩) ?_ ?_
         rotate_left
         ·intro w'
          go_simp
          with_reducible rfl
         rotate_left
         ·simp only [Act.put, List.setIfInBounds_toArray, List.set_cons_zero, List.set_cons_succ, i64_w, i32_w]
          rfl
         refine last_ (i := 21) (N := none) #[true, true, true, true, true, true, true, true, true, true, true, true, true, true, true, true, true, true, true, true, true, true] rfl rfl (by kernel_rfl) (by decide) (fun K hK => ?_)
         refine skip_ (w1 := ?_) (by rfl) rfl ?_ ?_
         rotate_left
         ·go_simp
          rfl
         refine hK.out _ _ ?_
         clear hK K
         refine done_ (by kernel_rfl) ?_
         --END19
         go_wp2
         go_roundg k3
         case measure => omega
         case rel =>
          have hga : wo.heap.size + 1 < w4.heap.size := World.block_lt_of_cell? _ _ HCA5.out
          have hgb : some wo.heap.size ≠ (Value.slice (some ⟨gO, 0, none⟩) o2.length c3).ownBlock := Kd.S_ne HS4.out HG4.out (by decide)
          have hgb2 : wo.heap.size ≠ gO := fun e => hgb (by rw [e]; rfl)
          refine ⟨r + 1, addAfter o4 (an : Int) (rd nums (kn : Int)), by have := HRN.out; omega, by first | exact HNX3.out | go_num, ⟨by rw [addAfter_length]; exact HO4.out⟩, ⟨by rw [HP4.out, HPE.out, HAN.out, HKN.out]⟩, ⟨?_⟩, ⟨?_⟩, ⟨?_⟩, ⟨?_⟩, ⟨?_⟩, ⟨HN4.out.add (by rw [Int.toNat_natCast]; have h1 := HANL.out; have h2 := HO4.out; omega)⟩⟩
          ·exact (HB6.out.drew.trans HB9.out).setCell (p := ⟨gO, an * 8 + 7, none⟩) HBGO.out _
          ·exact (Kept.of_grown HG9.out (HK4.out.below HB5.out).drew (fun k hk => (HOKI.out k (HR7.out.1 k hk)).1.1)).setCell (p := ⟨gO, an * 8 + 7, none⟩) HOKG.out.1 _
          ·have hS := (itm_back (a := an) HANL.out (Kd.H_drew (Kd.H_below HH7.out HB5.out)) HG9.out HR7.out.1 (fun k hk => ⟨.inr (Nat.le_trans (HK4.out.below HB5.out).1 hk), by have h1 : w4.heap.size ≤ k := hk; omega⟩) HR9.out).1
           unfold addAfter
           rw [Int.toNat_natCast]
           exact hS
          ·exact Kd.Q_far (p := ⟨gO, an * 8 + 7, none⟩) (Kd.Q_step (Q_drew_ HQ6.out) (fun k hk hlt => HG9.out.block k hlt (fun e => HNA.out (by rw [← e, hk])))) (fun k hk => by show k ≠ gO; rw [hk]; intro e; exact HOKG.out.2 e.symm) _
          ·exact (Below.heap_setCell _ _ _ _ hgb2).trans (blk_grown (blk_drew (blk_below HG4.out HB5.out)) HG9.out (Kd.R_ne HR7.out HG4.out (by decide)))
    | succ k2 =>
     have hltq : q < b.length := by omega
     obtain ⟨adn, Af, cf, Aal, cal, en, y0, y1, y2, y3, y4, y5, lf, gf, lal, gal⟩ := at_T143 HCB.out (q : Int) (by omega) (by omega)
     subst en
     rw [Int.toNat_natCast] at y0 y1 y2 y3 y4 y5
     replace y0 := (HB1.out.cell (World.block_lt_of_cell? w0 _ y0)).trans y0
     replace y1 := (HB1.out.cell (World.block_lt_of_cell? w0 _ y1)).trans y1
     replace y2 := (HB1.out.cell (World.block_lt_of_cell? w0 _ y2)).trans y2
     replace y3 := (HB1.out.cell (World.block_lt_of_cell? w0 _ y3)).trans y3
     replace y4 := (HB1.out.cell (World.block_lt_of_cell? w0 _ y4)).trans y4
     replace y5 := (HB1.out.cell (World.block_lt_of_cell? w0 _ y5)).trans y5
     have hrq : rd_T143 b (q : Int) = b[q] := by unfold rd_T143; rw [Int.toNat_natCast, List.getD_eq_getElem?_getD, List.getElem?_eq_getElem hltq]; rfl
     rw [hrq] at y0 y1 y2 y3 y4 y5 lf gf lal gal
     have hbm := List.getElem_mem hltq
     have HXI := Aside0.mk (HIHB.out _ hbm)
     have HXC := Aside0.mk (HCH.out _ hbm)
     have HFN : Aside0 (flNodes inn i o2 nums (b.drop q) = flNodes inn i (flAlts (o2.length : Int) 0 (o2 ++ [⟨b[q].f0, b[q].f1, b[q].f3, b[q].f4, (b[q].f5.length : Int), inn, i, []⟩]) b[q].f5) (nums ++ [(o2.length : Int)]) (b.drop (q + 1))) := ⟨by rw [flNodes_drop inn i o2 nums b q hltq, flNode_eq]⟩
     have HAT : Aside0 (aNodes (b.take (q + 1)) = aNodes (b.take q) + (1 + wAlts b[q].f5)) := ⟨aNodes_take b q hltq⟩
     have HLIM : Aside0 (N + wAlts (l.take i) + aNodes (b.take (q + 1)) ≤ 1000000) := ⟨by have h1 := aNodes_le b (q + 1); have h2 := wNodes_eq b; have h3 := HWT.out; have h4 := HWL.out; omega⟩
     obtain ⟨⟨nm, un, af, sb, vi, al⟩, hxx⟩ : ∃ x, b[q] = x := ⟨_, rfl⟩
     simp only [hxx] at y0 y1 y2 y3 y4 y5 lf gf lal gal HXI HXC HFN HAT
     have HALC := Aside0.mk gal
     have HALL5 := Aside0.mk lal
     have hq0 : (0 : Int) ≤ (q : Int) := by omega
     have hq1 : (q : Int) < (b.length : Int) := by omega
     have HQN := Aside0.mk hq
     have hQc := Kd.Q_cell (0 : Int) HQ1.out (q : Int) (by omega) (by omega)
     rw [Int.toNat_natCast, Nat.zero_add] at hQc
     have hc1 := cell_al (o := (.cells #[.string nm, .string un, .slice Af af.length cf, .bool sb, .bool vi, .slice Aal al.length cal] 143 (0, 0))) hQc.1
     have hf1 := frozen_al (o := (.cells #[.string nm, .string un, .slice Af af.length cf, .bool sb, .bool vi, .slice Aal al.length cal] 143 (0, 0))) hQc.1 hQc.2
     have hlA : wo.heap.size + 1 < w1.heap.size := World.block_lt_of_cell? _ _ hQc.1
     have HLA := Aside0.mk hlA
     clear hrq hbm hxx gf lf gal lal hq hQc
     have HNX2 : Aside0 (Value.int .i64 (wrap64 ((q : Int) + 1)) = .int .i64 ((q + 1 : Nat) : Int)) := ⟨by rw [show wrap64 ((q : Int) + 1) = ((q + 1 : Nat) : Int) from by unfold wrap64; omega]⟩
     have HLO : Aside0 ((o2.length + 1) * 88 ≤ 140737488355328) := ⟨by have h1 := HN1.out.1; have h2 := HLIM.out; have h3 := HAT.out; omega⟩
     go_wp2_with (first
      | ((with_reducible refine gate_store (t := 3) (p := 40) rfl ?_); refine stop_ ?_))
     unfold Stop_
     refine store_event (t := 3) (p := 40) (v := ?vo) (w1 := ((w1.alloc (.cells #[.string nm, .string un, .slice Af af.length cf, .bool sb, .bool vi, .slice Aal al.length cal] 143)).setCell ⟨wo.heap.size + 1, q, none⟩ (.int .i64 o2.length))) ?hg ?ho ?hn ?hr ?_; (case ho => rfl); (case hg => rfl); (case hn => rfl); (case hr => first | (go_simp; done) | (go_simp; rfl)); intro w2 hw
     have HB2 : Aside0 (Below w0.heap.size w0 w2) := ⟨by rw [hw]; exact (HB1.out.alloc HB1.out.size _).setCell (p := ⟨wo.heap.size + 1, q, none⟩) (by have := HB.out.size; show w0.heap.size ≤ wo.heap.size + 1; omega) _⟩
     have HK2 : Aside0 (Kept w w2 ok) := ⟨by rw [hw]; exact (HK1.out.alloc _).setCell (p := ⟨wo.heap.size + 1, q, none⟩) (.inr (by have := HSZ.out; show w.heap.size ≤ wo.heap.size + 1; omega)) _⟩
     have HS2 : Aside0 (Kd.S k56 56 w2 w0.heap.size (fun k => (ok k ∨ w.heap.size ≤ k) ∧ k ≠ wo.heap.size + 1) (.slice A3 o2.length c3) o2) := ⟨by rw [hw]; exact Kd.S_far (p := ⟨wo.heap.size + 1, q, none⟩) (Kd.S_alloc HS1.out _) (fun _ hk => hk.2) _⟩
     have HQ2 : Aside0 (Kd.Q (Kd.int .i64) 3 w2 w0.heap.size (fun k => k = wo.heap.size + 1) (.slice (some ⟨wo.heap.size + 1, 0, none⟩) b.length cA) ((nums ++ [(o2.length : Int)]) ++ List.replicate (b.length - (q + 1)) 0)) := ⟨by rw [hw, ← ats_set nums o2.length b.length q HNL.out (by have := HQN.out; omega)]; have hp := (Kd.Q_putg (Kd.Q_below HQ1.out ((Below.refl _ _).alloc (Nat.le_refl _) (.cells #[.string nm, .string un, .slice Af af.length cf, .bool sb, .bool vi, .slice Aal al.length cal] 143 (0, 0)))) (q : Int) (by omega) (by have := HQN.out; omega) (o2.length : Int)).1; rw [Int.toNat_natCast, Nat.zero_add] at hp; exact hp⟩
     have HG2 : Aside0 (w2.heap[wo.heap.size]? = some (.cells #[.slice (some adn) b.length c2] 147 (0, 0))) := ⟨by rw [hw]; exact (Below.heap_setCell _ _ _ _ (by show wo.heap.size ≠ wo.heap.size + 1; omega)).trans (blk_alloc HG1.out _)⟩
     have HN2 : Aside0 (w2.heap[w1.heap.size]? = some (.cells #[.string nm, .string un, .slice Af af.length cf, .bool sb, .bool vi, .slice Aal al.length cal] 143 (0, 0))) := ⟨by rw [hw]; exact (Below.heap_setCell _ _ _ _ (by have := HLA.out; show w1.heap.size ≠ wo.heap.size + 1; omega)).trans (blk_new w1 _)⟩
     have HSZ2 : Aside0 (wo.heap.size + 1 < w2.heap.size) := ⟨by rw [hw]; have := HLA.out; simp [World.setCell]; omega⟩
     have n0 := (blk_cell HN2.out 0).trans rfl
     have n1 := (blk_cell HN2.out 1).trans rfl
     have n3 := (blk_cell HN2.out 3).trans rfl
     have n4 := (blk_cell HN2.out 4).trans rfl
     have n5 := (blk_cell HN2.out 5).trans rfl
     clear hw hc1 hf1
     go_wp2_with ((with_reducible refine gate_builtin (b := .append) (xs := #[.tmp 41, .tmp 56]) rfl ?_); at_builtin; refine stop_ ?_)
     unfold Stop_
     refine Kd.S_append k56 (w0 := w2) w0.heap.size rfl (.tmp 41) (.tmp 56) 22 56 (.agg #[.string ⟨#[]⟩, .string ⟨#[]⟩, .bool false, .bool false, .int .i64 0, .int .i64 0, .int .i64 0, .slice none 0 0]) 88 rfl Tryz.underlying22 info40_ rfl (by decide) (by omega) (.slice A3 o2.length c3) o2 ⟨nm, un, sb, vi, (al.length : Int), inn, i, []⟩ [.string nm, .string un, .bool sb, .bool vi, .int .i64 al.length, .int .i64 inn, .int .i64 i, .slice none 0 0] (fun k => (ok k ∨ w.heap.size ≤ k) ∧ k ≠ wo.heap.size + 1) (fun _ => False) rfl rfl (k56_mkM _ _ _ _ (Kd.R_nil _ _ _ _ _)) (fun _ hk => hk.elim) (fun k hk => ⟨.inr (Nat.le_trans HK2.out.1 hk), by have := HSZ2.out; omega⟩) (Kd.S_mono HS2.out (fun _ hk => ⟨hk, fun h => h⟩)) (Below.refl _ _) HB2.out.size HLO.out ?_
     intro v3 w3 hS3 hb3 hg3 hat3
     have HS3 := Aside0.mk hS3
     have HB3 := Aside0.mk (HB2.out.trans hb3)
     have HK3 := Aside0.mk (Kept.of_grown hg3 HK2.out (fun k hk => ((Kd.S_R HS2.out).1 k hk).1))
     have HG3 := Aside0.mk (blk_grown HG2.out hg3 (Kd.S_ne HS2.out HG2.out (by decide)))
     have HN3 := Aside0.mk (blk_grown HN2.out hg3 (Kd.S_ne HS2.out HN2.out (by decide)))
     have HQ3 := Aside0.mk (Kd.Q_step HQ2.out (fun k hk hlt => hg3.block k hlt (fun e => ((Kd.S_R HS2.out).1 k e.symm).2 hk)))
     have HSZ3 : Aside0 (w.heap.size ≤ w3.heap.size) := ⟨HK3.out.1⟩
     have HLA3 : Aside0 (wo.heap.size + 1 < w3.heap.size) := ⟨Nat.lt_of_lt_of_le HSZ2.out hb3.size⟩
     clear hS3 hb3 hg3 hat3 n0 n1 n3 n4 n5
     go_wp2
     obtain ⟨A4, c4, e4⟩ := Kd.S_slice HS3.out
     rw [List.length_append] at e4
     have e5 : v3 = .slice A4 (o2.length + 1) c4 := e4
     subst e5
     clear e4
     --MARK10
     refine start_ (n := 9) (S := fun w' => w'.cell? ⟨wo.heap.size + 1, q, none⟩ = some (.int .i64 o2.length) ∧ w'.cell? ⟨w1.heap.size, 5, none⟩ = some (.slice Aal al.length cal)) (ds := [7]) #[false, false, false, false, false, false, false, false, false] (by kernel_rfl) rfl rfl ⟨(at_cell HQ3.out HNL.out (by have := HQN.out; omega)), ((blk_cell (blk_drew HN3.out) 5).trans rfl)⟩ (fun hHeld => ?_)
     refine pure_ (i := 0) (N := some 58) (v := ?_) (a' := ?_) #[true, false, false, false, false, false, false, false, false] rfl rfl (by kernel_rfl) (fun _ _ _ h => h) (Or.inl ⟨by rfl, ?_⟩) ?_ ?_
     rotate_left
     ·intro w'
      go_simp
      with_reducible rfl
     rotate_left
     ·simp only [Act.put, List.setIfInBounds_toArray, List.set_cons_zero, List.set_cons_succ, i64_w, i32_w]
      rfl
     refine pure_ (i := 1) (N := some 59) (v := ?_) (a' := ?_) #[true, true, false, false, false, false, false, false, false] rfl rfl (by kernel_rfl) (fun _ _ _ h => h) (Or.inl ⟨by rfl, ?_⟩) ?_ ?_
     rotate_left
     ·intro w'
      go_simp
      with_reducible rfl
     rotate_left
     ·simp only [Act.put, List.setIfInBounds_toArray, List.set_cons_zero, List.set_cons_succ, i64_w, i32_w]
      rfl
     refine pure_ (i := 2) (N := some 60) (v := ?_) (a' := ?_) #[true, true, true, false, false, false, false, false, false] rfl rfl (by kernel_rfl) (fun _ _ _ h => h) (Or.inl ⟨by rfl, ?_⟩) ?_ ?_
     rotate_left
     ·intro w'
      go_simp
      with_reducible rfl
     rotate_left
     ·simp only [Act.put, List.setIfInBounds_toArray, List.set_cons_zero, List.set_cons_succ, i64_w, i32_w]
      rfl
     refine pure_ (i := 3) (N := some 61) (v := ?_) (a' := ?_) #[true, true, true, true, false, false, false, false, false] rfl rfl (by kernel_rfl) (fun _ _ _ h => h) (Or.inl ⟨by rfl, ?_⟩) ?_ ?_
     rotate_left
     ·intro w'
      go_simp
      with_reducible rfl
     rotate_left
     ·simp only [Act.put, List.setIfInBounds_toArray, List.set_cons_zero, List.set_cons_succ, i64_w, i32_w]
      rfl
     refine pure_ (i := 5) (N := some 63) (v := ?_) (a' := ?_) #[true, true, true, true, false, true, false, false, false] rfl rfl (by kernel_rfl) (fun _ _ _ h => h) (Or.inl ⟨by rfl, ?_⟩) ?_ ?_
     rotate_left
     ·intro w'
      go_simp
      with_reducible rfl
     rotate_left
     ·simp only [Act.put, List.setIfInBounds_toArray, List.set_cons_zero, List.set_cons_succ, i64_w, i32_w]
      rfl
     refine take_ (i := 4) (N := some 62) (v := ?_) (a' := ?_) #[true, true, true, true, true, true, false, false, false] rfl rfl (by kernel_rfl) (fun _ _ _ h => h) (Or.inl ⟨by rfl, ?_⟩) hHeld ?_ ?_
     rotate_left
     ·rintro w' ⟨s0, s1⟩
      go_simp
      with_reducible rfl
     rotate_left
     ·simp only [Act.put, List.setIfInBounds_toArray, List.set_cons_zero, List.set_cons_succ, i64_w, i32_w]
      rfl
     refine take_ (i := 6) (N := some 64) (v := ?_) (a' := ?_) #[true, true, true, true, true, true, true, false, false] rfl rfl (by kernel_rfl) (fun _ _ _ h => h) (Or.inl ⟨by rfl, ?_⟩) hHeld ?_ ?_
     rotate_left
     ·rintro w' ⟨s0, s1⟩
      go_simp
      with_reducible rfl
     rotate_left
     ·simp only [Act.put, List.setIfInBounds_toArray, List.set_cons_zero, List.set_cons_succ, i64_w, i32_w]
      rfl
     refine last_ (i := 7) (N := some 65) #[true, true, true, true, true, true, true, true, false] rfl rfl (by kernel_rfl) (by decide) (fun K hK => ?_)
     refine goes_ Tryz.func49 (by kernel_rfl) rfl #[.slice A4 (o2.length + 1) c4, .int .i64 o2.length, .slice Aal al.length cal] (by rfl) rfl rfl (by first | rfl | (simp only [List.map_toArray, List.map_cons, List.map_nil]; rfl)) ?_
     refine (HXI.out (wrap64 (d + 1)) w0 w3.drew Aal cal (fun k => ((ok k ∨ w.heap.size ≤ k) ∧ k ≠ wo.heap.size + 1) ∧ k ≠ wo.heap.size) _ (o2 ++ [⟨nm, un, sb, vi, (al.length : Int), inn, (i : Int), []⟩]) (o2.length : Int) (N + wAlts (l.take i) + aNodes (b.take q) + 1) HALC.out HALL5.out HXC.out.1 HXC.out.2 HB3.out.drew (Kd.S_drew (Kd.S_types HS3.out HG3.out (by decide))) (HN1.out.snoc rfl) (by have h1 := HLIM.out; have h2 := HAT.out; omega)).mono ?_
     rintro e w4 ⟨hb4, hk4, hn4, v4, rfl, hS4⟩
     refine ⟨_, rfl, ?_⟩
     have HB4 := Aside0.mk hb4
     have HK4 := Aside0.mk (HK3.out.drew.then_ hk4 (fun _ hk => hk.1.1))
     have HG4 := Aside0.mk (blk_kept (blk_drew HG3.out) hk4 (fun h => h.2 rfl))
     have HQ4 := Aside0.mk (Kd.Q_kept (Q_drew_ HQ3.out) hk4 (fun k hk h => h.1.2 hk))
     have HS4 : Aside0 (Kd.S k56 56 w4 w0.heap.size (fun k => (ok k ∨ w.heap.size ≤ k) ∧ k ≠ wo.heap.size + 1) v4 _) := ⟨Kd.S_mono hS4 (fun k hk => hk.elim (fun h => h.1) (fun h => ⟨.inr (Nat.le_trans HSZ3.out h), fun e => by have h1 := blk_lt HG3.out; have h2 : w3.heap.size ≤ k := h; have h3 := HLA3.out; omega⟩))⟩
     have HN4 := Aside0.mk hn4
     clear hb4 hk4 hn4 hS4
     refine hK.out _ _ ?_
     clear hK K
     refine norm_ (a' := ?_) ?_ ?_
     rotate_left
     ·show Act.put _ (some 65) _ = _
      simp only [Act.put, List.setIfInBounds_toArray, List.set_cons_zero, List.set_cons_succ, i64_w, i32_w]
      rfl
     refine pure_ (i := 8) (N := some 0) (v := ?_) (a' := ?_) #[true, true, true, true, true, true, true, true, true] rfl rfl (by kernel_rfl) (fun _ _ _ h => h) (Or.inl ⟨by rfl, ?_⟩) ?_ ?_
     rotate_left
     ·intro w'
      go_simp
      with_reducible rfl
     rotate_left
     ·simp only [Act.put, List.setIfInBounds_toArray, List.set_cons_zero, List.set_cons_succ, i64_w, i32_w]
      rfl
     refine done_ (by kernel_rfl) ?_
     --END10
     go_wp2
     go_roundg k2
     case measure => omega
     case rel =>
      refine ⟨q + 1, _, nums ++ [(o2.length : Int)], by have := HQN.out; omega, by first | exact HNX2.out | go_num, ⟨by rw [List.length_append, HNL.out]; rfl⟩, ⟨fun m hm => ?_⟩, ⟨by rw [HI3.out, HFN.out]⟩, HB4, HK4, HS4, ⟨HQ4.out⟩, HG4, ⟨HN4.out.mono (by have := HAT.out; omega)⟩⟩
      have h1 := flAlts_len (o2.length : Int) 0 (o2 ++ [⟨nm, un, sb, vi, (al.length : Int), inn, (i : Int), []⟩]) al
      rw [List.length_append] at h1
      simp only [List.length_singleton] at h1
      rcases List.mem_append.1 hm with hm | hm
      ·have := HNM.out m hm; omega
      ·rw [List.mem_singleton.1 hm]; omega
theorem flat_all (n : Nat) : ∀ l : List S147, SizeOf.sizeOf l < n → FlatC l := by
 induction n with
 | zero => intro l h; exact absurd h (Nat.not_lt_zero _)
 | succ n ih =>
  intro l h
  refine flat_walk l (fun b hb x hx => ih _ ?_)
  have h1 := List.sizeOf_lt_of_mem hb
  have h2 : SizeOf.sizeOf x < SizeOf.sizeOf b := by
   have := List.sizeOf_lt_of_mem hx
   cases b
   simp only [SB147.mk.sizeOf_spec] at *
   omega
  have h3 : SizeOf.sizeOf x.f5 < SizeOf.sizeOf x := by
   cases x
   simp only [S143.mk.sizeOf_spec]
   omega
  omega
theorem flat_call (l : List S147) : FlatC l := flat_all (SizeOf.sizeOf l + 1) l (by omega)
end Go.Proofs.YtokekdhmhfoliaaGreat.F
end

section
namespace Go.Proofs.YtokekdhmhfoliaaGreat.F
open Go.RowKit Go.Proofs.YtokekdhmhfoliaaGreatW.PrintWords Go.Proofs.YtokekdhmhfoliaaGreatW.PrintLast Go.Proofs.YtokekdhmhfoliaaGreatW.PrintMore
attribute [local go_sem] max2_int min2_int max_two min_two max_three min_three max_four min_four
set_option linter.unusedVariables false
set_option linter.unusedSimpArgs false
mutual
def dNode (a : Int) : S143 → Int
 | ⟨_, _, _, sb, _, al⟩ => if sb then mx a (wrap64 (dAlts 0 al + 1)) else a
def dNodes (a : Int) : List S143 → Int
 | [] => a
 | x :: l => dNodes (dNode a x) l
def dBody (a : Int) : SB147 S143 → Int
 | ⟨l⟩ => dNodes a l
def dAlts (a : Int) : List (SB147 S143) → Int
 | [] => a
 | b :: l => dAlts (dBody a b) l
end
def depthI (l : List BodyK) : Int := wrap64 (dAlts 0 l + 1)
mutual
def cNode (a : Int) : S143 → Int
 | ⟨_, _, _, _, _, al⟩ => wrap64 (a + cAlts 0 al)
def cNodes (a : Int) : List S143 → Int
 | [] => a
 | x :: l => cNodes (cNode a x) l
def cBody (a : Int) : SB147 S143 → Int
 | ⟨l⟩ => cNodes (wrap64 (a + (l.length : Int))) l
def cAlts (a : Int) : List (SB147 S143) → Int
 | [] => a
 | b :: l => cAlts (cBody a b) l
end
def countI (l : List BodyK) : Int := cAlts 0 l
theorem dNode_eq (a : Int) (x : NodeK) : dNode a x = if x.f3 then mx a (depthI x.f5) else a := by cases x; simp [dNode, depthI]
theorem cNode_eq (a : Int) (x : NodeK) : cNode a x = wrap64 (a + countI x.f5) := by cases x; simp [cNode, countI]
theorem dBody_eq (a : Int) (b : BodyK) : dBody a b = dNodes a b.f0 := by cases b; simp [dBody]
theorem cBody_eq (a : Int) (b : BodyK) : cBody a b = cNodes (wrap64 (a + (b.f0.length : Int))) b.f0 := by cases b; simp [cBody]
mutual
def lenNode : S143 → Prop
 | ⟨_, _, _, _, _, al⟩ => al.length ≤ 9223372036854775807 ∧ lenAlts al
def lenNodes : List S143 → Prop
 | [] => True
 | x :: l => lenNode x ∧ lenNodes l
def lenBody : SB147 S143 → Prop
 | ⟨l⟩ => l.length ≤ 9223372036854775807 ∧ lenNodes l
def lenAlts : List (SB147 S143) → Prop
 | [] => True
 | b :: l => lenBody b ∧ lenAlts l
end
theorem lenNode_eq (x : NodeK) : lenNode x ↔ x.f5.length ≤ 9223372036854775807 ∧ lenAlts x.f5 := by cases x; simp [lenNode]
theorem lenBody_eq (b : BodyK) : lenBody b ↔ b.f0.length ≤ 9223372036854775807 ∧ lenNodes b.f0 := by cases b; simp [lenBody]
theorem lenNodes_iff : ∀ l : List NodeK, lenNodes l ↔ ∀ x ∈ l, lenNode x
 | [] => by simp [lenNodes]
 | x :: l => by simp [lenNodes, lenNodes_iff l]
theorem lenAlts_iff : ∀ l : List BodyK, lenAlts l ↔ ∀ b ∈ l, lenBody b
 | [] => by simp [lenAlts]
 | x :: l => by simp [lenAlts, lenAlts_iff l]
theorem size_child {l : List BodyK} {b : BodyK} {x : NodeK} (hb : b ∈ l) (hx : x ∈ b.f0) : SizeOf.sizeOf x.f5 < SizeOf.sizeOf l := by
 have h1 := List.sizeOf_lt_of_mem hb
 have h2 : SizeOf.sizeOf x < SizeOf.sizeOf b := by
  have := List.sizeOf_lt_of_mem hx
  cases b
  simp only [SB147.mk.sizeOf_spec] at *
  omega
 have h3 : SizeOf.sizeOf x.f5 < SizeOf.sizeOf x := by
  cases x
  simp only [S143.mk.sizeOf_spec]
  omega
 omega
theorem len_of_C (n : Nat) : ∀ (l : List BodyK) (w : World) (A : Option Addr), SizeOf.sizeOf l < n → k147.C w A l.length l → lenAlts l := by
 induction n with
 | zero => intro l w A h; exact absurd h (Nat.not_lt_zero _)
 | succ n ih =>
  intro l w A h hC
  rw [lenAlts_iff]
  intro b hb
  obtain ⟨i, hi, rfl⟩ := List.getElem_of_mem hb
  obtain ⟨ad, A2, c2, _, _, l2, g2⟩ := at_T147 hC (i : Int) (by omega) (by omega)
  have hrd : rd_T147 l (i : Int) = l[i] := by unfold rd_T147; rw [Int.toNat_natCast, List.getD_eq_getElem?_getD, List.getElem?_eq_getElem hi]; rfl
  rw [hrd] at g2
  rw [lenBody_eq]
  refine ⟨Kd.C_max g2, ?_⟩
  rw [lenNodes_iff]
  intro x hx
  have hsz := size_child hb hx
  obtain ⟨q, hq, rfl⟩ := List.getElem_of_mem hx
  obtain ⟨_, _, _, A5, c5, _, _, _, _, _, _, _, _, _, l5, g5⟩ := at_T143 g2 (q : Int) (by omega) (by omega)
  have hrq : rd_T143 l[i].f0 (q : Int) = l[i].f0[q] := by unfold rd_T143; rw [Int.toNat_natCast, List.getD_eq_getElem?_getD, List.getElem?_eq_getElem hq]; rfl
  rw [hrq] at g5
  rw [lenNode_eq]
  exact ⟨Kd.C_max g5, ih _ w A5 (by omega) g5⟩
theorem rd_body {l : List BodyK} {i : Nat} (hi : i < l.length) : rd_T147 l (i : Int) = l[i] := by unfold rd_T147; rw [Int.toNat_natCast, List.getD_eq_getElem?_getD, List.getElem?_eq_getElem hi]; rfl
theorem rd_node {l : List NodeK} {i : Nat} (hi : i < l.length) : rd_T143 l (i : Int) = l[i] := by unfold rd_T143; rw [Int.toNat_natCast, List.getD_eq_getElem?_getD, List.getElem?_eq_getElem hi]; rfl
theorem w64_next {i n : Nat} (h : i < n) (hn : n ≤ 9223372036854775807) : wrap64 ((i : Int) + 1) = ((i + 1 : Nat) : Int) := by unfold wrap64; omega
theorem count_l1 (l : List BodyK) (hl : l.length ≤ 9223372036854775807) (i : Nat) (hi : i < l.length) (b : List NodeK) (hb : b.length ≤ 9223372036854775807) (hev : ∀ x ∈ b, ∀ nm, Ev (fun k => syntax_Count.f k nm x.f5) (countI x.f5))
  (r : Int → Int) (h0 : ∀ a, Ev (fun k => syntax_Count.l0 k a l (l.length : Int) ((i + 1 : Nat) : Int)) (r a)) (d : Nat) : ∀ (q : Nat) (a : Int), q + d = b.length → Ev (fun k => syntax_Count.l1 k a l (l.length : Int) (i : Int) b (b.length : Int) (q : Int)) (r (cNodes a (b.drop q))) := by
 induction d with
 | zero =>
  intro q a hq
  rw [List.drop_eq_nil_of_le (by omega)]
  refine Ev.step (f := fun k => syntax_Count.l0 k a l (l.length : Int) ((i + 1 : Nat) : Int)) (fun k => ?_) (by simpa [cNodes] using h0 a)
  simp only [syntax_Count.l1]
  rw [if_neg (by omega), w64_next hi hl]
 | succ d ih =>
  intro q a hq
  have hlt : q < b.length := by omega
  rw [List.drop_eq_getElem_cons hlt, cNodes, cNode_eq]
  have hc := hev _ (List.getElem_mem hlt) (⟨#[]⟩ : ByteArray)
  refine Ev.step (f := fun k => (syntax_Count.f k (⟨#[]⟩ : ByteArray) b[q].f5).bind fun t => syntax_Count.l1 k (wrap64 (a + t)) l (l.length : Int) (i : Int) b (b.length : Int) ((q + 1 : Nat) : Int)) (fun k => ?_) (Ev.bind hc (ih (q + 1) _ (by omega)))
  simp only [syntax_Count.l1]
  rw [if_pos (by omega), if_pos (by omega), if_pos (by omega), rd_node hlt, w64_next hlt hb]
theorem count_l0 (l : List BodyK) (hl : l.length ≤ 9223372036854775807) (hb : ∀ b ∈ l, b.f0.length ≤ 9223372036854775807) (hev : ∀ b ∈ l, ∀ x ∈ b.f0, ∀ nm, Ev (fun k => syntax_Count.f k nm x.f5) (countI x.f5)) (d : Nat) :
  ∀ (i : Nat) (a : Int), i + d = l.length → Ev (fun k => syntax_Count.l0 k a l (l.length : Int) (i : Int)) (cAlts a (l.drop i)) := by
 induction d with
 | zero =>
  intro i a hi
  rw [List.drop_eq_nil_of_le (by omega)]
  refine Ev.step (f := fun _ => some a) (fun k => ?_) (by simpa [cAlts] using Ev.now a)
  simp only [syntax_Count.l0]
  rw [if_neg (by omega)]
 | succ d ih =>
  intro i a hi
  have hlt : i < l.length := by omega
  have hm := List.getElem_mem hlt
  rw [List.drop_eq_getElem_cons hlt, cAlts, cBody_eq]
  have h1 := count_l1 l hl i hlt l[i].f0 (hb _ hm) (hev _ hm) (fun a => cAlts a (l.drop (i + 1))) (fun a => ih (i + 1) a (by omega)) l[i].f0.length 0 (wrap64 (a + (l[i].f0.length : Int))) (by omega)
  rw [List.drop_zero] at h1
  refine Ev.step (fun k => ?_) h1
  simp only [syntax_Count.l0]
  rw [if_pos (by omega), if_pos (by omega), if_pos (by omega), rd_body hlt]
  rfl
theorem count_ev (n : Nat) : ∀ (l : List BodyK) (nm : ByteArray), SizeOf.sizeOf l < n → l.length ≤ 9223372036854775807 → lenAlts l → Ev (fun k => syntax_Count.f k nm l) (countI l) := by
 induction n with
 | zero => intro l nm h; exact absurd h (Nat.not_lt_zero _)
 | succ n ih =>
  intro l nm h hl hlen
  rw [lenAlts_iff] at hlen
  have h1 := count_l0 l hl (fun b hb => ((lenBody_eq b).1 (hlen b hb)).1) (fun b hb x hx nm => by
   have h2 := (lenNodes_iff _).1 ((lenBody_eq b).1 (hlen b hb)).2 x hx
   rw [lenNode_eq] at h2
   exact ih x.f5 nm (by have := size_child hb hx; omega) h2.1 h2.2) l.length 0 0 (by omega)
  rw [List.drop_zero] at h1
  refine Ev.step (fun k => ?_) h1
  simp only [syntax_Count.f]
  rfl
theorem depth_l1 (l : List BodyK) (hl : l.length ≤ 9223372036854775807) (i : Nat) (hi : i < l.length) (b : List NodeK) (hb : b.length ≤ 9223372036854775807) (hev : ∀ x ∈ b, ∀ nm, Ev (fun k => syntax_Depth.f k nm x.f5) (depthI x.f5))
  (r : Int → Int) (h0 : ∀ a, Ev (fun k => syntax_Depth.l0 k a l (l.length : Int) ((i + 1 : Nat) : Int)) (r a)) (d : Nat) : ∀ (q : Nat) (a : Int), q + d = b.length → Ev (fun k => syntax_Depth.l1 k a l (l.length : Int) (i : Int) b (b.length : Int) (q : Int)) (r (dNodes a (b.drop q))) := by
 induction d with
 | zero =>
  intro q a hq
  rw [List.drop_eq_nil_of_le (by omega)]
  refine Ev.step (f := fun k => syntax_Depth.l0 k a l (l.length : Int) ((i + 1 : Nat) : Int)) (fun k => ?_) (by simpa [dNodes] using h0 a)
  simp only [syntax_Depth.l1]
  rw [if_neg (by omega), w64_next hi hl]
 | succ d ih =>
  intro q a hq
  have hlt : q < b.length := by omega
  rw [List.drop_eq_getElem_cons hlt, dNodes, dNode_eq]
  have hc := hev _ (List.getElem_mem hlt) (⟨#[]⟩ : ByteArray)
  by_cases hs : b[q].f3 = true
  ·rw [if_pos hs]
   refine Ev.step (f := fun k => (syntax_Depth.f k (⟨#[]⟩ : ByteArray) b[q].f5).bind fun t => syntax_Depth.l1 k (mx a t) l (l.length : Int) (i : Int) b (b.length : Int) ((q + 1 : Nat) : Int)) (fun k => ?_) (Ev.bind hc (ih (q + 1) _ (by omega)))
   simp only [syntax_Depth.l1]
   rw [if_pos (by omega), if_pos (by omega), if_pos (by omega), rd_node hlt, if_pos hs, w64_next hlt hb]
  ·rw [if_neg hs]
   refine Ev.step (fun k => ?_) (ih (q + 1) a (by omega))
   simp only [syntax_Depth.l1]
   rw [if_pos (by omega), if_pos (by omega), if_pos (by omega), rd_node hlt, if_neg hs, w64_next hlt hb]
theorem depth_l0 (l : List BodyK) (hl : l.length ≤ 9223372036854775807) (hb : ∀ b ∈ l, b.f0.length ≤ 9223372036854775807) (hev : ∀ b ∈ l, ∀ x ∈ b.f0, ∀ nm, Ev (fun k => syntax_Depth.f k nm x.f5) (depthI x.f5)) (d : Nat) :
  ∀ (i : Nat) (a : Int), i + d = l.length → Ev (fun k => syntax_Depth.l0 k a l (l.length : Int) (i : Int)) (wrap64 (dAlts a (l.drop i) + 1)) := by
 induction d with
 | zero =>
  intro i a hi
  rw [List.drop_eq_nil_of_le (by omega)]
  refine Ev.step (f := fun _ => some (wrap64 (a + 1))) (fun k => ?_) (by simpa [dAlts] using Ev.now (wrap64 (a + 1)))
  simp only [syntax_Depth.l0]
  rw [if_neg (by omega)]
 | succ d ih =>
  intro i a hi
  have hlt : i < l.length := by omega
  have hm := List.getElem_mem hlt
  rw [List.drop_eq_getElem_cons hlt, dAlts, dBody_eq]
  have h1 := depth_l1 l hl i hlt l[i].f0 (hb _ hm) (hev _ hm) (fun a => wrap64 (dAlts a (l.drop (i + 1)) + 1)) (fun a => ih (i + 1) a (by omega)) l[i].f0.length 0 a (by omega)
  rw [List.drop_zero] at h1
  refine Ev.step (fun k => ?_) h1
  simp only [syntax_Depth.l0]
  rw [if_pos (by omega), if_pos (by omega), if_pos (by omega), rd_body hlt]
  rfl
theorem depth_ev (n : Nat) : ∀ (l : List BodyK) (nm : ByteArray), SizeOf.sizeOf l < n → l.length ≤ 9223372036854775807 → lenAlts l → Ev (fun k => syntax_Depth.f k nm l) (depthI l) := by
 induction n with
 | zero => intro l nm h; exact absurd h (Nat.not_lt_zero _)
 | succ n ih =>
  intro l nm h hl hlen
  rw [lenAlts_iff] at hlen
  have h1 := depth_l0 l hl (fun b hb => ((lenBody_eq b).1 (hlen b hb)).1) (fun b hb x hx nm => by
   have h2 := (lenNodes_iff _).1 ((lenBody_eq b).1 (hlen b hb)).2 x hx
   rw [lenNode_eq] at h2
   exact ih x.f5 nm (by have := size_child hb hx; omega) h2.1 h2.2) l.length 0 0 (by omega)
  rw [List.drop_zero] at h1
  refine Ev.step (fun k => ?_) h1
  simp only [syntax_Depth.f]
  rfl
def checkI (nm : ByteArray) (l : List BodyK) : Int := if okName nm then (if depthI l > 70 then 2 else if countI l > 1000 then 2 else if bodiesOk l then 0 else 2) else 2
theorem check_ev (nm : ByteArray) (l : List BodyK) (hl : l.length ≤ 9223372036854775807) (hlen : lenAlts l) : Ev (fun k => syntax_Check.f k nm l) (checkI nm l) := by
 obtain ⟨k1, h1⟩ := count_ev (SizeOf.sizeOf l + 1) l nm (by omega) hl hlen
 obtain ⟨k2, h2⟩ := depth_ev (SizeOf.sizeOf l + 1) l nm (by omega) hl hlen
 refine ⟨max k1 k2, fun k hk => ?_⟩
 simp only [syntax_Check.f, names_of, Option.bind_some, h1 k (by omega), h2 k (by omega), syntax_bodies.f]
 unfold checkI
 repeat' split
 all_goals rfl
def checkB (nm : ByteArray) (l : List BodyK) : Bool := runB (checkI nm l) (countI l) l
theorem checkB_walk (nm : ByteArray) (A : Option Addr) (c : Nat) (l : List BodyK) (w : World) (hC : k147.C w A l.length l) (hc : l.length ≤ c) :
  Calls Tryz.prog 48 #[.agg #[.string nm, .slice A l.length c]] w fun e w' => e = .returned (.int .i64 (if checkB nm l then 0 else 11)) ∧ Below w.heap.size w w' := by
 have hlen := len_of_C (SizeOf.sizeOf l + 1) l w A (by omega) hC
 obtain ⟨k1, h1⟩ := count_ev (SizeOf.sizeOf l + 1) l nm (by omega) (Kd.C_max hC) hlen
 obtain ⟨k2, h2⟩ := check_ev nm l (Kd.C_max hC) hlen
 exact check_walk nm A c l w hC hc (max k1 k2) _ _ (h2 _ (by omega)) (h1 _ (by omega))
theorem arcsN_good (b : List NodeK) (i : Int) : ∀ (r bef : List ByteArray) (out o : List S263), arcsN b i bef r out = some o → goodPre b bef → goodPre b (bef ++ r)
 | [], bef, _, _, _, h => by simpa using h
 | t :: r, bef, out, o, h, hp => by
  unfold arcsN at h
  split at h
  ·rename_i hc
   simp only [Bool.and_eq_true, decide_eq_true_eq, Bool.not_eq_true'] at hc
   have := arcsN_good b i r _ _ _ h (goodPre_snoc hp hc.1.1 hc.2)
   simpa using this
  ·cases h
theorem arcsL_good (b : List NodeK) : ∀ (l : List NodeK) (i : Int) (out o : List S263), arcsL b i l out = some o → ∀ x ∈ l, x.f2.length ≤ b.length
 | [], _, _, _, _, x, hx => by cases hx
 | y :: l, i, out, o, h, x, hx => by
  unfold arcsL at h
  split at h
  ·cases h
  ·rename_i o2 ho
   rcases List.mem_cons.1 hx with rfl | hx
   ·have := goodPre_len (arcsN_good b i _ _ _ _ ho ⟨by simp, fun s hs => by simp at hs⟩)
    simpa using this
   ·exact arcsL_good b l _ _ _ h x hx
theorem sound_after {l : List BodyK} (h : soundB l = true) {b : BodyK} (hb : b ∈ l) {x : NodeK} (hx : x ∈ b.f0) : x.f2.length ≤ 16 := by
 have h16 := (sound_named h hb).1
 unfold soundB at h
 rw [Bool.and_eq_true, List.all_eq_true] at h
 have h1 := h.2 b hb
 unfold bodySound at h1
 simp only [Bool.and_eq_true] at h1
 have h2 := h1.2
 split at h2
 ·cases h2
 ·rename_i a ha
  exact Nat.le_trans (arcsL_good _ _ _ _ _ ha x hx) h16
theorem visNodes_len (b : BodyK) (d : Int) (m : Nat) : ∀ l : List NodeK, (∀ x ∈ l, (visAlts (wrap64 (d + 1)) x.f5).length ≤ m) → (visNodes b d l).length ≤ l.length * (1 + m)
 | [], _ => by simp [visNodes]
 | x :: l, h => by
  rw [visNodes, visNode_eq, List.length_append, List.length_cons, List.length_cons, Nat.succ_mul]
  have h1 := h x List.mem_cons_self
  have h2 := visNodes_len b d m l (fun y hy => h y (List.mem_cons_of_mem _ hy))
  omega
theorem visBody_eq (d : Int) (b : BodyK) : visBody d b = visNodes b d b.f0 := by cases b; simp [visBody]
theorem visAlts_len (d : Int) (m : Nat) : ∀ l : List BodyK, (∀ b ∈ l, b.f0.length ≤ 16 ∧ ∀ x ∈ b.f0, (visAlts (wrap64 (d + 1)) x.f5).length ≤ m) → (visAlts d l).length ≤ l.length * (16 * (1 + m))
 | [], _ => by simp [visAlts]
 | b :: l, h => by
  rw [visAlts, visBody_eq, List.length_append, List.length_cons, Nat.succ_mul]
  have h1 := h b List.mem_cons_self
  have h2 := visAlts_len d m l (fun y hy => h y (List.mem_cons_of_mem _ hy))
  have h3 := visNodes_len b d m b.f0 h1.2
  have h4 : b.f0.length * (1 + m) ≤ 16 * (1 + m) := Nat.mul_le_mul_right _ h1.1
  omega
def gCap : Nat → Nat
 | 0 => 0
 | n + 1 => 64 * (1 + gCap n)
theorem soundB_len {l : List BodyK} (h : soundB l = true) : l.length ≤ 4 := by
 unfold soundB at h
 rw [Bool.and_eq_true, decide_eq_true_eq] at h
 exact h.1
theorem vis_mem {d : Int} {l : List BodyK} {b : BodyK} {x : NodeK} (hb : b ∈ l) (hx : x ∈ b.f0) {P : Vis → Prop} (hall : ∀ u ∈ visAlts d l, P u) : P ⟨x, b, d⟩ ∧ ∀ u ∈ visAlts (wrap64 (d + 1)) x.f5, P u := by
 obtain ⟨i, hi, rfl⟩ := List.getElem_of_mem hb
 obtain ⟨q, hq, rfl⟩ := List.getElem_of_mem hx
 exact vis_child hi hq hall
theorem vis_cap (n : Nat) : ∀ (l : List BodyK) (d : Int), 1 ≤ d → 7 - d ≤ (n : Int) → soundB l = true → (∀ u ∈ visAlts d l, u.d ≤ 6 ∧ soundB u.n.f5 = true) → (visAlts d l).length ≤ gCap n := by
 induction n with
 | zero =>
  intro l d h1 h2 hs hall
  have h3 := visAlts_len d 0 l (fun b hb => ⟨(sound_named hs hb).1, fun x hx => by
   have := (vis_mem hb hx hall).1.1
   simp only at this
   omega⟩)
  have h4 : ∀ b ∈ l, b.f0 = [] := fun b hb => by
   cases hf : b.f0 with
   | nil => rfl
   | cons x r =>
    have := (vis_mem (x := x) hb (by rw [hf]; exact List.mem_cons_self) hall).1.1
    simp only at this
    omega
  have h5 : ∀ l : List BodyK, (∀ b ∈ l, b.f0 = []) → visAlts d l = [] := by
   intro l hl
   induction l with
   | nil => rfl
   | cons b l ih => rw [visAlts, visBody_eq, hl b List.mem_cons_self, ih (fun y hy => hl y (List.mem_cons_of_mem _ hy))]; rfl
  rw [h5 l h4]
  simp [gCap]
 | succ n ih =>
  intro l d h1 h2 hs hall
  have h3 := visAlts_len d (gCap n) l (fun b hb => ⟨(sound_named hs hb).1, fun x hx => by
   obtain ⟨h5, h6⟩ := vis_mem hb hx hall
   have h7 : wrap64 (d + 1) = d + 1 := by have := h5.1; simp only at this; unfold wrap64; omega
   rw [h7] at h6 ⊢
   exact ih x.f5 (d + 1) (by omega) (by omega) h5.2 h6⟩)
  have h4 : l.length * (16 * (1 + gCap n)) ≤ 4 * (16 * (1 + gCap n)) := Nat.mul_le_mul_right _ (soundB_len hs)
  simp only [gCap]
  omega
theorem cNodes_len (b : BodyK) (d : Int) : ∀ (l : List NodeK) (a : Int), (∀ x ∈ l, ∀ d, countI x.f5 = wrap64 ((visAlts d x.f5).length : Int)) → wrap64 a = a → cNodes a l = wrap64 (a + (((visNodes b d l).length : Int) - (l.length : Int)))
 | [], a, _, ha => by simp [cNodes, visNodes, ha]
 | x :: l, a, h, ha => by
  rw [cNodes, cNode_eq, h x List.mem_cons_self (wrap64 (d + 1)), cNodes_len b d l _ (fun y hy => h y (List.mem_cons_of_mem _ hy)) (by unfold wrap64; omega)]
  rw [visNodes, visNode_eq, List.length_append, List.length_cons, List.length_cons]
  unfold wrap64
  omega
theorem cAlts_len (d : Int) : ∀ (l : List BodyK) (a : Int), (∀ b ∈ l, ∀ x ∈ b.f0, ∀ d, countI x.f5 = wrap64 ((visAlts d x.f5).length : Int)) → wrap64 a = a → cAlts a l = wrap64 (a + ((visAlts d l).length : Int))
 | [], a, _, ha => by simp [cAlts, visAlts, ha]
 | b :: l, a, h, ha => by
  rw [cAlts, cBody_eq, cNodes_len b d b.f0 _ (h b List.mem_cons_self) (by unfold wrap64; omega), cAlts_len d l _ (fun y hy => h y (List.mem_cons_of_mem _ hy)) (by unfold wrap64; omega)]
  rw [visAlts, visBody_eq, List.length_append]
  unfold wrap64
  omega
theorem count_vis (n : Nat) : ∀ (l : List BodyK) (d : Int), SizeOf.sizeOf l < n → countI l = wrap64 ((visAlts d l).length : Int) := by
 induction n with
 | zero => intro l d h; exact absurd h (Nat.not_lt_zero _)
 | succ n ih =>
  intro l d h
  unfold countI
  rw [cAlts_len d l 0 (fun b hb x hx d => ih x.f5 d (by have := size_child hb hx; omega)) (by unfold wrap64; omega), Int.zero_add]
theorem wNodes_len (b : BodyK) (d : Int) : ∀ l : List NodeK, (∀ x ∈ l, x.f2.length ≤ 16 ∧ wAlts x.f5 ≤ 17 * (visAlts (wrap64 (d + 1)) x.f5).length) → wNodes l ≤ 17 * (visNodes b d l).length
 | [], _ => by simp [wNodes]
 | x :: l, h => by
  rw [wNodes, wNode_eq, visNodes, visNode_eq, List.length_append, List.length_cons]
  have h1 := h x List.mem_cons_self
  have h2 := wNodes_len b d l (fun y hy => h y (List.mem_cons_of_mem _ hy))
  omega
theorem wAlts_len (d : Int) : ∀ l : List BodyK, (∀ b ∈ l, ∀ x ∈ b.f0, x.f2.length ≤ 16 ∧ wAlts x.f5 ≤ 17 * (visAlts (wrap64 (d + 1)) x.f5).length) → wAlts l ≤ 17 * (visAlts d l).length
 | [], _ => by simp [wAlts]
 | b :: l, h => by
  rw [wAlts, wBody_eq, visAlts, visBody_eq, List.length_append]
  have h1 := wNodes_len b d b.f0 (h b List.mem_cons_self)
  have h2 := wAlts_len d l (fun y hy => h y (List.mem_cons_of_mem _ hy))
  omega
theorem wAlts_vis (n : Nat) : ∀ (l : List BodyK) (d : Int), SizeOf.sizeOf l < n → soundB l = true → (∀ u ∈ visAlts d l, soundB u.n.f5 = true) → wAlts l ≤ 17 * (visAlts d l).length := by
 induction n with
 | zero => intro l d h; exact absurd h (Nat.not_lt_zero _)
 | succ n ih =>
  intro l d h hs hall
  refine wAlts_len d l (fun b hb x hx => ⟨sound_after hs hb hx, ?_⟩)
  obtain ⟨h1, h2⟩ := vis_mem (P := fun u => soundB u.n.f5 = true) hb hx hall
  exact ih x.f5 _ (by have := size_child hb hx; omega) h1 h2
theorem check_small {nm : ByteArray} {l : List BodyK} (h : checkB nm l = true) : soundB l = true ∧ (∀ u ∈ visAlts 1 l, soundB u.n.f5 = true) ∧ wAlts l ≤ 1088 ∧ countI l = ((visAlts 1 l).length : Int) ∧ (visAlts 1 l).length < 64 ∧ checkI nm l = 0 := by
 unfold checkB runB at h
 simp only [Bool.and_eq_true, decide_eq_true_eq, beq_iff_eq] at h
 obtain ⟨⟨h1, h2⟩, h3, h4⟩ := h
 unfold okAll at h4
 rw [Bool.and_eq_true, List.all_eq_true] at h4
 have hall : ∀ u ∈ visAlts 1 l, u.d ≤ 6 ∧ soundB u.n.f5 = true := fun u hu => by
  have := h4.2 u hu
  unfold okV at this
  simp only [Bool.and_eq_true, decide_eq_true_eq] at this
  exact this.2
 have h5 := vis_cap 6 l 1 (by omega) (by omega) h3 hall
 have h6 := count_vis (SizeOf.sizeOf l + 1) l 1 (by omega)
 have h7 : gCap 6 = 69810262080 := by decide
 have h8 : countI l = ((visAlts 1 l).length : Int) := by rw [h6]; unfold wrap64; omega
 have h9 := wAlts_vis (SizeOf.sizeOf l + 1) l 1 (by omega) h3 (fun u hu => (hall u hu).2)
 refine ⟨h3, fun u hu => (hall u hu).2, by omega, h8, by omega, h1⟩
def rootOf (nm : ByteArray) (l : List BodyK) : ItemK := ⟨nm, ⟨#[]⟩, true, true, (l.length : Int), -1, 0, []⟩
def makeL (nm : ByteArray) (l : List BodyK) : List ItemK := flAlts 0 0 [rootOf nm l] l
def MakeP (nm : ByteArray) (l : List BodyK) (w : World) (e : Ending) (w' : World) : Prop := Below w.heap.size w w' ∧ (if checkB nm l then ∃ v, e = .returned (.tuple #[.agg #[v], .int .i64 0]) ∧ Kd.S k56 56 w' w.heap.size (fun _ => True) v (makeL nm l) else e = .returned (.tuple #[.agg #[.slice none 0 0], .int .i64 11]))
theorem root_row {W : World} {base : Nat} {ok : Nat → Prop} (nm : ByteArray) (l : List BodyK) (hb : base ≤ W.heap.size) (hok : ok W.heap.size) :
  Kd.S k56 56 (W.alloc (.cells #[.string nm, .string ⟨#[]⟩, .bool true, .bool true, .int .i64 l.length, .int .i64 (-1), .int .i64 0, .slice none 0 0] 56)) base ok (.slice (some ⟨W.heap.size, 0, none⟩) 1 1) [rootOf nm l] := by
 refine Kd.S_bare ⟨fun k hk => ?_, ?_⟩
 ·have : W.heap.size = k := by simpa [Value.ownBlock] using hk
  rw [← this]; exact hok
 ·exact OwnRow.lit (R := (Kd.bare k56).M (W.alloc (.cells #[.string nm, .string ⟨#[]⟩, .bool true, .bool true, .int .i64 l.length, .int .i64 (-1), .int .i64 0, .slice none 0 0] 56)) base (fun k => ok k ∧ some k ≠ (Value.slice (some ⟨W.heap.size, 0, none⟩) 1 1).ownBlock)) (size := 8) W base (ps := [rootOf nm l]) (inner := [.string nm, .string ⟨#[]⟩, .bool true, .bool true, .int .i64 l.length, .int .i64 (-1), .int .i64 0, .slice none 0 0])
   (Reps.front (show (k56).M _ base (fun _ => False) (rootOf nm l) _ from k56_mkM _ _ _ _ (Kd.R_nil _ _ _ _ _)) rfl (Reps.none _ _) rfl) hb (by simp)
set_option maxHeartbeats 8000000 in
set_option maxRecDepth 100000 in
theorem make_walk (nm : ByteArray) (A : Option Addr) (c : Nat) (l : List BodyK) (w : World) (hC : k147.C w A l.length l) (hc : l.length ≤ c) : Calls Tryz.prog 16 #[.agg #[.string nm, .slice A l.length c]] w (MakeP nm l w) := by
 have HC := Aside0.mk hC
 have HL := Aside0.mk hc
 have HS := Aside0.mk (fun h : checkB nm l = true => check_small h)
 have HCW := Aside0.mk (fun (W : World) (h : k147.C W A l.length l) => checkB_walk nm A c l W h hc)
 clear hC hc
 obtain ⟨o, ho⟩ : ∃ o, checkB nm l = o := ⟨_, rfl⟩
 have HO := Aside0.mk ho
 rw [ho] at HS HCW
 clear ho
 have HG0 := Aside0.mk (blk_alloc (blk_new w (.cells #[.string nm, .slice A l.length c] 42 (0, 0))) (.cells #[.slice none 0 0] 24 (0, 0)))
 have HG1 := Aside0.mk (blk_new (w.alloc (.cells #[.string nm, .slice A l.length c] 42 (0, 0))) (.cells #[.slice none 0 0] 24 (0, 0)))
 have HB0 := Aside0.mk (((Below.refl w.heap.size w).alloc (Nat.le_refl _) (.cells #[.string nm, .slice A l.length c] 42 (0, 0))).alloc (by simp) (.cells #[.slice none 0 0] 24 (0, 0)))
 rw [show (w.alloc (.cells #[.string nm, .slice A l.length c] 42 (0, 0))).heap.size = w.heap.size + 1 from by simp] at HG1
 have HC0 := Aside0.mk (Kd.C_below HC.out HB0.out)
 go_enter Tryz.func16, Tryz.ntmps16
 cases o with
 | false =>
  go_wp2_with (go_at_call 48; refine (HCW.out _ HC0.out).mono ?_; rintro e w2 ⟨rfl, hb⟩; have HB2 := Aside0.mk (HB0.out.trans (hb.mono HB0.out.size)); have HG2 := Aside0.mk (blk_below HG1.out hb); have y0 : w2.cell? ⟨w.heap.size + 1, 0, none⟩ = some (.slice none 0 0) := (blk_cell HG2.out 0).trans rfl; have y1 := blk_frozen HG2.out 0; clear hb)
  have HR := blk_put HG2.out 0 (.slice none 0 0) rfl
  refine bodyPost_ret (results_ct rfl _ _ (w.heap.size + 1) 24 #[.slice none 0 0] (0, 0) _ rfl HR Tryz.underlying24 rfl (by kernel_rfl)) rfl ?_
  refine ⟨?_, ?_⟩
  ·exact HB2.out.setCell (p := ⟨w.heap.size + 1, 0, none⟩) (by show w.heap.size ≤ w.heap.size + 1; omega) _
  ·rw [HO.out]
   rfl
 | true =>
  have HSM := Aside0.mk (HS.out rfl)
  go_wp2_with (first
   | (go_at_call 48; refine (HCW.out _ HC0.out).mono ?_; rintro e w2 ⟨rfl, hb⟩; have HB2 := Aside0.mk (HB0.out.trans (hb.mono HB0.out.size)); have HG2 := Aside0.mk (blk_below HG1.out hb); have HGA := Aside0.mk (blk_below HG0.out hb); have x0 : w2.cell? ⟨w.heap.size, 0, none⟩ = some (.string nm) := (blk_cell HGA.out 0).trans rfl; have x1 : w2.cell? ⟨w.heap.size, 1, none⟩ = some (.slice A l.length c) := (blk_cell HGA.out 1).trans rfl; have hn1 : w.heap.size < w2.heap.size := blk_lt HGA.out; have hn2 : ¬ (w.heap.size = w2.heap.size) := (by omega); have hn3 : ¬ (w.heap.size = w2.heap.size + 1) := (by omega); have hn4 : w.heap.size < w2.heap.size + 1 := (by omega); have hn5 : ¬ (w2.heap.size = w.heap.size) := (by omega); have hn6 : ¬ (w2.heap.size + 1 = w.heap.size) := (by omega); clear hb)
   | (go_at_call 49; refine stop_ ?_))
  unfold Stop_
  have hw1 : w.heap.size + 1 < w2.heap.size := blk_lt HG2.out
  have hS := root_row (W := w2.alloc (.cells #[.string nm, .string ⟨#[]⟩, .bool true, .bool true, .int .i64 l.length, .int .i64 (-1), .int .i64 0, .slice none 0 0] 56)) (base := w.heap.size) (ok := fun k => k ≠ w.heap.size + 1) nm l (by simp; omega) (by simp; omega)
  rw [show (w2.alloc (.cells #[.string nm, .string ⟨#[]⟩, .bool true, .bool true, .int .i64 l.length, .int .i64 (-1), .int .i64 0, .slice none 0 0] 56)).heap.size = w2.heap.size + 1 from by simp] at hS
  refine (flat_call l 1 w _ A c (fun k => k ≠ w.heap.size + 1) _ [rootOf nm l] 0 1 HC.out HL.out HSM.out.1 HSM.out.2.1 ((HB2.out.alloc HB2.out.size _).alloc (by simp; omega) _) hS ⟨by simp, fun it hi => by rw [List.mem_singleton.1 hi]; simp [rootOf]⟩ (by have := HSM.out.2.2.1; omega)).mono ?_
  rintro e w5 ⟨hb5, hk5, _, v5, rfl, hS5⟩
  have HB5 := Aside0.mk hb5
  have HS5 := Aside0.mk hS5
  have HG5 := Aside0.mk (blk_kept (blk_alloc (blk_alloc HG2.out _) _) hk5 (fun h => h rfl))
  obtain ⟨A6, c6, rfl⟩ := Kd.S_slice hS5
  have y0 : w5.cell? ⟨w.heap.size + 1, 0, none⟩ = some (.slice none 0 0) := (blk_cell HG5.out 0).trans rfl
  have y1 := blk_frozen HG5.out 0
  have y2 := (Kd.S_far (p := ⟨w.heap.size + 1, 0, none⟩) ((Kd.S_mono (Kd.S_bound HS5.out) (fun k hk => (by rcases hk.1 with h | h; exact h; simp at h; omega : k ≠ w.heap.size + 1)))) (fun _ hk => hk) (.slice A6 (flAlts 0 0 [rootOf nm l] l).length c6))
  have HY := Aside0.mk y2
  clear hb5 hk5 hS5 hS hw1 y2 x0 x1 hn1 hn2 hn3 hn4 hn5 hn6
  simp only []
  go_at_K
  go_wp2
  have HR := blk_put HG5.out 0 (.slice A6 (flAlts 0 0 [rootOf nm l] l).length c6) rfl
  refine bodyPost_ret (results_ct rfl _ _ (w.heap.size + 1) 24 #[.slice A6 (flAlts 0 0 [rootOf nm l] l).length c6] (0, 0) _ rfl HR Tryz.underlying24 rfl (by kernel_rfl)) rfl ?_
  refine ⟨?_, ?_⟩
  ·exact HB5.out.setCell (p := ⟨w.heap.size + 1, 0, none⟩) (by show w.heap.size ≤ w.heap.size + 1; omega) _
  ·rw [HO.out, if_pos rfl]
   exact ⟨_, rfl, Kd.S_mono HY.out (fun _ _ => trivial)⟩
end Go.Proofs.YtokekdhmhfoliaaGreat.F
end

section
namespace Go.Proofs.YtokekdhmhfoliaaGreat.F
open Go.RowKit Go.Proofs.YtokekdhmhfoliaaGreatW.PrintWords Go.Proofs.YtokekdhmhfoliaaGreatW.PrintLast Go.Proofs.YtokekdhmhfoliaaGreatW.PrintMore
attribute [local go_sem] max2_int min2_int max_two min_two max_three min_three max_four min_four
set_option linter.unusedVariables false
set_option linter.unusedSimpArgs false
def slices_Equal_int_int.l0 : Nat → List Int → List Int → Int → Int → Option (Bool)
 | 0, _, _, _, _ => none
 | k + 1, x0, x1, x12, x13 => if x13 < x12 then (if 0 ≤ x13 then (if x13 < (x0.length : Int) then (if x13 < (x1.length : Int) then (if (rd x0 x13) = (rd x1 x13) then (slices_Equal_int_int.l0 k x0 x1 x12 (wrap64 (x13 + 1))) else (some false)) else (none)) else (none)) else (none)) else (some true)
def slices_Equal_int_int.f (k : Nat) (l0 : List Int) (l1 : List Int) : Option (Bool) := if (l0.length : Int) = (l1.length : Int) then (slices_Equal_int_int.l0 k l0 l1 (l0.length : Int) 0) else (some false)
set_option maxHeartbeats 8000000 in
set_option maxRecDepth 100000 in
theorem slices_Equal_int_int.calls (k : Nat) (A0 : Option Addr) (c0 : Nat) (l0 : List Int) (A1 : Option Addr) (c1 : Nat) (l1 : List Int) (r : Bool) (w : World) (hr0 : Kd.C (Kd.int .i64) w A0 l0.length l0) (hc0 : l0.length ≤ c0) (hr1 : Kd.C (Kd.int .i64) w A1 l1.length l1) (hc1 : l1.length ≤ c1) (h : slices_Equal_int_int.f k l0 l1 = some r) :
  Calls Tryz.prog 170 #[.slice A0 l0.length c0, .slice A1 l1.length c1] w fun e w' => e = .returned (.bool r) ∧ Drawn0 w w' := by
 have HR0 := Aside0.mk hr0
 have HC0 := Aside0.mk hc0
 clear hr0 hc0
 have HR1 := Aside0.mk hr1
 have HC1 := Aside0.mk hc1
 clear hr1 hc1
 have H : (if (l0.length : Int) = (l1.length : Int) then (slices_Equal_int_int.l0 k l0 l1 (l0.length : Int) 0) else (some false)) = some r := h
 clear h
 by_cases c3 : (l0.length : Int) = (l1.length : Int)
 ·rw [if_pos c3] at H
  have c3b0 : ((l0.length : Int) == (l1.length : Int)) = true := beq_iff_eq.mpr c3
  have c3b1 : ((l0.length : Int) != (l1.length : Int)) = false := bne_eq_false_iff_eq.mpr c3
  have c3b2 : (l0.length == l1.length) = true := by first | simpa using c3 | (simp at c3 ⊢; omega)
  clear c3
  have H' := Aside0.mk H
  clear H
  go_enter Tryz.func170, Tryz.ntmps170
  go_wp2
  repeat (go_quiet (fail); try go_wp2)
  go_loopg [13] k (fun kq v13 w' => ∃ (x13_1 : Int), v13 = .int .i64 x13_1 ∧ Aside0 (slices_Equal_int_int.l0 kq l0 l1 (l0.length : Int) x13_1 = some r) ∧ Aside0 (kq ≤ k) ∧ Drawn0 w w')
  case atStart => exact ⟨(0), (by first | rfl | (simp; done) | (simp [*]; done)), H', ⟨Nat.le_refl _⟩, by repeat (first | exact Drawn0.refl _ | apply Drawn0.step)⟩
  case round =>
   clear H'
   try clear c1
   try clear p2
   try clear c3
   try clear c3b0
   try clear c3b1
   try clear c3b2
   obtain ⟨x13_1, rfl, HA, HK1, ⟨m1, rfl⟩⟩ := hrel
   cases gk with
   | zero => exact absurd HA.out (by simp [slices_Equal_int_int.l0])
   | succ k1 =>
    have H := HA.out
    clear HA
    simp only [slices_Equal_int_int.l0] at H
    by_cases c4 : x13_1 < (l0.length : Int)
    ·rw [if_pos c4] at H
     have c4b0 : decide (x13_1 < (l0.length : Int)) = true := decide_eq_true c4
     clear c4
     by_cases c5 : 0 ≤ x13_1
     ·rw [if_pos c5] at H
      have c5b0 : decide (0 ≤ x13_1) = true := decide_eq_true c5
      clear c5
      by_cases c6 : x13_1 < (l0.length : Int)
      ·rw [if_pos c6] at H
       have c6b0 : decide (x13_1 < (l0.length : Int)) = true := decide_eq_true c6
       clear c6
       by_cases c7 : x13_1 < (l1.length : Int)
       ·rw [if_pos c7] at H
        have c7b0 : decide (x13_1 < (l1.length : Int)) = true := decide_eq_true c7
        clear c7
        by_cases c8 : (rd l0 x13_1) = (rd l1 x13_1)
        ·rw [if_pos c8] at H
         have c8b0 : ((rd l0 x13_1) == (rd l1 x13_1)) = true := beq_iff_eq.mpr c8
         have c8b1 : ((rd l0 x13_1) != (rd l1 x13_1)) = false := bne_eq_false_iff_eq.mpr c8
         clear c8
         have H' := Aside0.mk H
         clear H
         have p178 : 0 ≤ (x13_1 : Int) := of_decide_eq_true (by first | (with_reducible assumption) | assumption)
         have q178 : x13_1 < (l0.length : Int) := of_decide_eq_true (by first | (with_reducible assumption) | assumption)
         obtain ⟨ad178, e178, hx178_0⟩ := Kd.at_int HR0.out x13_1 p178 q178
         cases e178
         replace p178 := eq_true p178
         replace q178 := eq_true q178
         have p179 : 0 ≤ (x13_1 : Int) := of_decide_eq_true (by first | (with_reducible assumption) | assumption)
         have q179 : x13_1 < (l1.length : Int) := of_decide_eq_true (by first | (with_reducible assumption) | assumption)
         obtain ⟨ad179, e179, hx179_0⟩ := Kd.at_int HR1.out x13_1 p179 q179
         cases e179
         replace p179 := eq_true p179
         replace q179 := eq_true q179
         go_wp2
         repeat (go_quiet (fail); try go_wp2)
         go_roundg k1
         case measure => have := HK1.out; omega
         case rel => exact ⟨(wrap64 (x13_1 + 1)), (by first | rfl | (simp; done) | (simp [*]; done)), H', ⟨by have := HK1.out; omega⟩, by repeat (first | exact Drawn0.refl _ | apply Drawn0.step)⟩
        ·rw [if_neg c8] at H
         have c8b0 : ((rd l0 x13_1) == (rd l1 x13_1)) = false := beq_eq_false_iff_ne.mpr c8
         have c8b1 : ((rd l0 x13_1) != (rd l1 x13_1)) = true := bne_iff_ne.mpr c8
         obtain rfl := Option.some.inj H
         have p178 : 0 ≤ (x13_1 : Int) := of_decide_eq_true (by first | (with_reducible assumption) | assumption)
         have q178 : x13_1 < (l0.length : Int) := of_decide_eq_true (by first | (with_reducible assumption) | assumption)
         obtain ⟨ad178, e178, hx178_0⟩ := Kd.at_int HR0.out x13_1 p178 q178
         cases e178
         replace p178 := eq_true p178
         replace q178 := eq_true q178
         have p179 : 0 ≤ (x13_1 : Int) := of_decide_eq_true (by first | (with_reducible assumption) | assumption)
         have q179 : x13_1 < (l1.length : Int) := of_decide_eq_true (by first | (with_reducible assumption) | assumption)
         obtain ⟨ad179, e179, hx179_0⟩ := Kd.at_int HR1.out x13_1 p179 q179
         cases e179
         replace p179 := eq_true p179
         replace q179 := eq_true q179
         go_wp2
         repeat (go_quiet (fail); try go_wp2)
         go_ret
         exact ⟨by first | rfl | (simp; done) | (simp [*]; done), by repeat (first | exact Drawn0.refl _ | apply Drawn0.step)⟩
       ·rw [if_neg c7] at H
        exact absurd H (by simp)
      ·rw [if_neg c6] at H
       exact absurd H (by simp)
     ·rw [if_neg c5] at H
      exact absurd H (by simp)
    ·rw [if_neg c4] at H
     have c4b0 : decide (x13_1 < (l0.length : Int)) = false := decide_eq_false c4
     clear c4
     obtain rfl := Option.some.inj H
     go_wp2
     repeat (go_quiet (fail); try go_wp2)
     go_ret
     exact ⟨by first | rfl | (simp; done) | (simp [*]; done), by repeat (first | exact Drawn0.refl _ | apply Drawn0.step)⟩
 ·rw [if_neg c3] at H
  have c3b0 : ((l0.length : Int) == (l1.length : Int)) = false := beq_eq_false_iff_ne.mpr c3
  have c3b1 : ((l0.length : Int) != (l1.length : Int)) = true := bne_iff_ne.mpr c3
  have c3b2 : (l0.length == l1.length) = false := by first | simpa using c3 | (simp at c3 ⊢; omega)
  obtain rfl := Option.some.inj H
  go_enter Tryz.func170, Tryz.ntmps170
  go_wp2
  repeat (go_quiet (fail); try go_wp2)
  go_ret
  exact ⟨by first | rfl | (simp; done) | (simp [*]; done), by repeat (first | exact Drawn0.refl _ | apply Drawn0.step)⟩
end Go.Proofs.YtokekdhmhfoliaaGreat.F
end

section
namespace Go.Proofs.YtokekdhmhfoliaaGreat.F
open Go.RowKit Go.Proofs.YtokekdhmhfoliaaGreatW.PrintWords Go.Proofs.YtokekdhmhfoliaaGreatW.PrintLast Go.Proofs.YtokekdhmhfoliaaGreatW.PrintMore
attribute [local go_sem] max2_int min2_int max_two min_two max_three min_three max_four min_four
set_option linter.unusedVariables false
set_option linter.unusedSimpArgs false
def eqAll {α β : Type} (p : α → β → Bool) : List α → List β → Bool
 | [], [] => true
 | x :: l, y :: m => p x y && eqAll p l m
 | _, _ => false
theorem eqAll_len {α β : Type} (p : α → β → Bool) : ∀ (l : List α) (m : List β), l.length ≠ m.length → eqAll p l m = false
 | [], [], h => absurd rfl h
 | [], _ :: _, _ => rfl
 | _ :: _, [], _ => rfl
 | x :: l, y :: m, h => by unfold eqAll; rw [eqAll_len p l m (fun e => h (by simp [e])), Bool.and_false]
set_option maxHeartbeats 8000000 in
set_option maxRecDepth 100000 in
theorem equal_func_item (gf : Nat) (lb : Array Value) (eg : ∀ args w, (callFunc gf args).run Tryz.prog w = .ok (.enter gf args) w) (p : S56 → S56 → Bool) (A0 A1 : Option Addr) (c0 c1 : Nat) (l0 l1 : List S56) (w : World) (hr0 : Kd.C k56 w A0 l0.length l0) (hr1 : Kd.C k56 w A1 l1.length l1)
  (hp : ∀ (i : Nat) (h0 : i < l0.length) (h1 : i < l1.length) (W : World), Below w.heap.size w W → ∀ cs ds, k56.K W l0[i] cs → k56.K W l1[i] ds → Calls Tryz.prog gf (#[.agg cs.toArray, .agg ds.toArray] ++ lb) W fun e W' => e = .returned (.bool (p l0[i] l1[i])) ∧ Below W.heap.size W W') :
  Calls Tryz.prog 141 #[.slice A0 l0.length c0, .slice A1 l1.length c1, .func (.func gf) #[] lb] w fun e w' => e = .returned (.bool (eqAll p l0 l1)) ∧ Below w.heap.size w w' := by
 have HR0 := Aside0.mk hr0
 have HR1 := Aside0.mk hr1
 have HB := Aside0.mk (Below.refl w.heap.size w)
 have HM := Aside0.mk (Kd.C_max hr0)
 have HP := Aside0.mk hp
 clear hr0 hr1 hp
 by_cases hl : l0.length = l1.length
 ·have hl1 : ((l0.length : Int) == (l1.length : Int)) = true := by simp [hl]
  have hl2 : (l0.length == l1.length) = true := by simp [hl]
  have hl3 : ((l0.length : Int) != (l1.length : Int)) = false := by simp [hl]
  have hl4 : (l0.length != l1.length) = false := by simp [hl]
  have hl5 : decide (l0.length = l1.length) = true := decide_eq_true hl
  have HL := Aside0.mk hl
  clear hl
  go_enter Tryz.func141, Tryz.ntmps141
  go_wp2
  go_loopg [17] l0.length (fun kq v17 w' => ∃ i : Nat, i + kq = l0.length ∧ v17 = .int .i64 i ∧ Aside0 (eqAll p l0 l1 = eqAll p (l0.drop i) (l1.drop i)) ∧ Aside0 (Below w.heap.size w w'))
  case atStart => exact ⟨0, by omega, rfl, ⟨rfl⟩, ⟨Below.refl _ _⟩⟩
  case round =>
   obtain ⟨i, hi, rfl, HI, HB⟩ := hrel
   have hm := HM.out
   cases gk with
   | zero =>
    obtain rfl : i = l0.length := by omega
    have HE : Aside0 (eqAll p l0 l1 = true) := ⟨by rw [HI.out, List.drop_eq_nil_of_le (Nat.le_refl _), List.drop_eq_nil_of_le (Nat.le_of_eq HL.out.symm)]; rfl⟩
    clear eg
    go_wp2
    go_ret
    exact ⟨by rw [HE.out]; rfl, HB.out⟩
   | succ k =>
    have hlt : i < l0.length := by omega
    have hlt1 : i < l1.length := by have := HL.out; omega
    obtain ⟨ad, A7, c7, e0, x0, x1, x2, x3, x4, x5, x6, x7, l7, g7⟩ := at_T56 (Kd.C_below HR0.out HB.out) (i : Int) (by omega) (by omega)
    rw [Int.toNat_natCast] at x0 x1 x2 x3 x4 x5 x6 x7
    have hrd : rd_T56 l0 (i : Int) = l0[i] := by unfold rd_T56; rw [Int.toNat_natCast, List.getD_eq_getElem?_getD, List.getElem?_eq_getElem hlt]; rfl
    rw [hrd] at x0 x1 x2 x3 x4 x5 x6 x7 l7 g7
    subst e0
    obtain ⟨x, hx⟩ : ∃ x, l0[i] = x := ⟨_, rfl⟩
    rw [hx] at x0 x1 x2 x3 x4 x5 x6 x7 l7 g7
    obtain ⟨ad1, B7, d7, e1, y0, y1, y2, y3, y4, y5, y6, y7, m7, h7⟩ := at_T56 (Kd.C_alloc (Kd.C_below HR1.out HB.out) (.cells #[.string x.f0, .string x.f1, .bool x.f2, .bool x.f3, .int .i64 x.f4, .int .i64 x.f5, .int .i64 x.f6, .slice A7 x.f7.length c7] 56 (0, 0))) (i : Int) (by omega) (by omega)
    rw [Int.toNat_natCast] at y0 y1 y2 y3 y4 y5 y6 y7
    have hrd1 : rd_T56 l1 (i : Int) = l1[i] := by unfold rd_T56; rw [Int.toNat_natCast, List.getD_eq_getElem?_getD, List.getElem?_eq_getElem hlt1]; rfl
    rw [hrd1] at y0 y1 y2 y3 y4 y5 y6 y7 m7 h7
    subst e1
    obtain ⟨y, hy⟩ : ∃ y, l1[i] = y := ⟨_, rfl⟩
    rw [hy] at y0 y1 y2 y3 y4 y5 y6 y7 m7 h7
    have HBA := Aside0.mk ((HB.out.alloc HB.out.size (.cells #[.string x.f0, .string x.f1, .bool x.f2, .bool x.f3, .int .i64 x.f4, .int .i64 x.f5, .int .i64 x.f6, .slice A7 x.f7.length c7] 56 (0, 0))).alloc (by simp; exact Nat.le_succ_of_le HB.out.size) (.cells #[.string y.f0, .string y.f1, .bool y.f2, .bool y.f3, .int .i64 y.f4, .int .i64 y.f5, .int .i64 y.f6, .slice B7 y.f7.length d7] 56 (0, 0)))
    have hpc := HP.out i hlt hlt1
    rw [hx, hy] at hpc
    have hcall := hpc _ HBA.out _ _ (k56_mk _ x l7 (Kd.C_alloc (Kd.C_alloc g7 (.cells #[.string x.f0, .string x.f1, .bool x.f2, .bool x.f3, .int .i64 x.f4, .int .i64 x.f5, .int .i64 x.f6, .slice A7 x.f7.length c7] 56 (0, 0))) (.cells #[.string y.f0, .string y.f1, .bool y.f2, .bool y.f3, .int .i64 y.f4, .int .i64 y.f5, .int .i64 y.f6, .slice B7 y.f7.length d7] 56 (0, 0)))) (k56_mk _ y m7 (Kd.C_alloc h7 (.cells #[.string y.f0, .string y.f1, .bool y.f2, .bool y.f3, .int .i64 y.f4, .int .i64 y.f5, .int .i64 y.f6, .slice B7 y.f7.length d7] 56 (0, 0))))
    clear hpc
    have HD : Aside0 (eqAll p l0 l1 = (p x y && eqAll p (l0.drop (i + 1)) (l1.drop (i + 1)))) := ⟨by rw [HI.out, List.drop_eq_getElem_cons hlt, List.drop_eq_getElem_cons hlt1, hx, hy]; rfl⟩
    have hlt' : (i : Int) < (l0.length : Int) := by omega
    have hlt1' : (i : Int) < (l1.length : Int) := by omega
    have h0 : (0 : Int) ≤ i := by omega
    have HI2 := Aside0.mk hi
    have HC := Aside0.mk hcall
    clear hx hy hrd hrd1 hi hcall l7 g7 m7 h7
    obtain ⟨v, hv⟩ : ∃ v, p x y = v := ⟨_, rfl⟩
    have HV := Aside0.mk hv
    clear hv
    cases v
    all_goals
     go_wp2_with (go_at_fn gf; refine HC.out.mono ?_; rintro e w2 ⟨rfl, hB2⟩; rw [HV.out]; have HB2 := Aside0.mk (HBA.out.trans (hB2.mono HBA.out.size)); clear hB2)
    ·go_ret
     exact ⟨by rw [HD.out, HV.out]; rfl, HB2.out⟩
    ·go_roundg k
     case measure => omega
     case rel => exact ⟨i + 1, by have := HI2.out; omega, by go_num, ⟨by rw [HD.out, HV.out]; simp⟩, HB2⟩
 ·have hl1 : ((l0.length : Int) == (l1.length : Int)) = false := by simpa using (fun h => hl (by omega) : ¬ (l0.length : Int) = (l1.length : Int))
  have hl2 : (l0.length == l1.length) = false := by simpa using hl
  have hl5 : decide (l0.length = l1.length) = false := decide_eq_false hl
  have HE : Aside0 (eqAll p l0 l1 = false) := ⟨eqAll_len p l0 l1 hl⟩
  clear eg
  go_enter Tryz.func141, Tryz.ntmps141
  go_wp2
  go_ret
  exact ⟨by rw [HE.out]; rfl, HB.out⟩
end Go.Proofs.YtokekdhmhfoliaaGreat.F
end

section
namespace Go.Proofs.YtokekdhmhfoliaaGreat.F
open Go.RowKit Go.Proofs.YtokekdhmhfoliaaGreatW.PrintWords Go.Proofs.YtokekdhmhfoliaaGreatW.PrintLast Go.Proofs.YtokekdhmhfoliaaGreatW.PrintMore
attribute [local go_sem] max2_int min2_int max_two min_two max_three min_three max_four min_four
set_option linter.unusedVariables false
set_option linter.unusedSimpArgs false
def alikeB (x y : ItemK) : Bool := decide (x.f0.toList = y.f0.toList) && (decide (x.f1.toList = y.f1.toList) && ((x.f2 == y.f2) && ((x.f3 == y.f3) && (decide (x.f4 = y.f4) && (decide (x.f5 = y.f5) && (decide (x.f6 = y.f6) && decide (x.f7 = y.f7)))))))
theorem equal_int_of (l m : List Int) (hl : l.length ≤ 9223372036854775807) (he : l.length = m.length) (d : Nat) : ∀ (k i : Nat), i + d = l.length → d < k → slices_Equal_int_int.l0 k l m (l.length : Int) (i : Int) = some (decide (l.drop i = m.drop i)) := by
  induction d with
  | zero =>
    intro k i hi hk
    obtain ⟨k, rfl⟩ : ∃ n, k = n + 1 := ⟨k - 1, by omega⟩
    simp only [slices_Equal_int_int.l0]
    rw [if_neg (by omega), List.drop_eq_nil_of_le (by omega), List.drop_eq_nil_of_le (by omega)]
    rfl
  | succ d ih =>
    intro k i hi hk
    obtain ⟨k, rfl⟩ : ∃ n, k = n + 1 := ⟨k - 1, by omega⟩
    simp only [slices_Equal_int_int.l0]
    have h1 : i < l.length := by omega
    have h2 : i < m.length := by omega
    rw [if_pos (by omega), if_pos (by omega), if_pos (by omega), if_pos (by omega)]
    have hr1 : rd l (i : Int) = l[i] := by unfold rd; rw [Int.toNat_natCast, List.getD_eq_getElem?_getD, List.getElem?_eq_getElem h1]; rfl
    have hr2 : rd m (i : Int) = m[i] := by unfold rd; rw [Int.toNat_natCast, List.getD_eq_getElem?_getD, List.getElem?_eq_getElem h2]; rfl
    have e1 := List.drop_eq_getElem_cons h1
    have e2 := List.drop_eq_getElem_cons h2
    rw [hr1, hr2]
    by_cases h : l[i] = m[i]
    · rw [if_pos h, show wrap64 ((i : Int) + 1) = ((i + 1 : Nat) : Int) by unfold wrap64; omega, ih k (i + 1) (by omega) (by omega), e1, e2, h]
      simp only [List.cons.injEq, true_and]
    · rw [if_neg h, e1, e2]
      simp only [List.cons.injEq, h, false_and, decide_false]
theorem equal_int (l m : List Int) (hl : l.length ≤ 9223372036854775807) : slices_Equal_int_int.f (l.length + 1) l m = some (decide (l = m)) := by
  unfold slices_Equal_int_int.f
  by_cases h : l.length = m.length
  · rw [if_pos (by omega)]
    have := equal_int_of l m hl h l.length (l.length + 1) 0 (by omega) (by omega)
    simpa using this
  · rw [if_neg (by omega)]
    rw [decide_eq_false (fun e => h (by rw [e]))]
theorem alikeB_eq (x y : ItemK) : alikeB x y = ((x.f0.toList == y.f0.toList) && ((x.f1.toList == y.f1.toList) && ((x.f2 == y.f2) && ((x.f3 == y.f3) && ((x.f4 == y.f4) && ((x.f5 == y.f5) && ((x.f6 == y.f6) && decide (x.f7 = y.f7)))))))) := by
  unfold alikeB
  rw [show decide (x.f0.toList = y.f0.toList) = (x.f0.toList == y.f0.toList) from by rw [Bool.eq_iff_iff]; simp]
  rw [show decide (x.f1.toList = y.f1.toList) = (x.f1.toList == y.f1.toList) from by rw [Bool.eq_iff_iff]; simp]
  rfl
theorem way_ (a : Bool) {p : Prop} (h : p) : a = false ∨ (a = true ∧ p) := by
  cases a
  · exact .inl rfl
  · exact .inr ⟨rfl, h⟩
set_option maxHeartbeats 8000000 in
theorem alike_walk (W : World) (x y : ItemK) (cs ds : List Value) (h0 : k56.K W x cs) (h1 : k56.K W y ds) : Calls Tryz.prog 142 (#[.agg cs.toArray, .agg ds.toArray] ++ #[]) W fun e W' => e = .returned (.bool (alikeB x y)) ∧ Below W.heap.size W W' := by
  obtain ⟨A7, c7, rfl, l7, g7⟩ := k56_open h0
  obtain ⟨B7, d7, rfl, m7, j7⟩ := k56_open h1
  have HC := Aside0.mk (fun (w2 : World) (hb : Below W.heap.size W w2) => slices_Equal_int_int.calls (x.f7.length + 1) A7 c7 x.f7 B7 d7 y.f7 _ w2 (Kd.C_below g7 hb) l7 (Kd.C_below j7 hb) m7 (equal_int x.f7 y.f7 (Kd.C_max g7)))
  rw [alikeB_eq]
  clear h0 h1 g7 j7 l7 m7
  obtain ⟨x0, x1, x2, x3, x4, x5, x6, x7⟩ := x
  obtain ⟨y0, y1, y2, y3, y4, y5, y6, y7⟩ := y
  dsimp only at HC ⊢
  have HB := Aside0.mk (below_alloc (below_alloc (Below.refl W.heap.size W) (.cells #[.string x0, .string x1, .bool x2, .bool x3, .int .i64 x4, .int .i64 x5, .int .i64 x6, .slice A7 x7.length c7] 56 (0, 0))) (.cells #[.string y0, .string y1, .bool y2, .bool y3, .int .i64 y4, .int .i64 y5, .int .i64 y6, .slice B7 y7.length d7] 56 (0, 0)))
  rcases way_ (x0.toList == y0.toList) (way_ (x1.toList == y1.toList) (way_ (x2 == y2) (way_ (x3 == y3) (way_ (x4 == y4) (way_ (x5 == y5) (way_ (x6 == y6) trivial)))))) with c | ⟨c, d | ⟨c1, d | ⟨c2, d | ⟨c3, d | ⟨c4, d | ⟨c5, d | ⟨c6, -⟩⟩⟩⟩⟩⟩⟩
  all_goals
    simp only [*, Bool.false_and, Bool.true_and]
    go_enter Tryz.func142, Tryz.ntmps142
    go_wp2_with (go_at_call 170; refine (HC.out _ HB.out).mono ?_; rintro e w' ⟨rfl, hb⟩; replace HB := Aside0.mk (HB.out.trans (hb.below.mono HB.out.size)); clear hb)
    go_ret
    exact ⟨rfl, HB.out⟩
def sagaOf (p : List ItemK) : List BodyK := bodiesF p 64 0
def nameP (p : List ItemK) : ByteArray := (rd_T56 p 0).f0
def rightB (p : List ItemK) : Bool := shapedB p && (checkB (nameP p) (sagaOf p) && eqAll alikeB p (makeL (nameP p) (sagaOf p)))
theorem cell_bel {W W2 : World} {a : Addr} {v : Value} (hb : Below W.heap.size W W2) (h : W.cell? a = some v) : W2.cell? a = some v := (hb.cell (World.block_lt_of_cell? W _ h)).trans h
structure SagaP (W1 w' : World) (v : Value) (g4 : Nat) (l : List BodyK) : Prop where
  below : Below W1.heap.size W1 w'
  saga : w'.heap[g4]? = some (.cells #[.string ⟨#[]⟩, .slice none 0 0] 42 (0, 0))
  old : W1.heap.size ≤ g4
  rows : Kd.R k147 147 w' W1.heap.size (fun k => k ≠ g4) v l
theorem saga_after {W1 w2 : World} {v : Value} {l : List BodyK} (hb : Below W1.drew.heap.size W1.drew w2) (hk : Kd.R k147 147 w2 W1.drew.heap.size (fun _ => True) v l) : SagaP W1 (w2.alloc (.cells #[.string ⟨#[]⟩, .slice none 0 0] 42)) v w2.heap.size l where
  below := ((below_drew (Below.refl W1.heap.size W1)).trans hb).alloc hb.size _
  saga := blk_new _ _
  old := hb.size
  rows := Kd.R_alloc (Kd.R_mono (Kd.R_bound hk) (fun k hk => by have := hk.2.2.1; omega)) _
theorem saga_ahead {W1 w2 : World} {v : Value} {l : List BodyK} (hb : Below (W1.alloc (.cells #[.string ⟨#[]⟩, .slice none 0 0] 42)).drew.heap.size (W1.alloc (.cells #[.string ⟨#[]⟩, .slice none 0 0] 42)).drew w2)
    (hk : Kd.R k147 147 w2 (W1.alloc (.cells #[.string ⟨#[]⟩, .slice none 0 0] 42)).drew.heap.size (fun _ => True) v l) : SagaP W1 w2 v W1.heap.size l where
  below := (below_drew ((Below.refl W1.heap.size W1).alloc (Nat.le_refl _) _)).trans (hb.mono (by simp))
  saga := blk_below (blk_drew (blk_new W1 _)) hb
  old := Nat.le_refl _
  rows := Kd.R_lower (Kd.R_mono (Kd.R_bound hk) (fun k hk => by have h1 := hk.2.1; simp at h1; omega)) (by simp)
def BackP (p : List ItemK) (w : World) (e : Ending) (w' : World) : Prop := Below w.heap.size w w' ∧ (if rightB p then ∃ v, e = .returned (.tuple #[.agg #[.string (nameP p), v], .int .i64 0]) ∧ Kd.R k147 147 w' w.heap.size (fun _ => True) v (sagaOf p) else e = .returned (.tuple #[.agg #[.string ⟨#[]⟩, .slice none 0 0], .int .i64 2]))
set_option maxHeartbeats 16000000 in
set_option maxRecDepth 100000 in
theorem back_walk (A : Option Addr) (c : Nat) (p : List ItemK) (w : World) (hC : k56.C w A p.length p) (hc : p.length ≤ c) (hbig : ∀ x ∈ p, x.f7.length ≤ 1000000) : Calls Tryz.prog 106 #[.agg #[.slice A p.length c]] w (BackP p w) := by
  have HC := Aside0.mk hC
  have HL := Aside0.mk hc
  have HBIG := Aside0.mk hbig
  have HE := Aside0.mk (enters_of Tryz.func142 (P := Tryz.prog) (f := 142) (by kernel_rfl) rfl)
  have HG0 := Aside0.mk (blk_alloc (blk_new w (.cells #[.slice A p.length c] 24 (0, 0))) (.cells #[.string ⟨#[]⟩, .slice none 0 0] 42 (0, 0)))
  have HG1 := Aside0.mk (blk_new (w.alloc (.cells #[.slice A p.length c] 24 (0, 0))) (.cells #[.string ⟨#[]⟩, .slice none 0 0] 42 (0, 0)))
  have HB0 := Aside0.mk (((Below.refl w.heap.size w).alloc (Nat.le_refl _) (.cells #[.slice A p.length c] 24 (0, 0))).alloc (by simp) (.cells #[.string ⟨#[]⟩, .slice none 0 0] 42 (0, 0)))
  rw [show (w.alloc (.cells #[.slice A p.length c] 24 (0, 0))).heap.size = w.heap.size + 1 from by simp] at HG1
  have HC0 := Aside0.mk (Kd.C_below HC.out HB0.out)
  have HSW := Aside0.mk (shaped_walk A c p _ HC0.out hc)
  clear hC hc hbig
  obtain ⟨o, ho⟩ : ∃ o, shapedB p = o := ⟨_, rfl⟩
  have HO := Aside0.mk ho
  rw [ho] at HSW
  clear ho
  go_enter Tryz.func106, Tryz.ntmps106
  cases o with
  | false =>
    go_wp2_with (go_at_call 139; refine HSW.out.mono ?_; rintro e w2 ⟨rfl, hb⟩; have HB2 := Aside0.mk (HB0.out.trans (hb.mono HB0.out.size)); have HG2 := Aside0.mk (blk_below HG1.out hb); have y0 : w2.cell? ⟨w.heap.size + 1, 0, none⟩ = some (.string ⟨#[]⟩) := (blk_cell HG2.out 0).trans rfl; have y1 : w2.cell? ⟨w.heap.size + 1, 1, none⟩ = some (.slice none 0 0) := (blk_cell HG2.out 1).trans rfl; have f0 := blk_frozen HG2.out 0; have f1 := blk_frozen HG2.out 1; clear hb)
    have HR := blk_put (blk_put HG2.out 0 (.string ⟨#[]⟩) rfl) 1 (.slice none 0 0) rfl
    refine bodyPost_ret (results_ct rfl _ _ (w.heap.size + 1) 42 #[.string ⟨#[]⟩, .slice none 0 0] (0, 0) _ rfl HR Tryz.underlying42 rfl (by kernel_rfl)) rfl ?_
    refine ⟨?_, ?_⟩
    · exact (HB2.out.setCell (p := ⟨w.heap.size + 1, 0, none⟩) (by show w.heap.size ≤ w.heap.size + 1; omega) _).setCell (p := ⟨w.heap.size + 1, 1, none⟩) (by show w.heap.size ≤ w.heap.size + 1; omega) _
    · rw [show rightB p = false from by unfold rightB; rw [HO.out]; rfl]
      rfl
  | true =>
    have HSL := Aside0.mk (shaped_len HO.out)
    go_wp2_with (go_at_call 139; refine HSW.out.mono ?_; rintro e w2 ⟨rfl, hb⟩; have HB2 := Aside0.mk (HB0.out.trans (hb.mono HB0.out.size)); have HG2 := Aside0.mk (blk_below HG1.out hb); have HGA := Aside0.mk (blk_below HG0.out hb); clear hb)
    have HC2 := Aside0.mk (Kd.C_below HC.out HB2.out)
    obtain ⟨ad, A7, c7, e0, z0, _⟩ := at_T56 HC2.out 0 (by omega) (by have := HSL.out.1; omega)
    subst e0
    have HX0 : Aside0 (w2.drew.cell? ad = some (.string (nameP p))) := ⟨by have h : w2.drew.cell? (ad.add ((0 : Int).toNat * 8)) = _ := z0; rw [show (0 : Int).toNat * 8 = 0 from rfl, show ad.add 0 = ad from by simp [Addr.add]] at h; exact h⟩
    have HWB : Aside0 (∀ W : World, k56.C W (some ad) p.length p → Calls Tryz.prog 140 #[.agg #[.slice (some ad) p.length c], .int .i64 0] W (BodiesP p 64 0 W)) := ⟨fun W h => planBodies_walk p HO.out HBIG.out 64 (some ad) c 0 W h HL.out HSL.out.1 (by have := HSL.out.2; omega)⟩
    have hp0 : (0 : Int) < (p.length : Int) := by have := HSL.out.1; omega
    have hp1 : 0 < p.length := HSL.out.1
    clear z0
    --MARK3
    refine start_ (n := 10) (S := fun w' => w'.cell? ⟨w.heap.size, 0, none⟩ = some (.slice (some ad) p.length c) ∧ w'.cell? ad = some (.string (nameP p))) (ds := [9]) #[false, false, false, false, false, false, false, false, false, false] (by kernel_rfl) rfl rfl ⟨((blk_cell (blk_drew HGA.out) 0).trans rfl), HX0.out⟩ (fun hHeld => ?_)
    refine pure_ (i := 0) (N := some 11) (v := ?_) (a' := ?_) #[true, false, false, false, false, false, false, false, false, false] rfl rfl (by kernel_rfl) (fun _ _ _ h => h) (Or.inl ⟨by rfl, ?_⟩) ?_ ?_
    rotate_left
    · intro w'
      go_simp
      with_reducible rfl
    rotate_left
    · simp only [Act.put, List.setIfInBounds_toArray, List.set_cons_zero, List.set_cons_succ, i64_w, i32_w]
      rfl
    refine take_ (i := 1) (N := some 12) (v := ?_) (a' := ?_) #[true, true, false, false, false, false, false, false, false, false] rfl rfl (by kernel_rfl) (fun _ _ _ h => h) (Or.inl ⟨by rfl, ?_⟩) hHeld ?_ ?_
    rotate_left
    · rintro w' ⟨s0, s1⟩
      go_simp
      with_reducible rfl
    rotate_left
    · simp only [Act.put, List.setIfInBounds_toArray, List.set_cons_zero, List.set_cons_succ, i64_w, i32_w]
      rfl
    refine pure_ (i := 2) (N := some 13) (v := ?_) (a' := ?_) #[true, true, true, false, false, false, false, false, false, false] rfl rfl (by kernel_rfl) (fun _ _ _ h => h) (Or.inl ⟨by rfl, ?_⟩) ?_ ?_
    rotate_left
    · intro w'
      go_simp
      with_reducible rfl
    rotate_left
    · simp only [Act.put, List.setIfInBounds_toArray, List.set_cons_zero, List.set_cons_succ, i64_w, i32_w]
      rfl
    refine pure_ (i := 3) (N := some 14) (v := ?_) (a' := ?_) #[true, true, true, true, false, false, false, false, false, false] rfl rfl (by kernel_rfl) (fun _ _ _ h => h) (Or.inl ⟨by rfl, ?_⟩) ?_ ?_
    rotate_left
    · intro w'
      go_simp
      with_reducible rfl
    rotate_left
    · simp only [Act.put, List.setIfInBounds_toArray, List.set_cons_zero, List.set_cons_succ, i64_w, i32_w]
      rfl
    refine take_ (i := 4) (N := some 15) (v := ?_) (a' := ?_) #[true, true, true, true, true, false, false, false, false, false] rfl rfl (by kernel_rfl) (fun _ _ _ h => h) (Or.inl ⟨by rfl, ?_⟩) hHeld ?_ ?_
    rotate_left
    · rintro w' ⟨s0, s1⟩
      go_simp
      with_reducible rfl
    rotate_left
    · simp only [Act.put, List.setIfInBounds_toArray, List.set_cons_zero, List.set_cons_succ, i64_w, i32_w]
      rfl
    refine take_ (i := 5) (N := some 16) (v := ?_) (a' := ?_) #[true, true, true, true, true, true, false, false, false, false] rfl rfl (by kernel_rfl) (fun _ _ _ h => h) (Or.inl ⟨by rfl, ?_⟩) hHeld ?_ ?_
    rotate_left
    · rintro w' ⟨s0, s1⟩
      go_simp
      with_reducible rfl
    rotate_left
    · simp only [Act.put, List.setIfInBounds_toArray, List.set_cons_zero, List.set_cons_succ, i64_w, i32_w]
      rfl
    refine join_ (σ := Option Addr × Nat × Nat) 1 #[true, true, true, true, true, true, true, true, true, false] (fun s => [(17, .slice s.1 (sagaOf p).length s.2.1), (4, .pointer (some ⟨s.2.2, 0, none⟩)), (18, .agg #[.string (nameP p), .slice s.1 (sagaOf p).length s.2.1])]) (fun s w' => SagaP w2 w' (.slice s.1 (sagaOf p).length s.2.1) s.2.2 (sagaOf p)) ?_ ?_
    rotate_left
    · intro hCont
      refine two_ (i := 6) (j := 8) (Ni := some 17) (Nj := some 4) #[true, true, true, true, true, true, true, false, false, false] #[true, true, true, true, true, true, false, false, true, false] rfl rfl rfl rfl (by kernel_rfl) (by decide) (by decide) (fun K hK => ?_) (fun K hK => ?_)
      · skip
        refine goes_ Tryz.func140 (by kernel_rfl) rfl #[.agg #[.slice (some ad) p.length c], .int .i64 0] (by rfl) rfl rfl (by first | rfl | (simp only [List.map_toArray, List.map_cons, List.map_nil]; rfl)) ?_
        with_reducible refine ((HWB.out w2.drew (Kd.C_drew HC2.out))).mono ?_
        rintro e w3 ⟨hb, vk, rfl, hK2⟩
        refine ⟨_, rfl, ?_⟩
        rw [show bodiesF p 64 0 = sagaOf p from rfl] at hK2
        obtain ⟨Ak, ck, rfl⟩ := Kd.R_slice hK2
        have HBK := Aside0.mk hb
        have HK2 := Aside0.mk hK2
        clear hb hK2
        refine hK.out _ _ ⟨(cell_bel HBK.out hHeld.1), (cell_bel HBK.out hHeld.2)⟩ (fun hHeld => ?_)
        clear hK K
        refine norm_ (a' := ?_) ?_ ?_
        rotate_left
        · show Act.put _ (some 17) _ = _
          simp only [Act.put, List.setIfInBounds_toArray, List.set_cons_zero, List.set_cons_succ, i64_w, i32_w]
          rfl
        refine pure_ (i := 7) (N := some 18) (v := ?_) (a' := ?_) #[true, true, true, true, true, true, true, true, false, false] rfl rfl (by kernel_rfl) (fun _ _ _ h => h) (Or.inl ⟨by rfl, ?_⟩) ?_ ?_
        rotate_left
        · intro w'
          go_simp
          with_reducible rfl
        rotate_left
        · simp only [Act.put, List.setIfInBounds_toArray, List.set_cons_zero, List.set_cons_succ, i64_w, i32_w]
          rfl
        refine one_ (i := 8) (N := some 4) #[true, true, true, true, true, true, true, true, true, false] rfl rfl (by kernel_rfl) (by decide) (fun K hK => ?_)
        refine value_ (w1 := ?_) (v := ?_) (by rfl) rfl ?_ ?_
        rotate_left 2
        · go_simp
          constructor
          · rfl
          · rfl
        refine hK.out _ _ ⟨(cell_al hHeld.1), (cell_al hHeld.2)⟩ (fun hHeld => ?_)
        clear hK K
        refine norm_ (a' := ?_) ?_ ?_
        rotate_left
        · show Act.put _ (some 4) _ = _
          simp only [Act.put, List.setIfInBounds_toArray, List.set_cons_zero, List.set_cons_succ, i64_w, i32_w]
          rfl
        exact norm_ (by simp only [putAll, Act.put, List.setIfInBounds_toArray, List.set_cons_zero, List.set_cons_succ]) (hCont (Ak, ck, w3.heap.size) _ (saga_after HBK.out HK2.out))
      · skip
        refine value_ (w1 := ?_) (v := ?_) (by rfl) rfl ?_ ?_
        rotate_left 2
        · go_simp
          constructor
          · rfl
          · rfl
        refine hK.out _ _ ⟨(cell_al hHeld.1), (cell_al hHeld.2)⟩ (fun hHeld => ?_)
        clear hK K
        refine norm_ (a' := ?_) ?_ ?_
        rotate_left
        · show Act.put _ (some 4) _ = _
          simp only [Act.put, List.setIfInBounds_toArray, List.set_cons_zero, List.set_cons_succ, i64_w, i32_w]
          rfl
        refine one_ (i := 6) (N := some 17) #[true, true, true, true, true, true, true, false, true, false] rfl rfl (by kernel_rfl) (by decide) (fun K hK => ?_)
        refine goes_ Tryz.func140 (by kernel_rfl) rfl #[.agg #[.slice (some ad) p.length c], .int .i64 0] (by rfl) rfl rfl (by first | rfl | (simp only [List.map_toArray, List.map_cons, List.map_nil]; rfl)) ?_
        with_reducible refine ((HWB.out _ (Kd.C_drew (Kd.C_alloc HC2.out _)))).mono ?_
        rintro e w3 ⟨hb, vk, rfl, hK2⟩
        refine ⟨_, rfl, ?_⟩
        rw [show bodiesF p 64 0 = sagaOf p from rfl] at hK2
        obtain ⟨Ak, ck, rfl⟩ := Kd.R_slice hK2
        have HBK := Aside0.mk hb
        have HK2 := Aside0.mk hK2
        clear hb hK2
        refine hK.out _ _ ⟨(cell_bel HBK.out hHeld.1), (cell_bel HBK.out hHeld.2)⟩ (fun hHeld => ?_)
        clear hK K
        refine norm_ (a' := ?_) ?_ ?_
        rotate_left
        · show Act.put _ (some 17) _ = _
          simp only [Act.put, List.setIfInBounds_toArray, List.set_cons_zero, List.set_cons_succ, i64_w, i32_w]
          rfl
        refine pure_ (i := 7) (N := some 18) (v := ?_) (a' := ?_) #[true, true, true, true, true, true, true, true, true, false] rfl rfl (by kernel_rfl) (fun _ _ _ h => h) (Or.inl ⟨by rfl, ?_⟩) ?_ ?_
        rotate_left
        · intro w'
          go_simp
          with_reducible rfl
        rotate_left
        · simp only [Act.put, List.setIfInBounds_toArray, List.set_cons_zero, List.set_cons_succ, i64_w, i32_w]
          rfl
        exact norm_ (by simp only [putAll, Act.put, List.setIfInBounds_toArray, List.set_cons_zero, List.set_cons_succ]) (hCont (Ak, ck, w2.heap.size) _ (saga_ahead HBK.out HK2.out))
    rintro ⟨Ak, ck, g4⟩ W6 HF6
    have HKP : Aside0 (SagaP w2 W6 (.slice Ak (sagaOf p).length ck) g4 (sagaOf p)) := ⟨HF6⟩
    have q0 := (blk_cell HKP.out.saga 0).trans rfl
    have q1 := (blk_cell HKP.out.saga 1).trans rfl
    have y0 := blk_frozen HKP.out.saga 0
    have y1 := blk_frozen HKP.out.saga 1
    clear HF6
    refine norm_ (a' := ?_) ?_ ?_
    rotate_left
    · simp only [putAll, Act.put, List.setIfInBounds_toArray, List.set_cons_zero, List.set_cons_succ]
      rfl
    refine last_ (i := 9) (N := none) #[true, true, true, true, true, true, true, true, true, true] rfl rfl (by kernel_rfl) (by decide) (fun K hK => ?_)
    refine skip_ (w1 := ?_) (by rfl) rfl ?_ ?_
    rotate_left
    · go_simp
      rfl
    refine hK.out _ _ ?_
    clear hK K
    refine done_ (by kernel_rfl) ?_
    --END3
    have HK6 := Aside0.mk HKP.out
    have HG4 := Aside0.mk (blk_put (blk_put HK6.out.saga 0 (.string (nameP p)) rfl) 1 (.slice Ak (sagaOf p).length ck) rfl)
    have HK7 := Aside0.mk (Kd.R_far (p := ⟨g4, 1, none⟩) (Kd.R_far (p := ⟨g4, 0, none⟩) HK6.out.rows (fun _ hk => hk) (.string (nameP p))) (fun _ hk => hk) (.slice Ak (sagaOf p).length ck))
    have HB7 := Aside0.mk (((HB2.out.trans (HK6.out.below.mono HB2.out.size)).setCell (p := ⟨g4, 0, none⟩) (Nat.le_trans HB2.out.size HK6.out.old) (.string (nameP p))).setCell (p := ⟨g4, 1, none⟩) (Nat.le_trans HB2.out.size HK6.out.old) (.slice Ak (sagaOf p).length ck))
    have HR7 := Aside0.mk ((Below.heap_setCell (W6.setCell ⟨g4, 0, none⟩ (.string (nameP p))) ⟨g4, 1, none⟩ (.slice Ak (sagaOf p).length ck) (w.heap.size + 1) (by have h1 := blk_lt HG2.out; have h2 := HK6.out.old; show w.heap.size + 1 ≠ g4; omega)).trans ((Below.heap_setCell W6 ⟨g4, 0, none⟩ (.string (nameP p)) (w.heap.size + 1) (by have h1 := blk_lt HG2.out; have h2 := HK6.out.old; show w.heap.size + 1 ≠ g4; omega)).trans (blk_below HG2.out HK6.out.below)))
    have HP7 := Aside0.mk ((Below.heap_setCell (W6.setCell ⟨g4, 0, none⟩ (.string (nameP p))) ⟨g4, 1, none⟩ (.slice Ak (sagaOf p).length ck) w.heap.size (by have h1 := blk_lt HGA.out; have h2 := HK6.out.old; show w.heap.size ≠ g4; omega)).trans ((Below.heap_setCell W6 ⟨g4, 0, none⟩ (.string (nameP p)) w.heap.size (by have h1 := blk_lt HGA.out; have h2 := HK6.out.old; show w.heap.size ≠ g4; omega)).trans (blk_below HGA.out HK6.out.below)))
    clear q0 q1 y0 y1 hHeld HK6 HKP
    generalize (W6.setCell ⟨g4, 0, none⟩ (.string (nameP p))).setCell ⟨g4, 1, none⟩ (.slice Ak (sagaOf p).length ck) = W7 at HG4 HK7 HB7 HR7 HP7 ⊢
    have q0 : W7.cell? ⟨g4, 0, none⟩ = some (.string (nameP p)) := (blk_cell HG4.out 0).trans rfl
    have q1 : W7.cell? ⟨g4, 1, none⟩ = some (.slice Ak (sagaOf p).length ck) := (blk_cell HG4.out 1).trans rfl
    have HMK := Aside0.mk (make_walk (nameP p) Ak ck (sagaOf p) W7 (Kd.R_reads' HK7.out).2.2 (Kd.R_reads' HK7.out).2.1)
    have HKR : Aside0 (∀ W, Below W7.heap.size W7 W → Kd.R k147 147 W w.heap.size (fun _ => True) (.slice Ak (sagaOf p).length ck) (sagaOf p)) := ⟨fun W h => Kd.R_lower (Kd.R_mono (Kd.R_below HK7.out h) (fun _ _ => trivial)) HB2.out.size⟩
    obtain ⟨o2, ho2⟩ : ∃ o, checkB (nameP p) (sagaOf p) = o := ⟨_, rfl⟩
    have HO2 := Aside0.mk ho2
    clear ho2
    have hfs : ∀ W : World, Below W7.heap.size W7 W → W.cell? ⟨g4, 0, none⟩ = some (.string (nameP p)) ∧ W.cell? ⟨g4, 1, none⟩ = some (.slice Ak (sagaOf p).length ck) ∧ W.heap[w.heap.size + 1]? = some (.cells #[.string ⟨#[]⟩, .slice none 0 0] 42 (0, 0)) ∧ W.heap[w.heap.size]? = some (.cells #[.slice (some ad) p.length c] 24 (0, 0)) := fun W h => ⟨cell_bel h q0, cell_bel h q1, blk_below HR7.out h, blk_below HP7.out h⟩
    have HFS := Aside0.mk hfs
    clear hfs
    cases o2 with
    | false =>
      go_wp2_with (go_at_call 16; refine HMK.out.mono ?_; rintro e w8 ⟨hb, he⟩; rw [HO2.out, if_neg (by simp)] at he; subst he; have HB8 := Aside0.mk hb; have HGR := Aside0.mk (HFS.out _ hb).2.2.1; have HGP := Aside0.mk (HFS.out _ hb).2.2.2; have y0 : w8.cell? ⟨w.heap.size + 1, 0, none⟩ = some (.string ⟨#[]⟩) := (blk_cell HGR.out 0).trans rfl; have y1 : w8.cell? ⟨w.heap.size + 1, 1, none⟩ = some (.slice none 0 0) := (blk_cell HGR.out 1).trans rfl; have f0 := blk_frozen HGR.out 0; have f1 := blk_frozen HGR.out 1; have p0 : w8.cell? ⟨w.heap.size, 0, none⟩ = some (.slice (some ad) p.length c) := (blk_cell HGP.out 0).trans rfl; have hn1 : w.heap.size + 1 < w8.heap.size := blk_lt HGR.out; have hn2 : ¬ (w.heap.size + 1 = w8.heap.size) := (by omega); have hn3 : ¬ (w8.heap.size = w.heap.size + 1) := (by omega); have hn4 : w.heap.size < w8.heap.size := (by omega); have hn5 : ¬ (w.heap.size = w8.heap.size) := (by omega); clear hb q0 q1)
      have HR := blk_alloc (blk_put (blk_put HGR.out 0 (.string ⟨#[]⟩) rfl) 1 (.slice none 0 0) rfl) (.cells #[.slice none 0 0] 24 (0, 0))
      refine bodyPost_ret (results_ct rfl _ _ (w.heap.size + 1) 42 #[.string ⟨#[]⟩, .slice none 0 0] (0, 0) _ rfl HR Tryz.underlying42 rfl (by kernel_rfl)) rfl ?_
      refine ⟨?_, ?_⟩
      · have h1 := ((HB7.out.trans (HB8.out.mono HB7.out.size)).setCell (p := ⟨w.heap.size + 1, 0, none⟩) (by show w.heap.size ≤ w.heap.size + 1; omega) (.string ⟨#[]⟩)).setCell (p := ⟨w.heap.size + 1, 1, none⟩) (by show w.heap.size ≤ w.heap.size + 1; omega) (.slice none 0 0)
        exact h1.alloc h1.size _
      · rw [show rightB p = false from by unfold rightB; rw [HO2.out, Bool.false_and, Bool.and_false]]
        rfl
    | true =>
      obtain ⟨o3, ho3⟩ : ∃ o, eqAll alikeB p (makeL (nameP p) (sagaOf p)) = o := ⟨_, rfl⟩
      have HO3 := Aside0.mk ho3
      clear ho3
      cases o3
      all_goals
        go_wp2_with (first
          | (go_at_call 16; refine HMK.out.mono ?_; rintro e w8 ⟨hb, he⟩; rw [HO2.out, if_pos rfl] at he; obtain ⟨vM, rfl, hSM⟩ := he; have hRM := Kd.S_R hSM; obtain ⟨AM, cM, rfl⟩ := Kd.R_slice hRM; have HB8 := Aside0.mk hb; have HGR := Aside0.mk (HFS.out _ hb).2.2.1; have HGP := Aside0.mk (HFS.out _ hb).2.2.2; have p0 : w8.cell? ⟨w.heap.size, 0, none⟩ = some (.slice (some ad) p.length c) := (blk_cell HGP.out 0).trans rfl
             have HCP : Aside0 (∀ W, Below w8.heap.size w8 W → k56.C W (some ad) p.length p ∧ k56.C W AM (makeL (nameP p) (sagaOf p)).length (makeL (nameP p) (sagaOf p))) := ⟨fun W h => ⟨Kd.C_below (Kd.C_below HC.out (HB7.out.trans (hb.mono HB7.out.size))) h, Kd.C_below (Kd.R_reads' hRM).2.2 h⟩⟩
             have hn1 : w.heap.size + 1 < w8.heap.size := blk_lt HGR.out; have hn2 : ¬ (w.heap.size + 1 = w8.heap.size) := (by omega); have hn3 : ¬ (w8.heap.size = w.heap.size + 1) := (by omega); have hn4 : w.heap.size < w8.heap.size := (by omega); have hn5 : ¬ (w.heap.size = w8.heap.size) := (by omega); clear hb q0 q1 hRM hSM)
          | (go_at_call 141; refine (equal_func_item 142 #[] HE.out alikeB (some ad) AM c cM p (makeL (nameP p) (sagaOf p)) _ (HCP.out _ ((Below.refl _ _).alloc (Nat.le_refl _) _)).1 (HCP.out _ ((Below.refl _ _).alloc (Nat.le_refl _) _)).2 (fun i h0 h1 W hW cs ds h2 h3 => alike_walk W _ _ cs ds h2 h3)).mono ?_; rintro e w9 ⟨rfl, hb⟩; rw [HO3.out]
             have HB9 := Aside0.mk ((HB8.out.alloc HB8.out.size (.cells #[.slice AM (makeL (nameP p) (sagaOf p)).length cM] 24 (0, 0))).trans (hb.mono (by have := HB8.out.size; simp; omega)))
             have HFS9 := Aside0.mk (HFS.out _ HB9.out); have r0 : w9.cell? ⟨w.heap.size + 1, 0, none⟩ = some (.string ⟨#[]⟩) := (blk_cell HFS9.out.2.2.1 0).trans rfl; have r1 : w9.cell? ⟨w.heap.size + 1, 1, none⟩ = some (.slice none 0 0) := (blk_cell HFS9.out.2.2.1 1).trans rfl; have f0 := blk_frozen HFS9.out.2.2.1 0; have f1 := blk_frozen HFS9.out.2.2.1 1; have g0 := HFS9.out.1; have g1 := HFS9.out.2.1; clear hb p0 hn1 hn2 hn3 hn4 hn5))
      · have HR := blk_put (blk_put HFS9.out.2.2.1 0 (.string ⟨#[]⟩) rfl) 1 (.slice none 0 0) rfl
        refine bodyPost_ret (results_ct rfl _ _ (w.heap.size + 1) 42 #[.string ⟨#[]⟩, .slice none 0 0] (0, 0) _ rfl HR Tryz.underlying42 rfl (by kernel_rfl)) rfl ?_
        refine ⟨?_, ?_⟩
        · exact ((HB7.out.trans (HB9.out.mono HB7.out.size)).setCell (p := ⟨w.heap.size + 1, 0, none⟩) (by show w.heap.size ≤ w.heap.size + 1; omega) (.string ⟨#[]⟩)).setCell (p := ⟨w.heap.size + 1, 1, none⟩) (by show w.heap.size ≤ w.heap.size + 1; omega) (.slice none 0 0)
        · rw [show rightB p = false from by unfold rightB; rw [HO3.out, Bool.and_false, Bool.and_false]]
          rfl
      · have HR := blk_put (blk_put HFS9.out.2.2.1 0 (.string (nameP p)) rfl) 1 (.slice Ak (sagaOf p).length ck) rfl
        refine bodyPost_ret (results_ct rfl _ _ (w.heap.size + 1) 42 #[.string (nameP p), .slice Ak (sagaOf p).length ck] (0, 0) _ rfl HR Tryz.underlying42 rfl (by kernel_rfl)) rfl ?_
        refine ⟨?_, ?_⟩
        · exact ((HB7.out.trans (HB9.out.mono HB7.out.size)).setCell (p := ⟨w.heap.size + 1, 0, none⟩) (by show w.heap.size ≤ w.heap.size + 1; omega) (.string (nameP p))).setCell (p := ⟨w.heap.size + 1, 1, none⟩) (by show w.heap.size ≤ w.heap.size + 1; omega) (.slice Ak (sagaOf p).length ck)
        · rw [show rightB p = true from by unfold rightB; rw [HO.out, HO2.out, HO3.out]; rfl, if_pos rfl]
          refine ⟨_, rfl, ?_⟩
          have hlt := blk_lt HG2.out
          have h1 := Kd.R_mono (Kd.R_bound (Kd.R_below HK7.out HB9.out)) (fun k hk => (by have := hk.2.1; omega : k ≠ w.heap.size + 1))
          exact Kd.R_mono (Kd.R_lower (Kd.R_far (p := ⟨w.heap.size + 1, 1, none⟩) (Kd.R_far (p := ⟨w.heap.size + 1, 0, none⟩) h1 (fun _ hk => hk) _) (fun _ hk => hk) _) HB2.out.size) (fun _ _ => trivial)
set_option maxHeartbeats 8000000 in
set_option maxRecDepth 100000 in
theorem right_walk (A : Option Addr) (c : Nat) (p : List ItemK) (w : World) (hC : k56.C w A p.length p) (hc : p.length ≤ c) (hbig : ∀ x ∈ p, x.f7.length ≤ 1000000) : Calls Tryz.prog 72 #[.agg #[.slice A p.length c]] w fun e w' => e = .returned (.bool (rightB p)) ∧ Below w.heap.size w w' := by
  have HB0 := Aside0.mk ((Below.refl w.heap.size w).alloc (Nat.le_refl _) (.cells #[.slice A p.length c] 24 (0, 0)))
  have HBK := Aside0.mk (back_walk A c p _ (Kd.C_below hC HB0.out) hc hbig)
  clear hC hc hbig
  obtain ⟨o, ho⟩ : ∃ o, rightB p = o := ⟨_, rfl⟩
  have HO := Aside0.mk ho
  clear ho
  go_enter Tryz.func72, Tryz.ntmps72
  cases o with
  | false =>
    go_wp2_with (go_at_call 106; refine HBK.out.mono ?_; rintro e w2 ⟨hb, he⟩; rw [HO.out, if_neg (by simp)] at he; subst he; have HB2 := Aside0.mk (HB0.out.trans (hb.mono (by simp))); clear hb)
    go_ret
    exact ⟨by rw [HO.out]; rfl, HB2.out.alloc HB2.out.size _⟩
  | true =>
    go_wp2_with (go_at_call 106; refine HBK.out.mono ?_; rintro e w2 ⟨hb, he⟩; rw [HO.out, if_pos rfl] at he; obtain ⟨vB, rfl, hR⟩ := he; obtain ⟨AB, cB, rfl⟩ := Kd.R_slice hR; have HB2 := Aside0.mk (HB0.out.trans (hb.mono (by simp))); clear hb hR)
    go_ret
    exact ⟨by rw [HO.out]; rfl, HB2.out.alloc HB2.out.size _⟩
def plan_Right.f (l0 : List S56) : Option Bool := if l0.all (fun x => decide (x.f7.length ≤ 1000000)) then some (rightB l0) else none
theorem plan_Right.calls (A0 : Option Addr) (c0 : Nat) (l0 : List S56) (r : Bool) (w : World) (hr0 : Kd.C k56 w A0 l0.length l0) (hc0 : l0.length ≤ c0) (h : plan_Right.f l0 = some r) :
    Calls Tryz.prog 72 #[.agg #[.slice A0 l0.length c0]] w fun e w' => e = .returned (.bool r) ∧ Below w.heap.size w w' := by
  unfold plan_Right.f at h
  split at h
  · rename_i hb
    obtain rfl := Option.some.inj h
    rw [List.all_eq_true] at hb
    exact right_walk A0 c0 l0 w hr0 hc0 (fun x hx => by simpa using hb x hx)
  · cases h
end Go.Proofs.YtokekdhmhfoliaaGreat.F
end

section
namespace Go.Proofs.YtokekdhmhfoliaaGreat.F
open Go.RowKit Go.Proofs.YtokekdhmhfoliaaGreatW.PrintWords Go.Proofs.YtokekdhmhfoliaaGreatW.PrintLast Go.Proofs.YtokekdhmhfoliaaGreatW.PrintMore
attribute [local go_sem] max2_int min2_int max_two min_two max_three min_three max_four min_four
set_option linter.unusedVariables false
set_option linter.unusedSimpArgs false
structure ViewAt (w : World) (g : Nat) (p : List S56) (A : Option Addr) (c : Nat) : Prop where
 blk : w.heap[g]? = some (.cells #[.slice A p.length c] 137 (0, 0))
 pl : Kd.C k56 w A p.length p
theorem ViewAt.below {w w' : World} {g : Nat} {p : List S56} {A : Option Addr} {c : Nat} (h : ViewAt w g p A c) (hb : Below w.heap.size w w') : ViewAt w' g p A c := ⟨blk_below h.blk hb, Kd.C_below h.pl hb⟩
theorem ViewAt.cell {w : World} {g : Nat} {p : List S56} {A : Option Addr} {c : Nat} (h : ViewAt w g p A c) : w.cell? ⟨g, 0, none⟩ = some (.slice A p.length c) := (blk_cell h.blk 0).trans rfl
def hasB (p : List S56) (i : Int) : Bool := decide (0 ≤ i) && decide (i < (p.length : Int))
section
variable {w : World} {g : Nat} {p : List S56} {A : Option Addr} {c : Nat}
theorem has_walk (h : ViewAt w g p A c) (i : Int) : Calls Tryz.prog 76 #[.pointer (some ⟨g, 0, none⟩), .int .i64 i] w fun e w' => e = .returned (.bool (hasB p i)) ∧ w' = w := by
 have y0 := h.cell
 unfold hasB
 clear h
 by_cases h0 : 0 ≤ i
 ·rw [decide_eq_true h0]
  go_enter Tryz.func76, Tryz.ntmps76
  go_wp2
  go_ret
  exact ⟨by simp, rfl⟩
 ·rw [decide_eq_false h0]
  go_enter Tryz.func76, Tryz.ntmps76
  go_wp2
  go_ret
  exact ⟨rfl, rfl⟩
def aboveF (p : List S56) : Nat → Int → List Int
 | 0, _ => []
 | d + 1, k => if 0 ≤ k then k :: aboveF p d (rd_T56 p k).f5 else []
def aboveL (p : List S56) (i : Int) : List Int := if hasB p i then aboveF p (p.length + 1) (rd_T56 p i).f5 else []
def UpP (p : List S56) : Prop := p.length ≤ 64 ∧ ∀ i : Nat, i < p.length → -1 ≤ (rd_T56 p (i : Int)).f5 ∧ (rd_T56 p (i : Int)).f5 < i
set_option maxHeartbeats 8000000 in
set_option maxRecDepth 100000 in
theorem above_walk_ (h : ViewAt w g p A c) (hu : UpP p) (i : Nat) (hi : i < p.length) : Calls Tryz.prog 80 #[.pointer (some ⟨g, 0, none⟩), .int .i64 i] w fun e w' => ∃ v, e = .returned v ∧ Kd.R (Kd.int .i64) 3 w' w.heap.size (fun _ => True) v (aboveL p i) ∧ Below w.heap.size w w' := by
 have HH := Aside0.mk h
 have HHS := Aside0.mk (has_walk h i)
 have HU := Aside0.mk hu.2
 have hb : hasB p (i : Int) = true := by unfold hasB; simp; omega
 rw [hb] at HHS
 have HAL : Aside0 (aboveL p i = aboveF p (p.length + 1) (rd_T56 p (i : Int)).f5) := ⟨by unfold aboveL; rw [hb]; rfl⟩
 have y0 := h.cell
 have hn := hu.1
 have h0 : (0 : Int) ≤ i := by omega
 have h1 : (i : Int) < (p.length : Int) := by omega
 obtain ⟨ai, A7, c7, e1, q0, q1, q2, q3, q4, q5, q6, q7, -, -⟩ := at_T56 h.pl (i : Int) h0 h1
 subst e1
 rw [Int.toNat_natCast] at q5
 obtain ⟨k0, hk0⟩ : ∃ k, (rd_T56 p (i : Int)).f5 = k := ⟨_, rfl⟩
 have hk1 := hu.2 i hi
 rw [hk0] at q5 HAL hk1
 clear q0 q1 q2 q3 q4 q6 q7 hk0 h hu hb
 go_enter Tryz.func80, Tryz.ntmps80
 go_wp2_with (go_at_call 76; refine HHS.out.mono ?_; rintro e w2 ⟨rfl, rfl⟩)
 clear y0 q5
 go_loopg [5, 6] (k0 + 1).toNat (fun kq v5 v6 w' => ∃ (out : List Int) (k : Int) (f : Nat), v6 = .int .i64 k ∧ k + 1 = kq ∧ k < i ∧ out.length + kq ≤ 64 ∧ kq + 1 ≤ f ∧ (∃ A c, v5 = .slice A out.length c) ∧ Aside0 (out ++ aboveF p f k = aboveL p i) ∧ Aside0 (Kd.R (Kd.int .i64) 3 w' w2.heap.size (fun _ => True) v5 out) ∧ Aside0 (Below w2.heap.size w2 w'))
 case atStart => exact ⟨[], k0, p.length + 1, rfl, by omega, by omega, by simp; omega, by omega, ⟨none, 0, rfl⟩, ⟨by rw [HAL.out]; rfl⟩, ⟨Kd.R_nil _ _ _ _ _⟩, ⟨Below.refl _ _⟩⟩
 case round =>
  obtain ⟨out, k, f, rfl, hk, hki, ho64, hf, ⟨A5, c5, rfl⟩, HA, HO, HB⟩ := hrel
  obtain ⟨f, rfl⟩ : ∃ m, f = m + 1 := ⟨f - 1, by omega⟩
  cases gk with
  | zero =>
   obtain rfl : k = -1 := by omega
   have HE : Aside0 (out = aboveL p i) := ⟨by have := HA.out; unfold aboveF at this; rw [if_neg (by omega), List.append_nil] at this; exact this⟩
   clear hk hki ho64 hf HA
   go_wp2
   go_ret
   exact ⟨_, rfl, by rw [← HE.out]; exact HO.out, HB.out⟩
  | succ d =>
   obtain rfl : k = (d : Int) := by omega
   have HA2 : Aside0 ((out ++ [(d : Int)]) ++ aboveF p f (rd_T56 p (d : Int)).f5 = aboveL p i) := ⟨by have := HA.out; unfold aboveF at this; rw [if_pos (by omega)] at this; simpa using this⟩
   have HOL : Aside0 (out.length < 64) := ⟨by omega⟩
   have hd0 : (0 : Int) ≤ d := by omega
   have hd1 : (d : Int) < (p.length : Int) := by omega
   have HK1 := Aside0.mk (HU.out d (by omega))
   obtain ⟨k2, hk2⟩ : ∃ k, (rd_T56 p (d : Int)).f5 = k := ⟨_, rfl⟩
   rw [hk2] at HA2 HK1
   have HK2 := Aside0.mk hk2
   have HF := Aside0.mk hf
   have HKI := Aside0.mk hki
   have HO64 := Aside0.mk ho64
   clear HA hk hki ho64 hf hk2
   go_wp2_with (((with_reducible refine gate_builtin (b := .append) (xs := #[.tmp 31, .tmp 33]) rfl ?_); (try (refine gate_guard (by rfl) ?_; dsimp only)); at_builtin; refine Kd.R_append (Kd.int .i64) (w0 := w2) w2.heap.size rfl (.tmp 31) (.tmp 33) 48 3 (.int .i64 0) 8 rfl Tryz.underlying48 info3_ rfl (by decide) (by omega) (.slice A5 out.length c5) out (d : Int) [.int .i64 (d : Int)] (fun _ => True) (fun _ => False) rfl (by simp [Act.eval]) ?aP (fun _ hk => hk.elim) ?aF ?aO ?aB ?aS ?aL ?_; (case aP => exact rfl); (case aF => exact (fun _ _ => trivial)); (case aO => exact (by (with_reducible repeat (first | apply Kd.R_alloc | apply Kd.R_drewN | apply Kd.R_drew)); exact HO.out)); (case aB => exact HB.out); (case aS => exact HB.out.size); (case aL => have := HOL.out; omega); intro v4 w4 ho hb hg hat; have HO4 := Aside0.mk ho; have HB4 := Aside0.mk hb; obtain ⟨A4, c4, hv4⟩ := Kd.R_slice ho; clear ho hb hg hat; have hv := HH.out.below HB4.out; have z0 := hv.cell; obtain ⟨ai2, A72, c72, e1, q0, q1, q2, q3, q4, q5, q6, q7, -, -⟩ := at_T56 hv.pl (d : Int) hd0 hd1; obtain rfl := Option.some.inj e1; rw [Int.toNat_natCast, HK2.out] at q5; clear q0 q1 q2 q3 q4 q6 q7 hv))
   subst hv4
   go_roundg (k2 + 1).toNat
   case measure => have := HK1.out; omega
   case rel => exact ⟨out ++ [(d : Int)], k2, f, rfl, by have := HK1.out; omega, by have := HK1.out; have := HKI.out; omega, by have := HK1.out; have := HO64.out; simp; omega, by have := HK1.out; have := HF.out; omega, ⟨A4, c4, by simp⟩, HA2, ⟨by have h := HO4.out; simpa using h⟩, HB4⟩
end
def ViewP (p : List S56) (A : Option Addr) (c : Nat) (w : World) (r : Option Nat) (w' : World) : Prop :=
 Below w.heap.size w w' ∧ match r with | some g => rightB p = true ∧ ViewAt w' g p A c ∧ w.heap.size ≤ g | none => rightB p = false
def ptrO : Option Nat → Value
 | none => .pointer none
 | some g => .pointer (some ⟨g, 0, none⟩)
set_option maxHeartbeats 8000000 in
set_option maxRecDepth 100000 in
theorem plan_see_walk (p : List S56) (A : Option Addr) (c : Nat) (w : World) (hp : Kd.C k56 w A p.length p) (hc : p.length ≤ c) (hsm : (p.all fun x => decide (x.f7.length ≤ 1000000)) = true) :
  Calls Tryz.prog 37 #[.agg #[.slice A p.length c]] w fun e w' => ∃ r, e = .returned (.tuple #[ptrO r, .int .i64 (if rightB p then 0 else 2)]) ∧ ViewP p A c w r w' := by
 have HP := Aside0.mk hp
 have HB0 := Aside0.mk (below_alloc (Below.refl w.heap.size w) (.cells #[.slice A p.length c] 24 (0, 0)))
 have HG0 := Aside0.mk (blk_new w (.cells #[.slice A p.length c] 24 (0, 0)))
 have HR := Aside0.mk (fun (W : World) (hb : Below w.heap.size w W) => plan_Right.calls A c p (rightB p) W (Kd.C_below hp hb) hc (by unfold plan_Right.f; rw [if_pos hsm]))
 obtain ⟨v, hv⟩ : ∃ v, rightB p = v := ⟨_, rfl⟩
 have HV := Aside0.mk hv
 rw [hv] at HR ⊢
 clear hp hc hsm hv
 cases v with
 | false =>
  go_enter Tryz.func37, Tryz.ntmps37
  go_wp2_with (go_at_call 72; refine (HR.out _ HB0.out).mono ?_; rintro e w2 ⟨rfl, hb⟩; have HB2 := Aside0.mk (HB0.out.trans (hb.mono HB0.out.size)); clear hb)
  go_ret2
  exact ⟨none, rfl, HB2.out, HV.out⟩
 | true =>
  go_enter Tryz.func37, Tryz.ntmps37
  go_wp2_with (go_at_call 72; refine (HR.out _ HB0.out).mono ?_; rintro e w2 ⟨rfl, hb⟩; have HB2 := Aside0.mk (HB0.out.trans (hb.mono HB0.out.size)); have HG2 := Aside0.mk (blk_below HG0.out hb); clear hb; have x0 : w2.cell? ⟨w.heap.size, 0, none⟩ = some (.slice A p.length c) := (blk_cell HG2.out 0).trans rfl)
  go_ret2
  exact ⟨some w2.heap.size, rfl, below_alloc HB2.out _, HV.out, ⟨blk_new _ _, Kd.C_below HP.out (below_alloc HB2.out _)⟩, HB2.out.size⟩
def leanC (l : List Bool) : Array Value := (l.map fun b => Value.int .i64 (if b then 1 else 0)).toArray
def LeanAt (w : World) (g : Nat) (l : List Bool) : Prop := w.heap[g]? = some (.cells (leanC l) 139 (0, 0))
theorem leanC_at (l : List Bool) (k : Nat) (h : k < l.length) : (leanC l)[k]? = some (.int .i64 (if l.getD k false then 1 else 0)) := by
 unfold leanC
 rw [List.getElem?_toArray, List.getElem?_map, List.getD_eq_getElem?_getD, List.getElem?_eq_getElem h]
 rfl
theorem index_lean (ls : List Bool) (hl : ls.length = 64) (k : Nat) (hk : k < 64) (w : World) : (Instr.index 139 (.agg (leanC ls)) (.int .i64 k)).run Tryz.prog w = .ok (.int .i64 (if ls.getD k false then 1 else 0)) w := by
 have hc := leanC_at ls k (by omega)
 generalize leanC ls = cs at hc ⊢
 have hkk : (k : Int) < 64 := by omega
 simp [Instr.index, run_underlying Tryz.underlying139, asIntOf, hkk, go_sem, hc]
 intro h
 omega
theorem leanC_set (l : List Bool) (k : Nat) (b : Bool) : (leanC l).setIfInBounds k (.int .i64 (if b then 1 else 0)) = leanC (l.set k b) := by
 unfold leanC
 rw [List.setIfInBounds_toArray, List.map_set]
theorem LeanAt.cell {w : World} {g : Nat} {l : List Bool} (h : LeanAt w g l) (k : Nat) (hk : k < l.length) : w.cell? ⟨g, k, none⟩ = some (.int .i64 (if l.getD k false then 1 else 0)) := (blk_cell h k).trans (leanC_at l k hk)
theorem LeanAt.free {w : World} {g : Nat} {l : List Bool} (h : LeanAt w g l) (k : Nat) : w.frozen? ⟨g, k, none⟩ = false := blk_frozen h k
theorem LeanAt.put {w : World} {g : Nat} {l : List Bool} (h : LeanAt w g l) (k : Nat) (b : Bool) {v : Value} (hv : v = .int .i64 (if b then 1 else 0)) : LeanAt (w.setCell ⟨g, k, none⟩ v) g (l.set k b) := by
 subst hv
 exact blk_put h k _ (leanC_set l k b)
def falses (l : List Bool) : Nat := (l.filter fun b => !b).length
theorem falses_set : ∀ (l : List Bool) (k : Nat), k < l.length → l.getD k false = false → falses (l.set k true) + 1 = falses l
 | [], k, h, _ => by simp at h
 | b :: l, 0, _, hb => by
  obtain rfl : b = false := by simpa using hb
  simp [falses]
 | b :: l, k + 1, h, hb => by
  have ih := falses_set l k (by simpa using h) (by simpa using hb)
  unfold falses at *
  cases b <;> simp at * <;> omega
def overOne (p : List S56) (s : List Bool × Bool) (k : Nat) : List Bool × Bool := if s.1.getD k false = false ∧ ((rd_T56 p (k : Int)).f7.any fun j => s.1.getD j.toNat false) = true then (s.1.set k true, true) else s
def overPass (p : List S56) (l : List Bool) : List Bool × Bool := (List.range' 0 p.length).foldl (overOne p) (l, false)
def overF (p : List S56) : Nat → List Bool → List Bool
 | 0, l => l
 | d + 1, l => if (overPass p l).2 then overF p d (overPass p l).1 else (overPass p l).1
def overS (p : List S56) (i : Nat) : List Bool := (overF p 65 ((List.replicate 64 false).set i true)).set i false
def overL (p : List S56) (i : Int) : List Int := if hasB p i then (List.map Int.ofNat ((List.range' 0 64).filter fun (k : Nat) => (overS p i.toNat).getD k false)) else []
theorem over_lit (j : Int) (l : List Bool) (g : Nat) (w : World) (h : LeanAt w g l) (hl : l.length = 64) (h0 : 0 ≤ j) (h1 : j < 64) :
  Calls Tryz.prog 78 (#[.int .i64 j] ++ #[.pointer (some ⟨g, 0, none⟩)]) w fun e w' => e = .returned (.bool (l.getD j.toNat false)) ∧ Below w.heap.size w w' := by
 obtain ⟨n, rfl⟩ := Int.eq_ofNat_of_zero_le h0
 have y0 := h.cell n (by omega)
 rw [Int.toNat_natCast]
 clear h
 show Calls Tryz.prog 78 #[.int .i64 n, .pointer (some ⟨g, 0, none⟩)] w _
 cases hb : l.getD n false
 all_goals
  rw [hb] at y0
  simp only [Bool.false_eq_true, if_false, if_true] at y0
  clear hb
  go_enter Tryz.func78, Tryz.ntmps78
  go_wp2
  go_ret
  exact ⟨rfl, Below.refl _ _⟩
set_option maxHeartbeats 8000000 in
set_option maxRecDepth 100000 in
theorem over_walk_ {w : World} {g : Nat} {p : List S56} {A : Option Addr} {c : Nat} (h : ViewAt w g p A c) (hs : shapedB p = true) (i : Nat) (hi : i < p.length) : Calls Tryz.prog 41 #[.pointer (some ⟨g, 0, none⟩), .int .i64 i] w fun e w' => ∃ v, e = .returned v ∧ Kd.R (Kd.int .i64) 3 w' w.heap.size (fun _ => True) v (overL p i) ∧ Below w.heap.size w w' := by
 have hmf : ∀ (fn : Fn) (first cap : Array Value) (w : World), (Instr.makeFunc fn first cap).run Tryz.prog w = .ok (.func fn first cap) w := fun _ _ _ _ => rfl
 have HE := Aside0.mk (enters_of Tryz.func78 (P := Tryz.prog) (f := 78) (by kernel_rfl) rfl)
 have HH := Aside0.mk h
 have HHS := Aside0.mk (has_walk h i)
 have hn64 := (shaped_len hs).2
 have HJ : Aside0 (∀ k : Nat, k < p.length → ∀ j ∈ (rd_T56 p (k : Int)).f7, 0 ≤ j ∧ j < 64) := ⟨fun k hk j hj => by
  have hrd : rd_T56 p (k : Int) = p[k] := by unfold rd_T56; rw [Int.toNat_natCast, List.getD_eq_getElem?_getD, List.getElem?_eq_getElem hk]; rfl
  rw [hrd] at hj
  have := (itemB_alts (shaped_at hs hk)).2.2 j hj
  omega⟩
 have hb : hasB p (i : Int) = true := by unfold hasB; simp; omega
 rw [hb] at HHS
 obtain ⟨ai, A7, c7, e1, -⟩ := at_T56 h.pl (i : Int) (by omega) (by omega)
 subst e1
 have hi64 : (i : Int) < 64 := by omega
 have hi0 : (0 : Int) ≤ i := by omega
 have HI64 : Aside0 (i < 64) := ⟨by omega⟩
 have HOV : Aside0 (overL p (i : Int) = List.map Int.ofNat ((List.range' 0 64).filter fun (k : Nat) => (overS p i).getD k false)) := ⟨by unfold overL; rw [hb, Int.toNat_natCast]; rfl⟩
 clear hs hi hb h
 go_enter Tryz.func41, Tryz.ntmps41
 go_upto_region 4 with (first
  | (go_at_call 76; refine HHS.out.mono ?_; rintro e w2 ⟨rfl, rfl⟩)
  | ((with_reducible refine gate_dst (N := 5) rfl ?_); refine box_event ?hg (N := 5) ?hd (cs := leanC (List.replicate 64 false)) (t := 139) ?hr ?_; (case hd => rfl); (case hg => rfl); (case hr => first | (go_simp; done) | (go_simp; rfl)); intro gl hgl W0 hbox hb; have HL0' : Aside0 (LeanAt W0 gl (List.replicate 64 false)) := ⟨hbox⟩; have HB0 := Aside0.mk hb; have HGL := Aside0.mk (Nat.le_of_eq hgl.symm); clear hbox hb hgl))
 have y1 := HL0'.out.cell i (by have := HI64.out; simp; omega)
 have f1 := HL0'.out.free i
 go_wp2_with (fail)
 have HF0 : Aside0 (falses ((List.replicate 64 false).set i true) + 1 ≤ 65) := ⟨by
  have h1 := falses_set (List.replicate 64 false) i (by have := HI64.out; simp; omega) (by rw [List.getD_eq_getElem?_getD, List.getElem?_replicate]; split <;> rfl)
  have h2 : falses (List.replicate 64 false) = 64 := by decide
  omega⟩
 have HL1 := Aside0.mk (HL0'.out.put i true (v := .int .i64 1) rfl)
 have HB1 := Aside0.mk (below_set HB0.out HGL.out (j := i) (v := .int .i64 1))
 have HLL0 : Aside0 (((List.replicate 64 false).set i true).length = 64) := ⟨by simp⟩
 have HOS : Aside0 (overS p i = (overF p 65 ((List.replicate 64 false).set i true)).set i false) := ⟨rfl⟩
 generalize (List.replicate 64 false).set i true = l0 at HF0 HL1 HLL0 HOS
 clear y1 f1 HL0' HB0
 go_loopg [6] (falses l0 + 1) (fun kq v6 w' => ∃ (l : List Bool) (more : Bool) (f : Nat), v6 = .bool more ∧ Aside0 (kq = if more then falses l + 1 else 0) ∧ Aside0 (l.length = 64) ∧ Aside0 (LeanAt w' gl l) ∧ Aside0 ((if more then overF p f l else l) = overF p 65 l0) ∧ Aside0 (more = true → falses l + 1 ≤ f) ∧ Aside0 (Below w2.heap.size w2 w'))
 case atStart => exact ⟨l0, true, 65, rfl, ⟨rfl⟩, HLL0, HL1, ⟨rfl⟩, ⟨fun _ => HF0.out⟩, HB1⟩
 case round =>
  clear HL1 HB1 HF0
  obtain ⟨l, more, f, rfl, HKQ, HLL, HLA, HOF, HFF, HB⟩ := hrel
  cases more with
  | false =>
   have hgk := HKQ.out
   rw [if_neg (by simp)] at hgk
   subst hgk
   have HE : Aside0 (l = overF p 65 l0) := ⟨by have := HOF.out; rwa [if_neg (by simp)] at this⟩
   clear HKQ HOF HFF
   have y1 := HLA.out.cell i (by have := HI64.out; have := HLL.out; omega)
   have f1 := HLA.out.free i
   go_upto_region 16 with (fail)
   have HLF := Aside0.mk (HLA.out.put i false (v := .int .i64 0) rfl)
   have HBF := Aside0.mk (below_set HB.out HGL.out (j := i) (v := .int .i64 0))
   have HLS : Aside0 (l.set i false = overS p i) := ⟨by rw [HOS.out, HE.out]⟩
   have HLN : Aside0 ((l.set i false).length = 64) := ⟨by rw [List.length_set]; exact HLL.out⟩
   generalize l.set i false = ls at HLF HLS HLN
   obtain ⟨W1, hW1⟩ : ∃ W, W = wr.setCell ⟨gl, i, none⟩ (.int .i64 0) := ⟨_, rfl⟩
   rw [← hW1] at HLF HBF ⊢
   clear hW1 y1 f1 HLA HB HLL HE
   go_wp2_with ((with_reducible refine gate_dst (N := 45) rfl ?_); refine wpList_load_mid rfl 139 (.tmp 5) rfl gl 0 ?hx (ls.map fun b => Value.int .i64 (if b then 1 else 0)) _ ?hc Tryz.underlying139 rfl ?hi ?_; (case hx => first | rfl | (go_simp; done) | (go_simp; rfl)); (case hc => exact fun j v hv => by rw [Nat.zero_add]; exact (blk_cell HLF.out j).trans (by unfold leanC; rw [List.getElem?_toArray]; exact hv)); (case hi => rw [List.length_map, HLN.out]; kernel_rfl); rw [show (ls.map fun b => Value.int .i64 (if b then 1 else 0)).toArray = leanC ls from rfl])
   go_loopg [9, 46] 64 (fun kq v9 v46 w' => ∃ (k : Nat) (out : List Int), k + kq = 64 ∧ v46 = .int .i64 k ∧ (∃ A c, v9 = .slice A out.length c) ∧ Aside0 (out.length ≤ k) ∧ Aside0 (out ++ List.map Int.ofNat ((List.range' k kq).filter fun (k : Nat) => ls.getD k false) = overL p i) ∧ Aside0 (Kd.R (Kd.int .i64) 3 w' w2.heap.size (fun _ => True) v9 out) ∧ Aside0 (Below w2.heap.size w2 w'))
   case atStart => exact ⟨0, [], by omega, rfl, ⟨none, 0, rfl⟩, ⟨Nat.le_refl _⟩, ⟨by rw [HOV.out, HLS.out]; rfl⟩, ⟨Kd.R_nil _ _ _ _ _⟩, HBF⟩
   case round =>
    obtain ⟨k, out, hk, rfl, ⟨A5, c5, rfl⟩, HO1, HA, HO, HB⟩ := hrel
    cases gk with
    | zero =>
     have HE : Aside0 (out = overL p i) := ⟨by have := HA.out; simpa using this⟩
     obtain rfl : k = 64 := by omega
     clear hk HA
     go_wp2
     go_ret
     exact ⟨_, rfl, by rw [← HE.out]; exact HO.out, HB.out⟩
    | succ d =>
     have hkc := index_lean ls HLN.out k (by omega)
     have hk0 : (0 : Int) ≤ k := by omega
     have hk1 : (k : Int) < 64 := by omega
     have HK := Aside0.mk hk
     have HOL : Aside0 (out.length < 64) := ⟨by have := HO1.out; omega⟩
     have HA1 : Aside0 (out ++ (List.map Int.ofNat ((if ls.getD k false then [k] else []) ++ (List.range' (k + 1) d).filter fun (k : Nat) => ls.getD k false)) = overL p i) := ⟨by
      have := HA.out
      rw [List.range'_succ, List.filter_cons] at this
      rw [← this]
      split <;> simp⟩
     obtain ⟨lk, hlk⟩ : ∃ b, ls.getD k false = b := ⟨_, rfl⟩
     rw [hlk] at hkc HA1
     clear hk hlk HA
     cases lk with
     | false =>
      simp only [Bool.false_eq_true, if_false] at hkc
      go_wp2
      go_roundg d
      case measure => omega
      case rel => exact ⟨k + 1, out, by have := HK.out; omega, by go_num, ⟨A5, c5, rfl⟩, ⟨by have := HO1.out; omega⟩, ⟨by have := HA1.out; simpa using this⟩, HO, HB⟩
     | true =>
      simp only [if_true] at hkc
      go_wp2_with (((with_reducible refine gate_builtin (b := .append) (xs := #[.tmp 52, .tmp 54]) rfl ?_); (try (refine gate_guard (by rfl) ?_; dsimp only)); at_builtin; refine Kd.R_append (Kd.int .i64) (w0 := w2) w2.heap.size rfl (.tmp 52) (.tmp 54) 48 3 (.int .i64 0) 8 rfl Tryz.underlying48 info3_ rfl (by decide) (by omega) (.slice A5 out.length c5) out (k : Int) [.int .i64 (k : Int)] (fun _ => True) (fun _ => False) rfl (by simp [Act.eval]) ?aP (fun _ hk => hk.elim) ?aF ?aO ?aB ?aS ?aL ?_; (case aP => exact rfl); (case aF => exact (fun _ _ => trivial)); (case aO => exact (by (with_reducible repeat (first | apply Kd.R_alloc | apply Kd.R_drewN | apply Kd.R_drew)); exact HO.out)); (case aB => exact HB.out); (case aS => exact HB.out.size); (case aL => have := HOL.out; omega); intro v4 w4 ho hb hg hat; have HO4 := Aside0.mk ho; have HB4 := Aside0.mk hb; obtain ⟨A4, c4, hv4⟩ := Kd.R_slice ho; clear ho hb hg hat))
      subst hv4
      go_roundg d
      case measure => omega
      case rel => exact ⟨k + 1, out ++ [(k : Int)], by have := HK.out; omega, by go_num, ⟨A4, c4, by simp⟩, ⟨by have := HO1.out; simp; omega⟩, ⟨by have := HA1.out; simpa using this⟩, ⟨by have h := HO4.out; simpa using h⟩, HB4⟩
  | true =>
   have hgk := HKQ.out
   rw [if_pos rfl] at hgk
   subst hgk
   have hff := HFF.out rfl
   obtain ⟨f, rfl⟩ : ∃ m, f = m + 1 := ⟨f - 1, by omega⟩
   have HP : Aside0 ((if (overPass p l).2 then overF p f (overPass p l).1 else (overPass p l).1) = overF p 65 l0) := ⟨by have := HOF.out; rw [if_pos rfl, overF] at this; exact this⟩
   have HFF2 := Aside0.mk hff
   clear HKQ HOF HFF hff
   have y0 := (HH.out.below HB.out).cell
   go_wp2_with (fail)
   clear y0
   go_loopg [6, 25] p.length (fun kq v6 v25 w' => ∃ (k : Nat) (l1 : List Bool) (m1 : Bool), k + kq = p.length ∧ v6 = .bool m1 ∧ v25 = .int .i64 k ∧ Aside0 (l1.length = 64) ∧ Aside0 (LeanAt w' gl l1) ∧ Aside0 ((List.range' k kq).foldl (overOne p) (l1, m1) = overPass p l) ∧ Aside0 (falses l1 + (if m1 then 1 else 0) ≤ falses l) ∧ Aside0 (Below w2.heap.size w2 w'))
   case atStart => exact ⟨0, l, false, by omega, rfl, rfl, HLL, HLA, ⟨rfl⟩, ⟨by simp⟩, HB⟩
   case round =>
    clear HLL HLA HB
    obtain ⟨k, l1, m1, hk, rfl, rfl, HLL, HLA, HFO, HFS, HB⟩ := hrel
    cases gk with
    | zero =>
     obtain rfl : k = p.length := by omega
     have HE2 : Aside0 (overPass p l = (l1, m1)) := ⟨HFO.out.symm⟩
     have HM1 : Aside0 (m1 = true → falses l1 + 1 ≤ falses l) := ⟨fun h => by have := HFS.out; rw [if_pos h] at this; exact this⟩
     clear hk HFO
     go_wp2
     go_roundg (if m1 then falses l1 + 1 else 0)
     case measure =>
      cases m1
      ·simp
      ·have := HM1.out rfl
       simp; omega
     case rel => exact ⟨l1, m1, f, rfl, ⟨rfl⟩, HLL, HLA, ⟨by have := HP.out; rw [HE2.out] at this; exact this⟩, ⟨fun h => by have := HM1.out h; have := HFF2.out; omega⟩, HB⟩
    | succ dk =>
     have hk0 : (0 : Int) ≤ k := by omega
     have hk1 : (k : Int) < (p.length : Int) := by omega
     have hk64 : (k : Int) < 64 := by omega
     have HK := Aside0.mk hk
     have y0 := (HH.out.below HB.out).cell
     obtain ⟨ai2, A72, c72, e1, q0, q1, q2, q3, q4, q5, q6, q7, l7, g7⟩ := at_T56 (Kd.C_below HH.out.pl HB.out) (k : Int) hk0 hk1
     obtain rfl := Option.some.inj e1
     rw [Int.toNat_natCast] at q0 q1 q2 q3 q4 q5 q6 q7
     have HJk := Aside0.mk (HJ.out k (by omega))
     have HFO2 : Aside0 ((List.range' (k + 1) dk).foldl (overOne p) (overOne p (l1, m1) k) = overPass p l) := ⟨by have := HFO.out; rw [List.range'_succ, List.foldl_cons] at this; exact this⟩
     obtain ⟨lk, hlk⟩ : ∃ b, l1.getD k false = b := ⟨_, rfl⟩
     have HO1 : Aside0 (overOne p (l1, m1) k = if lk = false ∧ ((rd_T56 p (k : Int)).f7.any fun j => l1.getD j.toNat false) = true then (l1.set k true, true) else (l1, m1)) := ⟨by unfold overOne; rw [hlk]⟩
     generalize rd_T56 p (k : Int) = x at q0 q1 q2 q3 q4 q5 q6 q7 l7 g7 HJk HO1
     obtain ⟨p0, p1, p2, p3, p4, p5, p6, p7⟩ := x
     dsimp only at q0 q1 q2 q3 q4 q5 q6 q7 l7 g7 HJk HO1
     obtain ⟨an, han⟩ : ∃ b, (p7.any fun j => l1.getD j.toNat false) = b := ⟨_, rfl⟩
     rw [han] at HO1
     have HAN := Aside0.mk han
     have HLA1 : Aside0 (LeanAt (wr.alloc (.cells #[.string p0, .string p1, .bool p2, .bool p3, .int .i64 p4, .int .i64 p5, .int .i64 p6, .slice A72 p7.length c72] 56 (0, 0))) gl l1) := ⟨blk_alloc HLA.out _⟩
     have HBA := Aside0.mk (below_alloc HB.out (.cells #[.string p0, .string p1, .bool p2, .bool p3, .int .i64 p4, .int .i64 p5, .int .i64 p6, .slice A72 p7.length c72] 56 (0, 0)))
     have HG7 := Aside0.mk (Kd.C_alloc g7 (.cells #[.string p0, .string p1, .bool p2, .bool p3, .int .i64 p4, .int .i64 p5, .int .i64 p6, .slice A72 p7.length c72] 56 (0, 0)))
     have y1 := HLA1.out.cell k (by have := HLL.out; omega)
     have HLK := Aside0.mk hlk
     rw [hlk] at y1
     clear hk hlk han g7 l7
     cases lk with
     | true =>
      have HX : Aside0 (overOne p (l1, m1) k = (l1, m1)) := ⟨by rw [HO1.out]; simp⟩
      simp only [if_true] at y1
      go_wp2
      go_roundg dk
      case measure => omega
      case rel => exact ⟨k + 1, l1, m1, by have := HK.out; omega, rfl, by go_num, HLL, HLA1, ⟨by have := HFO2.out; rw [HX.out] at this; exact this⟩, HFS, HBA⟩
     | false =>
      simp only [Bool.false_eq_true, if_false] at y1
      cases an with
      | false =>
       have HX : Aside0 (overOne p (l1, m1) k = (l1, m1)) := ⟨by rw [HO1.out]; simp⟩
       go_wp2_with (go_at_call 77; refine (contains_func_int 78 #[.pointer (some ⟨gl, 0, none⟩)] HE.out (fun j => l1.getD j.toNat false) A72 c72 p7 _ HG7.out ?hp).mono ?_; (case hp => intro j hj W hW; exact over_lit _ l1 gl W (blk_below HLA1.out hW) HLL.out (HJk.out _ (List.getElem_mem hj)).1 (HJk.out _ (List.getElem_mem hj)).2); rintro e w5 ⟨rfl, hb⟩; rw [HAN.out]; have HB5 := Aside0.mk (HBA.out.trans (hb.mono HBA.out.size)); have HLA5 := Aside0.mk (show LeanAt w5 gl l1 from blk_below HLA1.out hb); clear hb)
       go_roundg dk
       case measure => omega
       case rel => exact ⟨k + 1, l1, m1, by have := HK.out; omega, rfl, by go_num, HLL, HLA5, ⟨by have := HFO2.out; rw [HX.out] at this; exact this⟩, HFS, HB5⟩
      | true =>
       have HX : Aside0 (overOne p (l1, m1) k = (l1.set k true, true)) := ⟨by rw [HO1.out]; simp⟩
       have HFN : Aside0 (falses (l1.set k true) + 1 = falses l1) := ⟨falses_set l1 k (by have := HLL.out; have := HK.out; omega) HLK.out⟩
       go_wp2_with (go_at_call 77; refine (contains_func_int 78 #[.pointer (some ⟨gl, 0, none⟩)] HE.out (fun j => l1.getD j.toNat false) A72 c72 p7 _ HG7.out ?hp).mono ?_; (case hp => intro j hj W hW; exact over_lit _ l1 gl W (blk_below HLA1.out hW) HLL.out (HJk.out _ (List.getElem_mem hj)).1 (HJk.out _ (List.getElem_mem hj)).2); rintro e w5 ⟨rfl, hb⟩; rw [HAN.out]; have HB5 := Aside0.mk (HBA.out.trans (hb.mono HBA.out.size)); have HLA5 := Aside0.mk (show LeanAt w5 gl l1 from blk_below HLA1.out hb); have y5 := HLA5.out.cell k (by have := HLL.out; have := HK.out; omega); have f5 := HLA5.out.free k; clear hb)
       go_roundg dk
       case measure => omega
       case rel => exact ⟨k + 1, l1.set k true, true, by have := HK.out; omega, rfl, by go_num, ⟨by have := HLL.out; simpa using this⟩, ⟨HLA5.out.put k true rfl⟩, ⟨by have := HFO2.out; rw [HX.out] at this; exact this⟩, ⟨by have := HFN.out; have := HFS.out; simp; split at this <;> omega⟩, ⟨below_set HB5.out HGL.out⟩⟩
end Go.Proofs.YtokekdhmhfoliaaGreat.F
end

section
namespace Go.Proofs.YtokekdhmhfoliaaGreat.F
open Go.RowKit Go.Proofs.YtokekdhmhfoliaaGreatW.PrintWords Go.Proofs.YtokekdhmhfoliaaGreatW.PrintLast Go.Proofs.YtokekdhmhfoliaaGreatW.PrintMore
attribute [local go_sem] max2_int min2_int max_two min_two max_three min_three max_four min_four
set_option linter.unusedVariables false
set_option linter.unusedSimpArgs false
def hasI (l : List Int) (s : Int) : Bool := l.any fun x => s == x
set_option maxHeartbeats 4000000 in
set_option maxRecDepth 100000 in
theorem index_int_walk (A : Option Addr) (c : Nat) (l : List Int) (s : Int) (w : World) (hr : Kd.C (Kd.int .i64) w A l.length l) : Calls Tryz.prog 111 #[.slice A l.length c, .int .i64 s] w fun e w' => e = .returned (.int .i64 (idxF (fun x => s == x) l 0)) ∧ Below w.heap.size w w' := by
 have HR := Aside0.mk hr
 have HM := Aside0.mk (Kd.C_max hr)
 have HL := Aside0.mk (idxF_drop (fun x : Int => s == x) l)
 clear hr
 go_enter Tryz.func111, Tryz.ntmps111
 go_wp2
 go_loopg [8] l.length (fun kq v8 w' => ∃ i : Nat, i + kq = l.length ∧ v8 = .int .i64 i ∧ Aside0 (idxF (fun x => s == x) l 0 = idxF (fun x => s == x) (l.drop i) i) ∧ Aside0 (Below w.heap.size w w'))
 case atStart => exact ⟨0, by omega, rfl, ⟨rfl⟩, ⟨Below.refl _ _⟩⟩
 case round =>
  obtain ⟨i, hi, rfl, HI, HB⟩ := hrel
  have hm := HM.out
  cases gk with
  | zero =>
   obtain rfl : i = l.length := by omega
   have HE : Aside0 (idxF (fun x => s == x) l 0 = -1) := ⟨by rw [HI.out, List.drop_eq_nil_of_le (Nat.le_refl _)]; rfl⟩
   go_wp2
   go_ret
   exact ⟨by rw [HE.out]; rfl, HB.out⟩
  | succ k =>
   have hlt : i < l.length := by omega
   obtain ⟨ad, e0, x0⟩ := Kd.at_int (Kd.C_below HR.out HB.out) (i : Int) (by omega) (by omega)
   have hrd : rd l (i : Int) = l[i] := by unfold rd; rw [Int.toNat_natCast, List.getD_eq_getElem?_getD, List.getElem?_eq_getElem hlt]; rfl
   rw [hrd, Int.toNat_natCast] at x0
   subst e0
   obtain ⟨x, hx⟩ : ∃ x, l[i] = x := ⟨_, rfl⟩
   have HD := Aside0.mk (HL.out i hlt)
   rw [hx] at x0 HD
   have hlt' : (i : Int) < (l.length : Int) := by omega
   have h0 : (0 : Int) ≤ i := by omega
   have HI2 := Aside0.mk hi
   clear hx hrd hi hlt
   cases hc : s == x
   ·have HN : Aside0 (idxF (fun x => s == x) l 0 = idxF (fun x => s == x) (l.drop (i + 1)) ((i + 1 : Nat) : Int)) := ⟨by rw [HI.out, HD.out, hc]; simp⟩
    clear HD
    go_wp2
    go_roundg k
    case measure => omega
    case rel => exact ⟨i + 1, by have := HI2.out; omega, by go_num, HN, HB⟩
   ·have HN : Aside0 (idxF (fun x => s == x) l 0 = (i : Int)) := ⟨by rw [HI.out, HD.out, hc]; simp⟩
    clear HD
    go_wp2
    go_ret
    exact ⟨by rw [HN.out]; rfl, HB.out⟩
theorem contains_int_walk (A : Option Addr) (c : Nat) (l : List Int) (s : Int) (w : World) (hr : Kd.C (Kd.int .i64) w A l.length l) : Calls Tryz.prog 79 #[.slice A l.length c, .int .i64 s] w fun e w' => e = .returned (.bool (hasI l s)) ∧ Below w.heap.size w w' := by
 have HI := Aside0.mk (index_int_walk A c l s w hr)
 have HA : Aside0 (decide (idxF (fun x : Int => s == x) l 0 ≥ 0) = hasI l s) := ⟨idxF_any _ _ _ (by omega)⟩
 generalize idxF (fun x : Int => s == x) l 0 = v at HI HA
 clear hr
 go_enter Tryz.func79, Tryz.ntmps79
 go_wp2_with (go_at_call 111; refine HI.out.mono ?_; rintro e w2 ⟨rfl, hb⟩; have HB := Aside0.mk hb; clear hb)
 go_ret
 exact ⟨by rw [← HA.out]; rfl, HB.out⟩
def leansB (p : List S56) (over : List Int) (i : Int) : Bool := hasI over i || (aboveL p i).any (hasI over)
theorem above_any {w : World} {g : Nat} {p : List S56} {A : Option Addr} {c : Nat} (h : ViewAt w g p A c) (hu : UpP p) (i : Int) : Calls Tryz.prog 80 #[.pointer (some ⟨g, 0, none⟩), .int .i64 i] w fun e w' => ∃ v, e = .returned v ∧ Kd.R (Kd.int .i64) 3 w' w.heap.size (fun _ => True) v (aboveL p i) ∧ Below w.heap.size w w' := by
 cases hb : hasB p i with
 | true =>
  unfold hasB at hb
  simp only [Bool.and_eq_true, decide_eq_true_eq] at hb
  obtain ⟨n, rfl⟩ := Int.eq_ofNat_of_zero_le hb.1
  exact above_walk_ h hu n (by omega)
 | false =>
  have HHS := Aside0.mk (has_walk h i)
  have HE : Aside0 (aboveL p i = []) := ⟨by unfold aboveL; rw [hb]; rfl⟩
  rw [hb] at HHS
  clear h hu hb
  go_enter Tryz.func80, Tryz.ntmps80
  go_wp2_with (go_at_call 76; refine HHS.out.mono ?_; rintro e w2 ⟨rfl, rfl⟩)
  go_ret
  exact ⟨_, rfl, by rw [HE.out]; exact Kd.R_nil _ _ _ _ _, Below.refl _ _⟩
theorem leans_lit (s : Int) (ov : List Int) (Ao : Option Addr) (co gb : Nat) (w : World) (hg : w.heap[gb]? = some (.cells #[.slice Ao ov.length co] 48 (0, 0))) (hr : Kd.C (Kd.int .i64) w Ao ov.length ov) :
  Calls Tryz.prog 81 (#[.int .i64 s] ++ #[.pointer (some ⟨gb, 0, none⟩)]) w fun e w' => e = .returned (.bool (hasI ov s)) ∧ Below w.heap.size w w' := by
 have y0 : w.cell? ⟨gb, 0, none⟩ = some (.slice Ao ov.length co) := (blk_cell hg 0).trans rfl
 have HC := Aside0.mk (contains_int_walk Ao co ov s w hr)
 clear hg hr
 show Calls Tryz.prog 81 #[.int .i64 s, .pointer (some ⟨gb, 0, none⟩)] w _
 go_enter Tryz.func81, Tryz.ntmps81
 go_wp2_with (go_at_call 79; refine HC.out.mono ?_; rintro e w2 ⟨rfl, hb⟩; have HB := Aside0.mk hb; clear hb)
 go_ret
 exact ⟨rfl, HB.out⟩
set_option maxHeartbeats 4000000 in
set_option maxRecDepth 100000 in
theorem leans_walk {w : World} {g : Nat} {p : List S56} {A : Option Addr} {c : Nat} (h : ViewAt w g p A c) (hu : UpP p) (ov : List Int) (Ao : Option Addr) (co : Nat) (hr : Kd.C (Kd.int .i64) w Ao ov.length ov) (i : Int) :
  Calls Tryz.prog 42 #[.pointer (some ⟨g, 0, none⟩), .slice Ao ov.length co, .int .i64 i] w fun e w' => e = .returned (.bool (leansB p ov i)) ∧ Below w.heap.size w w' := by
 have hmf : ∀ (fn : Fn) (first cap : Array Value) (w : World), (Instr.makeFunc fn first cap).run Tryz.prog w = .ok (.func fn first cap) w := fun _ _ _ _ => rfl
 have HE := Aside0.mk (enters_of Tryz.func81 (P := Tryz.prog) (f := 81) (by kernel_rfl) rfl)
 have HB0 := Aside0.mk (below_alloc (Below.refl w.heap.size w) (.cells #[.slice Ao ov.length co] 48 (0, 0)))
 have HG0 := Aside0.mk (blk_new w (.cells #[.slice Ao ov.length co] 48 (0, 0)))
 have HC := Aside0.mk (fun (W : World) (hb : Below w.heap.size w W) => contains_int_walk Ao co ov i W (Kd.C_below hr hb))
 have HAB := Aside0.mk (fun (W : World) (hb : Below w.heap.size w W) => above_any (h.below hb) hu i)
 have HR := Aside0.mk hr
 unfold leansB
 obtain ⟨b, hb⟩ : ∃ b, hasI ov i = b := ⟨_, rfl⟩
 rw [hb] at HC ⊢
 clear hr h hb hu
 cases b with
 | true =>
  go_enter Tryz.func42, Tryz.ntmps42
  go_wp2_with (go_at_call 79; refine (HC.out _ HB0.out).mono ?_; rintro e w2 ⟨rfl, hb⟩; have HB2 := Aside0.mk (HB0.out.trans (hb.mono HB0.out.size)); clear hb)
  go_ret
  exact ⟨rfl, HB2.out⟩
 | false =>
  go_enter Tryz.func42, Tryz.ntmps42
  go_wp2_with (first
   | (go_at_call 79; refine (HC.out _ HB0.out).mono ?_; rintro e w2 ⟨rfl, hb⟩; have HB2 := Aside0.mk (HB0.out.trans (hb.mono HB0.out.size)); have HG2 := Aside0.mk (blk_below HG0.out hb); clear hb)
   | (go_at_call 80; refine (HAB.out _ HB2.out).mono ?_; rintro e w3 ⟨v3, rfl, hR, hb⟩; have HB3 := Aside0.mk (HB2.out.trans (hb.mono HB2.out.size)); have HG3 := Aside0.mk (blk_below HG2.out hb); obtain ⟨A3, c3, rfl⟩ := Kd.R_slice hR; have HR3 := Aside0.mk (Kd.R_reads' hR).2.2; clear hb hR)
   | (go_at_call 77; refine (contains_func_int 81 #[.pointer (some ⟨w.heap.size, 0, none⟩)] HE.out (hasI ov) A3 c3 (aboveL p i) _ HR3.out ?hp).mono ?_; (case hp => intro j hj W hW; exact leans_lit _ ov Ao co w.heap.size W (blk_below HG3.out hW) (Kd.C_below HR.out (HB3.out.trans (hW.mono HB3.out.size)))); rintro e w4 ⟨rfl, hb⟩; have HB4 := Aside0.mk (HB3.out.trans (hb.mono HB3.out.size)); clear hb))
  go_ret
  exact ⟨by simp, HB4.out⟩
def badItem (p : List S56) (i : Int) (c : Course) : Bool := decide (i < 1) || decide (i ≥ (p.length : Int)) || (rd_T56 p i).f2 || c.early || c.late
def clashB (p : List S56) (m : List (Int × Course)) (q j : Int) : Bool := decide (((mapLook m j).getD course0).undone > 0) && (decide (((mapLook m q).getD course0).tried < ((mapLook m j).getD course0).undone) && leansB p (overL p q) j)
def sortedK (m : List (Int × Course)) : List Int := (keysOf m).mergeSort (fun x y => decide (x ≤ y))
theorem mem_sorted (m : List (Int × Course)) (q : Int) : q ∈ sortedK m ↔ q ∈ keysOf m := List.mem_mergeSort
def orderB (p : List S56) (m : List (Int × Course)) : Bool := (sortedK m).all fun q => !badItem p q ((mapLook m q).getD course0) && (((mapLook m q).getD course0).undone == 0 || (sortedK m).all fun j => !clashB p m q j)
theorem sorted_keys {w : World} {b : Nat} {m : List (Int × Course)} (hM : MapIs (fun n : Int => Value.int .i64 n) encCourse w b m) (hml : m.length ≤ 1000000) (hmk : ∀ x ∈ m, (Lit.int .i64 x.1).wf = true) :
  Calls Tryz.prog 39 #[.func (.func 75) #[] #[.pointer (some ⟨w.heap.size, 0, none⟩)]] (w.alloc (.cells #[.map (some b)] 82)) fun e w' => ∃ A c, e = .returned (.slice A (sortedK m).length c) ∧ Kd.C (Kd.int .i64) w' A (sortedK m).length (sortedK m) ∧ Below w.heap.size w w' := by
 obtain ⟨D0, ho, hp, hsz⟩ := owns_of_map (H := Unit) hM hml hmk
 refine (sorted_call b 1000000 D0 anyElem w ho (by rw [hsz]; unfold maxLen; omega) (by rw [hsz]; omega)).mono ?_
 rintro e w3 ⟨v, ss, rfl, hS, hrow, hB⟩
 obtain ⟨A, c, rfl, hrd⟩ := own_reads (k := .i64) (xs := ss.mergeSort (fun x y => decide (x ≤ y))) hrow
 have hke : ss.mergeSort (fun x y => decide (x ≤ y)) = sortedK m := sort_perm (hS.trans hp)
 have hkl : (sortedK m).length = ss.length := by rw [← hke, List.length_mergeSort]
 have hC := Kd.C_of_reads (d := (0 : Int)) (h1 := fun _ => rfl) hrd
 rw [hke] at hC
 refine ⟨A, c, by rw [hkl], by rw [hkl]; exact hC, ?_⟩
 exact (below_alloc (Below.refl w.heap.size w) _).trans (hB.mono (by simp))
def orderI (p : List S56) (l : List S70) : Int := if rightB p then (if orderB p (coursesOf l 0 []) then 0 else 14) else 2
theorem up_of {p : List S56} (h : shapedB p = true) : UpP p := by
 refine ⟨(shaped_len h).2, fun i hi => ?_⟩
 have hs := shaped_at h hi
 have hrd : rd_T56 p (i : Int) = p[i] := by unfold rd_T56; rw [Int.toNat_natCast, List.getD_eq_getElem?_getD, List.getElem?_eq_getElem hi]; rfl
 rw [hrd]
 by_cases hz : i = 0
 ·subst hz
  unfold itemB at hs
  split at hs
  ·cases hs
  ·split at hs
   ·cases hs
   ·split at hs
    ·cases hs
    ·rw [if_pos rfl] at hs
     have := of_decide_eq_true hs
     omega
 ·have := itemB_in hs hz
  omega
theorem plan_see_yes (p : List S56) (A : Option Addr) (c : Nat) (w : World) (hp : Kd.C k56 w A p.length p) (hc : p.length ≤ c) (hsm : (p.all fun x => decide (x.f7.length ≤ 1000000)) = true) (hR : rightB p = true) :
  Calls Tryz.prog 37 #[.agg #[.slice A p.length c]] w fun e w' => ∃ g : Nat, e = .returned (.tuple #[.pointer (some ⟨g, 0, none⟩), .int .i64 0]) ∧ Below w.heap.size w w' ∧ ViewAt w' g p A c := by
 refine (plan_see_walk p A c w hp hc hsm).mono ?_
 rintro e w' ⟨q, rfl, hv⟩
 rw [hR]
 cases q with
 | none => have := hv.2; rw [hR] at this; cases this
 | some g => exact ⟨g, rfl, hv.1, hv.2.2.1⟩
theorem plan_see_no (p : List S56) (A : Option Addr) (c : Nat) (w : World) (hp : Kd.C k56 w A p.length p) (hc : p.length ≤ c) (hsm : (p.all fun x => decide (x.f7.length ≤ 1000000)) = true) (hR : rightB p = false) :
  Calls Tryz.prog 37 #[.agg #[.slice A p.length c]] w fun e w' => e = .returned (.tuple #[.pointer none, .int .i64 2]) ∧ Below w.heap.size w w' := by
 refine (plan_see_walk p A c w hp hc hsm).mono ?_
 rintro e w' ⟨q, rfl, hv⟩
 rw [hR]
 cases q with
 | none => exact ⟨rfl, hv.1⟩
 | some g => have := hv.2.1; rw [hR] at this; cases this
def trace_Order.f (l0_0 : List S56) (l1 : List S70) : Option Int := if (l0_0.all fun x => decide (x.f7.length ≤ 1000000)) = true ∧ l1.length ≤ 1000000 ∧ ∀ x ∈ l1, (Lit.int .i64 x.f0.f0).wf = true then some (orderI l0_0 l1) else none
set_option maxHeartbeats 8000000 in
set_option maxRecDepth 100000 in
theorem trace_Order.calls (A0_0 : Option Addr) (c0_0 : Nat) (l0_0 : List S56) (A1 : Option Addr) (c1 : Nat) (l1 : List S70) (r : Int) (w : World) (hr0_0 : Kd.C k56 w A0_0 l0_0.length l0_0) (hc0_0 : l0_0.length ≤ c0_0) (hr1 : Kd.C k70 w A1 l1.length l1) (hc1 : l1.length ≤ c1) (h : trace_Order.f l0_0 l1 = some r) :
  Calls Tryz.prog 10 #[.agg #[.slice A0_0 l0_0.length c0_0], .slice A1 l1.length c1] w fun e w' => e = .returned (.int .i64 r) ∧ Below w.heap.size w w' := by
 unfold trace_Order.f at h
 by_cases hcond : (l0_0.all fun x => decide (x.f7.length ≤ 1000000)) = true ∧ l1.length ≤ 1000000 ∧ ∀ x ∈ l1, (Lit.int .i64 x.f0.f0).wf = true
 ·rw [if_pos hcond] at h
  obtain rfl := Option.some.inj h
  clear h
  obtain ⟨hsm, hl6, hwf⟩ := hcond
  have HB0 := Aside0.mk (below_alloc (Below.refl w.heap.size w) (.cells #[.slice A0_0 l0_0.length c0_0] 24 (0, 0)))
  have HG0 := Aside0.mk (blk_new w (.cells #[.slice A0_0 l0_0.length c0_0] 24 (0, 0)))
  have HCO := Aside0.mk (fun (W : World) (hb : Below w.heap.size w W) => courses_calls A1 c1 l1 W (Kd.C_below hr1 hb) hc1)
  have HP := Aside0.mk hr0_0
  have HRI : Aside0 (orderI l0_0 l1 = if rightB l0_0 then (if orderB l0_0 (coursesOf l1 0 []) then 0 else 14) else 2) := ⟨rfl⟩
  have hml : (coursesOf l1 0 []).length ≤ 1000000 := by have := length_coursesOf l1 0 []; simp at *; omega
  have hmk : ∀ x ∈ coursesOf l1 0 [], (Lit.int .i64 x.1).wf = true := by
   intro x hx
   rcases mem_coursesOf l1 0 [] hx with h | ⟨y, hy, he⟩
   ·cases h
   ·rw [← he]; exact hwf y hy
  have HMK := Aside0.mk hmk
  have HML := Aside0.mk hml
  generalize orderI l0_0 l1 = ri at HRI ⊢
  cases hR : rightB l0_0 with
  | false =>
   have HSE := Aside0.mk (fun (W : World) (hb : Below w.heap.size w W) => plan_see_no l0_0 A0_0 c0_0 W (Kd.C_below hr0_0 hb) hc0_0 hsm hR)
   rw [hR] at HRI
   clear hr0_0 hc0_0 hr1 hc1 hsm hl6 hwf hml hmk
   go_enter Tryz.func10, Tryz.ntmps10
   go_wp2_with (go_at_call 37; refine (HSE.out _ HB0.out).mono ?_; rintro e w2 ⟨rfl, hb⟩; have HB2 := Aside0.mk (HB0.out.trans (hb.mono HB0.out.size)); clear hb)
   go_ret
   exact ⟨by rw [HRI.out]; rfl, HB2.out⟩
  | true =>
   have hsh : shapedB l0_0 = true := by unfold rightB at hR; rw [Bool.and_eq_true] at hR; exact hR.1
   have HUP := Aside0.mk (up_of hsh)
   have HSH := Aside0.mk hsh
   have HSE := Aside0.mk (fun (W : World) (hb : Below w.heap.size w W) => plan_see_yes l0_0 A0_0 c0_0 W (Kd.C_below hr0_0 hb) hc0_0 hsm hR)
   rw [hR] at HRI
   have hn64 : (l0_0.length : Int) ≤ 64 := by have := (shaped_len hsh).2; omega
   generalize coursesOf l1 0 [] = m at HRI HMK HML HCO
   obtain ⟨ks, hks⟩ : ∃ ks, sortedK m = ks := ⟨_, rfl⟩
   have HKS := Aside0.mk hks
   have hkl : ks.length ≤ 1000000 := by rw [← hks]; unfold sortedK keysOf; rw [List.length_mergeSort, List.length_map]; exact HML.out
   obtain ⟨O, hO⟩ : ∃ O : Int → Bool, (fun q => !badItem l0_0 q ((mapLook m q).getD course0) && (((mapLook m q).getD course0).undone == 0 || ks.all fun j => !clashB l0_0 m q j)) = O := ⟨_, rfl⟩
   have HOB : Aside0 (orderB l0_0 m = ks.all O) := ⟨by unfold orderB; rw [hks, ← hO]⟩
   have HOQ : Aside0 (∀ q, O q = (!badItem l0_0 q ((mapLook m q).getD course0) && (((mapLook m q).getD course0).undone == 0 || ks.all fun j => !clashB l0_0 m q j))) := ⟨fun q => by rw [← hO]⟩
   clear hr0_0 hc0_0 hr1 hc1 hsm hl6 hwf hml hmk hsh hR hks hO
   go_enter Tryz.func10, Tryz.ntmps10
   go_wp2_with (first
    | (go_at_call 37; refine (HSE.out _ HB0.out).mono ?_; rintro e w2 ⟨g, rfl, hb, hv⟩; have HB2 := Aside0.mk (HB0.out.trans (hb.mono HB0.out.size)); have HG2 := Aside0.mk (blk_below HG0.out hb); have HV2 := Aside0.mk hv; clear hv hb)
    | (go_at_call 38; refine (HCO.out _ HB2.out).mono ?_; rintro e w3 ⟨rfl, hM, hb⟩; have HB3 := Aside0.mk (HB2.out.trans (hb.mono HB2.out.size)); have HG3 := Aside0.mk (blk_below HG2.out hb); have HV3 := Aside0.mk (HV2.out.below hb); have HM3 := Aside0.mk hM; clear hM hb)
    | (go_at_call 40; refine (keys_call _ _).mono ?_; rintro e w4 ⟨rfl, rfl⟩)
    | (go_at_call 39; refine (sorted_keys HM3.out HML.out HMK.out).mono ?_; rintro e w5 ⟨A5, c5, rfl, hC, hb⟩; rw [HKS.out] at hC ⊢; have HB5 := Aside0.mk (HB3.out.trans (hb.mono HB3.out.size)); have HG5 := Aside0.mk (blk_below HG3.out hb); have HV5 := Aside0.mk (HV3.out.below hb); have HM5 := Aside0.mk (HM3.out.below hb); have HK5 := Aside0.mk hC; clear hC hb))
   go_loopg [29] ks.length (fun kq v29 w' => ∃ i : Nat, i + kq = ks.length ∧ v29 = .int .i64 i ∧ Aside0 (ks.all O = (ks.drop i).all O) ∧ Aside0 (Below w5.heap.size w5 w'))
   case atStart => exact ⟨0, by omega, rfl, ⟨rfl⟩, ⟨Below.refl _ _⟩⟩
   case round =>
    obtain ⟨i, hi, rfl, HI, HB⟩ := hrel
    have HBw := Aside0.mk (HB5.out.trans (HB.out.mono HB5.out.size))
    cases gk with
    | zero =>
     obtain rfl : i = ks.length := by omega
     have HE : Aside0 (ri = 0) := ⟨by rw [HRI.out, HOB.out, HI.out, List.drop_eq_nil_of_le (Nat.le_refl _)]; rfl⟩
     go_wp2
     go_ret
     exact ⟨by rw [HE.out]; rfl, HBw.out⟩
    | succ d =>
     have hlt : i < ks.length := by omega
     obtain ⟨ad, e0, xq⟩ := Kd.at_int (Kd.C_below HK5.out HB.out) (i : Int) (by omega) (by omega)
     have hrd : rd ks (i : Int) = ks[i] := by unfold rd; rw [Int.toNat_natCast, List.getD_eq_getElem?_getD, List.getElem?_eq_getElem hlt]; rfl
     rw [hrd, Int.toNat_natCast] at xq
     subst e0
     obtain ⟨q, hq⟩ : ∃ q, ks[i] = q := ⟨_, rfl⟩
     rw [hq] at xq
     have HD : Aside0 ((ks.drop i).all O = (O q && (ks.drop (i + 1)).all O)) := ⟨by rw [List.drop_eq_getElem_cons hlt, List.all_cons, hq]⟩
     have HF : Aside0 (O q = false → ri = 14) := ⟨fun h => by rw [HRI.out, HOB.out, HI.out, HD.out, h]; rfl⟩
     have HT : Aside0 (O q = true → ks.all O = (ks.drop (i + 1)).all O) := ⟨fun h => by rw [HI.out, HD.out, h]; rfl⟩
     have hlt' : (i : Int) < (ks.length : Int) := by omega
     have h0 : (0 : Int) ≤ i := by omega
     have HI2 := Aside0.mk hi
     have hlk := run_map_lookup (key_ok_int Tryz.underlying3) Tryz.underlying82 course_zero (HM5.out.below HB.out) q false
     simp only [Bool.false_eq_true, if_false] at hlk
     obtain ⟨⟨d0, d1, d2, d3, d4⟩, hce⟩ : ∃ c, (mapLook m q).getD course0 = c := ⟨_, rfl⟩
     have HOq := Aside0.mk (HOQ.out q)
     rw [hce] at hlk HOq
     have HCE := Aside0.mk hce
     change (Instr.lookup 82 (.map (some w2.heap.size)) (.int .i64 q) false).run Tryz.prog _ = .ok (.agg #[.int .i64 d0, .int .i64 d1, .int .i64 d2, .bool d3, .bool d4]) _ at hlk
     clear hrd hq hi hlt hce
     go_upto_region 9 with (fail)
     obtain ⟨W, hW⟩ : ∃ W, W = wr.alloc (.cells #[.int .i64 d0, .int .i64 d1, .int .i64 d2, .bool d3, .bool d4] 89 (0, 0)) := ⟨_, rfl⟩
     obtain ⟨gc, hgc⟩ : ∃ n, wr.heap.size = n := ⟨_, rfl⟩
     have HBW : Aside0 (Below w.heap.size w W) := ⟨by rw [hW]; exact below_alloc HBw.out _⟩
     have HB5W : Aside0 (Below w5.heap.size w5 W) := ⟨by rw [hW]; exact below_alloc HB.out _⟩
     have HGC : Aside0 (W.heap[gc]? = some (.cells #[.int .i64 d0, .int .i64 d1, .int .i64 d2, .bool d3, .bool d4] 89 (0, 0))) := ⟨by rw [hW, ← hgc]; exact blk_new _ _⟩
     rw [← hW, hgc]
     clear hW hgc hlk xq HB HBw
     have x0 : W.cell? ⟨w.heap.size, 0, none⟩ = some (.slice A0_0 l0_0.length c0_0) := (blk_cell (blk_below HG5.out HB5W.out) 0).trans rfl
     have y0 : W.cell? ⟨gc, 0, none⟩ = some (.int .i64 d0) := (blk_cell HGC.out 0).trans rfl
     have y1 : W.cell? ⟨gc, 1, none⟩ = some (.int .i64 d1) := (blk_cell HGC.out 1).trans rfl
     have y2 : W.cell? ⟨gc, 2, none⟩ = some (.int .i64 d2) := (blk_cell HGC.out 2).trans rfl
     have y3 : W.cell? ⟨gc, 3, none⟩ = some (.bool d3) := (blk_cell HGC.out 3).trans rfl
     have y4 : W.cell? ⟨gc, 4, none⟩ = some (.bool d4) := (blk_cell HGC.out 4).trans rfl
     have HBI : Aside0 (badItem l0_0 q ⟨d0, d1, d2, d3, d4⟩ = true → O q = false) := ⟨fun h => by rw [HOq.out, h]; rfl⟩
     by_cases h1 : q < 1
     ·have hd1 : decide (q < 1) = true := decide_eq_true h1
      go_wp2
      go_ret
      exact ⟨by rw [HF.out (by exact HBI.out (by unfold badItem; simp [h1]))]; rfl, HBW.out⟩
     ·have hd1 : decide (q < 1) = false := decide_eq_false h1
      by_cases h2 : q ≥ (l0_0.length : Int)
      ·have hd2 : decide (q ≥ (l0_0.length : Int)) = true := decide_eq_true h2
       go_wp2
       go_ret
       exact ⟨by rw [HF.out (by exact HBI.out (by unfold badItem; simp [h2]))]; rfl, HBW.out⟩
      ·have hd2 : decide (q ≥ (l0_0.length : Int)) = false := decide_eq_false h2
       obtain ⟨qn, rfl⟩ := Int.eq_ofNat_of_zero_le (show 0 ≤ q by omega)
       have hq0 : (0 : Int) ≤ qn := by omega
       have hq1 : (qn : Int) < (l0_0.length : Int) := by omega
       obtain ⟨ai, A7, c7, e1, q0, q1, q2, q3, q4, q5, q6, q7, -, -⟩ := at_T56 (Kd.C_below HP.out HBW.out) (qn : Int) hq0 hq1
       subst e1
       rw [Int.toNat_natCast] at q2
       clear q0 q1 q3 q4 q5 q6 q7
       obtain ⟨sb, hsb⟩ : ∃ b, (rd_T56 l0_0 (qn : Int)).f2 = b := ⟨_, rfl⟩
       have HSB := Aside0.mk hsb
       rw [hsb] at q2
       clear hsb
       cases sb with
       | true =>
        go_wp2
        go_ret
        exact ⟨by rw [HF.out (by exact HBI.out (by unfold badItem; simp [HSB.out]))]; rfl, HBW.out⟩
       | false =>
        cases d3 with
        | true =>
         go_wp2
         go_ret
         exact ⟨by rw [HF.out (by exact HBI.out (by unfold badItem; simp))]; rfl, HBW.out⟩
        | false =>
         cases d4 with
         | true =>
          go_wp2
          go_ret
          exact ⟨by rw [HF.out (by exact HBI.out (by unfold badItem; simp))]; rfl, HBW.out⟩
         | false =>
          have HGB : Aside0 (badItem l0_0 (qn : Int) ⟨d0, d1, d2, false, false⟩ = false) := ⟨by unfold badItem; rw [hd1, hd2, HSB.out]; rfl⟩
          cases hu : d2 == 0
          ·have hu0 : ¬ d2 = 0 := by simpa using hu
           have HOV := Aside0.mk (fun (X : World) (hb : Below W.heap.size W X) => over_walk_ (HV5.out.below (HB5W.out.trans (hb.mono HB5W.out.size))) HSH.out qn (by omega))
           have HO2 : Aside0 (O (qn : Int) = ks.all fun j => !clashB l0_0 m (qn : Int) j) := ⟨by rw [HOq.out, HGB.out]; simp [hu0]⟩
           go_wp2_with (first
            | (go_at_call 41; refine (HOV.out _ (Below.refl _ _)).mono ?_; rintro e w6 ⟨v6, rfl, hR, hb⟩; have HB6 := Aside0.mk hb; obtain ⟨A6, c6, rfl⟩ := Kd.R_slice hR; have HR6 := Aside0.mk (Kd.R_reads' hR).2.2; have HM6 := Aside0.mk (HM5.out.below (HB5W.out.trans (hb.mono HB5W.out.size))); clear hb hR)
            | (go_at_call 40; refine (keys_call _ _).mono ?_; rintro e w7 ⟨rfl, rfl⟩)
            | (go_at_call 39; refine (sorted_keys HM6.out HML.out HMK.out).mono ?_; rintro e w8 ⟨A8, c8, rfl, hC, hb⟩; rw [HKS.out] at hC ⊢; have HB8 := Aside0.mk (HB6.out.trans (hb.mono HB6.out.size)); have HK8 := Aside0.mk hC; have HR8 := Aside0.mk (Kd.C_below HR6.out hb); clear hC hb))
           clear x0 y0 y1 y2 y3 y4 q2
           obtain ⟨N, hN⟩ : ∃ N : Int → Bool, (fun j => !clashB l0_0 m (qn : Int) j) = N := ⟨_, rfl⟩
           have HNQ : Aside0 (∀ j, N j = !clashB l0_0 m (qn : Int) j) := ⟨fun j => by rw [← hN]⟩
           rw [hN] at HO2
           have HBW8 : Aside0 (Below w5.heap.size w5 w8) := ⟨HB5W.out.trans (HB8.out.mono HB5W.out.size)⟩
           have HGC8 := Aside0.mk (blk_below HGC.out HB8.out)
           have HLE := Aside0.mk (fun (j : Int) (X : World) (hb : Below w8.heap.size w8 X) => leans_walk (HV5.out.below (HBW8.out.trans (hb.mono HBW8.out.size))) HUP.out (overL l0_0 (qn : Int)) A6 c6 (Kd.C_below HR8.out hb) j)
           have HM8 := Aside0.mk (HM5.out.below HBW8.out)
           clear hN
           go_loopg [71] ks.length (fun kq v71 w' => ∃ k : Nat, k + kq = ks.length ∧ v71 = .int .i64 k ∧ Aside0 (ks.all N = (ks.drop k).all N) ∧ Aside0 (Below w8.heap.size w8 w'))
           case atStart => exact ⟨0, by omega, rfl, ⟨rfl⟩, ⟨Below.refl _ _⟩⟩
           case round =>
            obtain ⟨k, hk, rfl, HJ, HB⟩ := hrel
            cases gk with
            | zero =>
             obtain rfl : k = ks.length := by omega
             have HO1 : Aside0 (O (qn : Int) = true) := ⟨by rw [HO2.out, HJ.out, List.drop_eq_nil_of_le (Nat.le_refl _)]; rfl⟩
             go_wp2
             go_roundg d
             case measure => omega
             case rel => exact ⟨i + 1, by have := HI2.out; omega, by go_num, ⟨HT.out HO1.out⟩, ⟨HBW8.out.trans (HB.out.mono HBW8.out.size)⟩⟩
            | succ e =>
             have hlt : k < ks.length := by omega
             obtain ⟨ad2, e0_, xj⟩ := Kd.at_int (Kd.C_below HK8.out HB.out) (k : Int) (by omega) (by omega)
             have hrd : rd ks (k : Int) = ks[k] := by unfold rd; rw [Int.toNat_natCast, List.getD_eq_getElem?_getD, List.getElem?_eq_getElem hlt]; rfl
             rw [hrd, Int.toNat_natCast] at xj
             subst e0_
             obtain ⟨j, hj⟩ : ∃ j, ks[k] = j := ⟨_, rfl⟩
             rw [hj] at xj
             have HD2 : Aside0 ((ks.drop k).all N = (N j && (ks.drop (k + 1)).all N)) := ⟨by rw [List.drop_eq_getElem_cons hlt, List.all_cons, hj]⟩
             have HF2 : Aside0 (N j = false → ri = 14) := ⟨fun h => HF.out (by rw [HO2.out, HJ.out, HD2.out, h]; rfl)⟩
             have HT2 : Aside0 (N j = true → ks.all N = (ks.drop (k + 1)).all N) := ⟨fun h => by rw [HJ.out, HD2.out, h]; rfl⟩
             have hlt' : (k : Int) < (ks.length : Int) := by omega
             have hk0 : (0 : Int) ≤ k := by omega
             have HI3 := Aside0.mk hk
             have hlk := run_map_lookup (key_ok_int Tryz.underlying3) Tryz.underlying82 course_zero (HM8.out.below HB.out) j false
             simp only [Bool.false_eq_true, if_false] at hlk
             obtain ⟨⟨e0, e1, e2, e3, e4⟩, hce⟩ : ∃ c, (mapLook m j).getD course0 = c := ⟨_, rfl⟩
             have HNj : Aside0 (N j = !(decide (e2 > 0) && (decide (d1 < e2) && leansB l0_0 (overL l0_0 (qn : Int)) j))) := ⟨by rw [HNQ.out]; unfold clashB; rw [hce, HCE.out]⟩
             rw [hce] at hlk
             change (Instr.lookup 82 (.map (some w2.heap.size)) (.int .i64 j) false).run Tryz.prog _ = .ok (.agg #[.int .i64 e0, .int .i64 e1, .int .i64 e2, .bool e3, .bool e4]) _ at hlk
             clear hrd hj hk hlt hce
             go_upto_region 17 with (fail)
             obtain ⟨W2, hW2⟩ : ∃ X, X = wr.alloc (.cells #[.int .i64 e0, .int .i64 e1, .int .i64 e2, .bool e3, .bool e4] 89 (0, 0)) := ⟨_, rfl⟩
             obtain ⟨gd, hgd⟩ : ∃ n, wr.heap.size = n := ⟨_, rfl⟩
             have HBW2 : Aside0 (Below w8.heap.size w8 W2) := ⟨by rw [hW2]; exact below_alloc HB.out _⟩
             have HGD : Aside0 (W2.heap[gd]? = some (.cells #[.int .i64 e0, .int .i64 e1, .int .i64 e2, .bool e3, .bool e4] 89 (0, 0))) := ⟨by rw [hW2, ← hgd]; exact blk_new _ _⟩
             rw [← hW2, hgd]
             clear hW2 hgd hlk xj HB
             have z2 : W2.cell? ⟨gd, 2, none⟩ = some (.int .i64 e2) := (blk_cell HGD.out 2).trans rfl
             have z1 : W2.cell? ⟨gc, 1, none⟩ = some (.int .i64 d1) := (blk_cell (blk_below HGC8.out HBW2.out) 1).trans rfl
             by_cases h3 : e2 > 0
             ·have hd3 : decide (e2 > 0) = true := decide_eq_true h3
              by_cases h4 : d1 < e2
              ·have hd4 : decide (d1 < e2) = true := decide_eq_true h4
               have HLj := Aside0.mk (HLE.out j W2 HBW2.out)
               obtain ⟨lb, hlb⟩ : ∃ b, leansB l0_0 (overL l0_0 (qn : Int)) j = b := ⟨_, rfl⟩
               rw [hlb] at HLj HNj
               clear hlb
               cases lb with
               | true =>
                have HN : Aside0 (N j = false) := ⟨by rw [HNj.out, hd3, hd4]; rfl⟩
                go_wp2_with (go_at_call 42; refine HLj.out.mono ?_; rintro e_ w9 ⟨rfl, hb⟩; have HB9 := Aside0.mk (HBW2.out.trans (hb.mono HBW2.out.size)); clear hb)
                go_ret
                exact ⟨by rw [HF2.out HN.out]; rfl, HB5.out.trans ((HBW8.out.trans (HB9.out.mono HBW8.out.size)).mono HB5.out.size)⟩
               | false =>
                have HN : Aside0 (N j = true) := ⟨by rw [HNj.out, hd3, hd4]; rfl⟩
                go_wp2_with (go_at_call 42; refine HLj.out.mono ?_; rintro e_ w9 ⟨rfl, hb⟩; have HB9 := Aside0.mk (HBW2.out.trans (hb.mono HBW2.out.size)); clear hb)
                go_roundg e
                case measure => omega
                case rel => exact ⟨k + 1, by have := HI3.out; omega, by go_num, ⟨HT2.out HN.out⟩, HB9⟩
              ·have hd4 : decide (d1 < e2) = false := decide_eq_false h4
               have HN : Aside0 (N j = true) := ⟨by rw [HNj.out, hd4]; simp⟩
               go_wp2
               go_roundg e
               case measure => omega
               case rel => exact ⟨k + 1, by have := HI3.out; omega, by go_num, ⟨HT2.out HN.out⟩, HBW2⟩
             ·have hd3 : decide (e2 > 0) = false := decide_eq_false h3
              have HN : Aside0 (N j = true) := ⟨by rw [HNj.out, hd3]; rfl⟩
              go_wp2
              go_roundg e
              case measure => omega
              case rel => exact ⟨k + 1, by have := HI3.out; omega, by go_num, ⟨HT2.out HN.out⟩, HBW2⟩
          ·have HO1 : Aside0 (O (qn : Int) = true) := ⟨by rw [HOq.out, HGB.out]; simp at hu; simp [hu]⟩
           go_wp2
           go_roundg d
           case measure => omega
           case rel => exact ⟨i + 1, by have := HI2.out; omega, by go_num, ⟨HT.out HO1.out⟩, HB5W⟩
 ·rw [if_neg hcond] at h
  cases h
end Go.Proofs.YtokekdhmhfoliaaGreat.F
end

section
namespace Go.Proofs.YtokekdhmhfoliaaGreat.S
open Go.RowKit Go.Proofs.YtokekdhmhfoliaaGreat.F Go.Proofs.YtokekdhmhfoliaaGreatW.PrintWords Go.Proofs.YtokekdhmhfoliaaGreatW.PrintLast
abbrev Eff := S70
abbrev Key := S38
theorem w64_small {x : Int} (h0 : 0 ≤ x) (h1 : x < 9223372036854775808) : wrap64 x = x := by
 unfold wrap64
 omega
theorem ih_any {κ ν : Type} [DecidableEq κ] {k k' : κ} {v : ν} (m : List (κ × ν)) (h : k' ≠ k) : ((m.map (fun x => if x.1 = k then (k, v) else x)).find? (fun x => decide (x.1 = k'))).map (·.2) = (m.find? (fun x => decide (x.1 = k'))).map (·.2) := by
 induction m with
 | nil => rfl
 | cons y m ih =>
  rw [List.map_cons, List.find?_cons, List.find?_cons]
  by_cases hy : y.1 = k
  ·rw [if_pos hy]
   have h1 : decide ((k, v).1 = k') = false := decide_eq_false (fun e => h e.symm)
   have h2 : decide (y.1 = k') = false := decide_eq_false (fun e => h (e.symm.trans hy))
   rw [h1, h2]
   exact ih
  ·rw [if_neg hy]
   by_cases hk : y.1 = k'
   ·rw [decide_eq_true hk]
   ·rw [decide_eq_false hk]
    exact ih
theorem look_put_ne {κ ν : Type} [DecidableEq κ] (m : List (κ × ν)) {k k' : κ} (v : ν) (h : k' ≠ k) : mapLook (mapPut m k v) k' = mapLook m k' := by
 unfold mapPut
 split
 ·unfold mapLook
  exact ih_any m h
 ·unfold mapLook
  rw [List.find?_append]
  cases m.find? (fun x => decide (x.1 = k')) with
  | some x => rfl
  | none =>
   show (Option.or none (List.find? _ [(k, v)])).map _ = none
   rw [List.find?_cons, decide_eq_false (fun e => h e.symm)]
   rfl
def firsts : List Eff → List Key → List Eff
 | [], _ => []
 | x :: l, s => if x.f0 ∈ s then firsts l s else x :: firsts l (s ++ [x.f0])
def keys (l : List Eff) : List Key := l.map (·.f0)
def lastE : List Eff → List Eff
 | [] => []
 | x :: l => if x.f0 ∈ keys l then lastE l else x :: lastE l
theorem firsts_snoc : ∀ (l : List Eff) (s : List Key) (x : Eff), firsts (l ++ [x]) s = firsts l s ++ (if x.f0 ∈ s ∨ x.f0 ∈ keys l then [] else [x])
 | [], s, x => by
  show (if x.f0 ∈ s then firsts [] s else x :: firsts [] (s ++ [x.f0])) = _
  by_cases h : x.f0 ∈ s
  ·rw [if_pos h, if_pos (.inl h)]; rfl
  ·rw [if_neg h, if_neg (fun h' => h'.elim h (fun h'' => by cases h''))]; rfl
 | y :: l, s, x => by
  show (if y.f0 ∈ s then firsts (l ++ [x]) s else y :: firsts (l ++ [x]) (s ++ [y.f0])) = (if y.f0 ∈ s then firsts l s else y :: firsts l (s ++ [y.f0])) ++ _
  by_cases hy : y.f0 ∈ s
  ·rw [if_pos hy, if_pos hy, firsts_snoc l s x]
   by_cases hx : x.f0 ∈ s ∨ x.f0 ∈ keys l
   ·rw [if_pos hx, if_pos (show x.f0 ∈ s ∨ x.f0 ∈ keys (y :: l) from hx.imp_right (List.mem_cons_of_mem _))]
   ·rw [if_neg hx, if_neg (fun (h : x.f0 ∈ s ∨ x.f0 ∈ keys (y :: l)) => hx (h.elim .inl (fun h => by
     rcases List.mem_cons.1 h with h | h
     ·exact .inl (h ▸ hy)
     ·exact .inr h)))]
  ·rw [if_neg hy, if_neg hy, firsts_snoc l _ x]
   by_cases hx : x.f0 ∈ s ++ [y.f0] ∨ x.f0 ∈ keys l
   ·rw [if_pos hx, if_pos]
    ·rfl
    ·rcases hx with h | h
     ·rcases List.mem_append.1 h with h | h
      ·exact .inl h
      ·exact .inr (by rw [List.mem_singleton.1 h]; exact List.mem_cons_self ..)
     ·exact .inr (List.mem_cons_of_mem _ h)
   ·rw [if_neg hx, if_neg]
    ·rfl
    ·rintro (h | h)
     ·exact hx (.inl (List.mem_append_left _ h))
     ·rcases List.mem_cons.1 h with h | h
      ·exact hx (.inl (List.mem_append_right _ (List.mem_singleton.2 h)))
      ·exact hx (.inr h)
theorem lastE_eq : ∀ l : List Eff, (firsts l.reverse []).reverse = lastE l
 | [] => rfl
 | x :: l => by
  rw [List.reverse_cons, firsts_snoc, List.reverse_append, lastE_eq l]
  have hk : (x.f0 ∈ ([] : List Key) ∨ x.f0 ∈ keys l.reverse) ↔ x.f0 ∈ keys l := by
   unfold keys
   rw [List.map_reverse, List.mem_reverse]
   constructor
   ·rintro (h | h)
    ·cases h
    ·exact h
   ·exact .inr
  show _ = if x.f0 ∈ keys l then lastE l else x :: lastE l
  by_cases h : x.f0 ∈ keys l
  ·rw [if_pos (hk.2 h), if_pos h]; rfl
  ·rw [if_neg (fun h' => h (hk.1 h')), if_neg h]; rfl
theorem nodup_len {α : Type} [DecidableEq α] : ∀ (a b : List α), a.Nodup → (∀ x ∈ a, x ∈ b) → a.length ≤ b.length
 | [], b, _, _ => Nat.zero_le _
 | x :: a, b, h, hs => by
  obtain ⟨h1, h2⟩ := List.nodup_cons.1 h
  have hx := hs x (List.mem_cons_self ..)
  have := nodup_len a (b.erase x) h2 (fun y hy => (List.mem_erase_of_ne (fun (e : y = x) => h1 (e ▸ hy))).2 (hs y (List.mem_cons_of_mem _ hy)))
  rw [List.length_erase_of_mem hx] at this
  have hp : 0 < b.length := List.length_pos_of_mem hx
  simp only [List.length_cons]
  omega
theorem lastsRun_eq : ∀ (l : List Eff) (m : List (Key × Int)) (n : Nat), n + l.length ≤ 1000000 → (∀ k v, mapLook m k = some v → 1 ≤ v ∧ v ≤ n) → lastsRun l m = firsts l (keysOf m)
 | [], m, n, _, _ => rfl
 | x :: l, m, n, hn, hm => by
  rw [List.length_cons] at hn
  have hput : ∀ v : Int, 1 ≤ v → v ≤ (n : Int) + 1 → ∀ k u, mapLook (mapPut m x.f0 v) k = some u → 1 ≤ u ∧ u ≤ ((n + 1 : Nat) : Int) := by
   intro v h1 h2 k u hu
   by_cases hk : k = x.f0
   ·rw [hk, put_look] at hu
    cases hu
    exact ⟨h1, by omega⟩
   ·rw [look_put_ne m v hk] at hu
    have := hm k u hu
    exact ⟨this.1, by omega⟩
  unfold lastsRun firsts
  cases hl : mapLook m x.f0 with
  | none =>
   have hin : x.f0 ∉ keysOf m := look_none.1 hl
   have hw : wrap64 (((none : Option Int).getD 0) + 1) = 1 := w64_small (x := 0 + 1) (by omega) (by omega)
   rw [hw, if_pos rfl, if_neg hin]
   rw [lastsRun_eq l _ (n + 1) (by omega) (hput 1 (by omega) (by omega)), keysOf_put, hl]
   rfl
  | some v =>
   have hin : x.f0 ∈ keysOf m := by
    by_cases hn : x.f0 ∈ keysOf m
    ·exact hn
    ·rw [look_none.2 hn] at hl; cases hl
   have hv := hm _ _ hl
   have hw : wrap64 (((some v : Option Int).getD 0) + 1) = v + 1 := w64_small (by show 0 ≤ v + 1; omega) (by show v + 1 < _; omega)
   rw [hw, if_neg (by omega), if_pos hin]
   rw [lastsRun_eq l _ (n + 1) (by omega) (hput (v + 1) (by omega) (by omega)), keysOf_put, hl]
   rfl
theorem lastsOf_eq (l : List Eff) (h : l.length ≤ 1000000) : (lastsOf l).reverse = lastE l := by
 unfold lastsOf
 rw [lastsRun_eq l.reverse [] 0 (by rw [List.length_reverse]; omega) (fun k v h => by cases h)]
 exact lastE_eq l
end Go.Proofs.YtokekdhmhfoliaaGreat.S
end
