-- Texts of this seat's, joined.
import Derived.Shelf.Strings.Repeat
import Derived.Shelf.Strings.OnBuilder
import Derived.Ground.NamesProg
import Derived.Test.YtloijngccppfgaaGreatProg
import Derived.Test.YtloijngccppfgaaGreatZWhyTree1
import Derived.WalkSmall
import Derived.Test.YtloijngccppfgaaGreatZWhyTree5
import Derived.Test.YtloijngccppfgaaGreatZWhyTree4
import Derived.BigRegion
import Derived.Deep.RegionWith
section
namespace Go.Proofs
open Go.Shelf
def Tryz.laysJoin_ren : Go.Shelf.Ren := ⟨fun | 156 => 58 | 165 => 90 | 166 => 91 | 169 => 93 | 240 => 123 | 241 => 124 | 276 => 141 | 277 => 142 | n => n, fun | 31 => 103 | 9 => 9 | 3 => 3 | 4 => 4 | 0 => 0 | 20 => 20 | 72 => 155 | 76 => 159 | 70 => 152 | 37 => 153 | 75 => 158 | 127 => 194 | 164 => 218 | 5 => 5 | 80 => 161 | n => n, fun | n => n⟩
theorem Tryz.laysJoin : Go.Proofs.Lays.n156 Tryz.prog Tryz.laysJoin_ren := {
 mixed := by kernel_rfl
 f156 := Tryz.func58.trans (congrArg some (by kernel_rfl))
 f165 := Tryz.func90.trans (congrArg some (by kernel_rfl))
 f166 := Tryz.func91.trans (congrArg some (by kernel_rfl))
 f169 := Tryz.func93.trans (congrArg some (by kernel_rfl))
 f240 := Tryz.func123.trans (congrArg some (by kernel_rfl))
 f241 := Tryz.func124.trans (congrArg some (by kernel_rfl))
 f276 := Tryz.func141.trans (congrArg some (by kernel_rfl))
 f277 := Tryz.func142.trans (congrArg some (by kernel_rfl))
 t0 := Tryz.underlying0
 a0 := Tryz.isAgg0
 z0 := Tryz.sizeOf0
 v0 := Tryz.zeroValue0
 t3 := Tryz.underlying3
 a3 := Tryz.isAgg3
 z3 := Tryz.sizeOf3
 v3 := Tryz.zeroValue3
 t4 := Tryz.underlying4
 a4 := Tryz.isAgg4
 z4 := Tryz.sizeOf4
 v4 := Tryz.zeroValue4
 t9 := Tryz.underlying9
 a9 := Tryz.isAgg9
 z9 := Tryz.sizeOf9
 v9 := Tryz.zeroValue9
 t20 := Tryz.underlying20
 a20 := Tryz.isAgg20
 z20 := Tryz.sizeOf20
 v20 := Tryz.zeroValue20
 t31 := Tryz.underlying103
 a31 := Tryz.isAgg103
 z31 := Tryz.sizeOf103
 v31 := Tryz.zeroValue103
 t37 := Tryz.underlying153
 a37 := Tryz.isAgg153
 z37 := Tryz.sizeOf153
 v37 := Tryz.zeroValue153
 t70 := Tryz.underlying152
 a70 := Tryz.isAgg152
 z70 := Tryz.sizeOf152
 v70 := Tryz.zeroValue152
 t72 := Tryz.underlying155
 a72 := Tryz.isAgg155
 z72 := Tryz.sizeOf155
 v72 := Tryz.zeroValue155
 t75 := Tryz.underlying158
 a75 := Tryz.isAgg158
 z75 := Tryz.sizeOf158
 v75 := Tryz.zeroValue158
 t76 := Tryz.underlying159
 a76 := Tryz.isAgg159
 z76 := Tryz.sizeOf159
 v76 := Tryz.zeroValue159
 t127 := Tryz.underlying194
 a127 := Tryz.isAgg194
 z127 := Tryz.sizeOf194
 v127 := Tryz.zeroValue194
 t164 := Tryz.underlying218
 a164 := Tryz.isAgg218
 z164 := Tryz.sizeOf218
 v164 := Tryz.zeroValue218 }
def Tryz.laysRep_ren : Go.Shelf.Ren := ⟨fun | 105 => 57 | 212 => 88 | 99 => 89 | 165 => 90 | 166 => 91 | 170 => 92 | 169 => 93 | 263 => 120 | 264 => 121 | 206 => 122 | 240 => 123 | 241 => 124 | 276 => 141 | 277 => 142 | n => n, fun | 9 => 9 | 3 => 3 | 4 => 4 | 20 => 20 | 0 => 0 | 46 => 60 | 109 => 149 | 5 => 5 | 72 => 155 | 76 => 159 | 51 => 188 | 146 => 189 | 53 => 191 | 148 => 192 | 70 => 152 | 37 => 153 | 75 => 158 | 127 => 194 | 164 => 218 | 80 => 161 | n => n, fun | n => n⟩
theorem Tryz.laysRep : Go.Proofs.Lays.n105 Tryz.prog Tryz.laysRep_ren := {
 mixed := by kernel_rfl
 f99 := Tryz.func89.trans (congrArg some (by kernel_rfl))
 f105 := Tryz.func57.trans (congrArg some (by kernel_rfl))
 f165 := Tryz.func90.trans (congrArg some (by kernel_rfl))
 f166 := Tryz.func91.trans (congrArg some (by kernel_rfl))
 f169 := Tryz.func93.trans (congrArg some (by kernel_rfl))
 f170 := Tryz.func92.trans (congrArg some (by kernel_rfl))
 f206 := Tryz.func122.trans (congrArg some (by kernel_rfl))
 f212 := Tryz.func88.trans (congrArg some (by kernel_rfl))
 f240 := Tryz.func123.trans (congrArg some (by kernel_rfl))
 f241 := Tryz.func124.trans (congrArg some (by kernel_rfl))
 f263 := Tryz.func120.trans (congrArg some (by kernel_rfl))
 f264 := Tryz.func121.trans (congrArg some (by kernel_rfl))
 f276 := Tryz.func141.trans (congrArg some (by kernel_rfl))
 f277 := Tryz.func142.trans (congrArg some (by kernel_rfl))
 t0 := Tryz.underlying0
 a0 := Tryz.isAgg0
 z0 := Tryz.sizeOf0
 v0 := Tryz.zeroValue0
 t3 := Tryz.underlying3
 a3 := Tryz.isAgg3
 z3 := Tryz.sizeOf3
 v3 := Tryz.zeroValue3
 t4 := Tryz.underlying4
 a4 := Tryz.isAgg4
 z4 := Tryz.sizeOf4
 v4 := Tryz.zeroValue4
 t5 := Tryz.underlying5
 a5 := Tryz.isAgg5
 z5 := Tryz.sizeOf5
 v5 := Tryz.zeroValue5
 t9 := Tryz.underlying9
 a9 := Tryz.isAgg9
 z9 := Tryz.sizeOf9
 v9 := Tryz.zeroValue9
 t20 := Tryz.underlying20
 a20 := Tryz.isAgg20
 z20 := Tryz.sizeOf20
 v20 := Tryz.zeroValue20
 t37 := Tryz.underlying153
 a37 := Tryz.isAgg153
 z37 := Tryz.sizeOf153
 v37 := Tryz.zeroValue153
 t46 := Tryz.underlying60
 a46 := Tryz.isAgg60
 z46 := Tryz.sizeOf60
 v46 := Tryz.zeroValue60
 t51 := Tryz.underlying188
 a51 := Tryz.isAgg188
 z51 := Tryz.sizeOf188
 v51 := Tryz.zeroValue188
 t53 := Tryz.underlying191
 a53 := Tryz.isAgg191
 z53 := Tryz.sizeOf191
 v53 := Tryz.zeroValue191
 t70 := Tryz.underlying152
 a70 := Tryz.isAgg152
 z70 := Tryz.sizeOf152
 v70 := Tryz.zeroValue152
 t72 := Tryz.underlying155
 a72 := Tryz.isAgg155
 z72 := Tryz.sizeOf155
 v72 := Tryz.zeroValue155
 t75 := Tryz.underlying158
 a75 := Tryz.isAgg158
 z75 := Tryz.sizeOf158
 v75 := Tryz.zeroValue158
 t76 := Tryz.underlying159
 a76 := Tryz.isAgg159
 z76 := Tryz.sizeOf159
 v76 := Tryz.zeroValue159
 t109 := Tryz.underlying149
 a109 := Tryz.isAgg149
 z109 := Tryz.sizeOf149
 v109 := Tryz.zeroValue149
 t127 := Tryz.underlying194
 a127 := Tryz.isAgg194
 z127 := Tryz.sizeOf194
 v127 := Tryz.zeroValue194
 t146 := Tryz.underlying189
 a146 := Tryz.isAgg189
 z146 := Tryz.sizeOf189
 v146 := Tryz.zeroValue189
 t148 := Tryz.underlying192
 a148 := Tryz.isAgg192
 z148 := Tryz.sizeOf192
 v148 := Tryz.zeroValue192
 t164 := Tryz.underlying218
 a164 := Tryz.isAgg218
 z164 := Tryz.sizeOf218
 v164 := Tryz.zeroValue218 }
end Go.Proofs
end

section
namespace Go.Proofs.YtloijngccppfgaaGreat.F
open Go.RowKit Go.Proofs.YtloijngccppfgaaGreatW.PrintWords Go.Proofs.YtloijngccppfgaaGreatW.PrintLast Go.Proofs.YtloijngccppfgaaGreatW.PrintMore
attribute [local go_sem] max2_int min2_int max_two min_two max_three min_three max_four min_four
set_option linter.unusedVariables false
set_option linter.unusedSimpArgs false
open Go.Shelf
theorem rep_extra : Builder.Extra Tryz.prog Tryz.laysRep_ren where
 sizeBuilder := by kernel_rfl
 liesBuilder := by kernel_rfl
 t5 := Tryz.laysRep.t5
 a5 := Tryz.laysRep.a5
 z5 := Tryz.laysRep.z5
 v5 := Tryz.laysRep.v5
 infoByte := by kernel_rfl
 cellsByte := by kernel_rfl
 sizeByte := by kernel_rfl
 neB5 := by decide
theorem join_extra : Builder.Extra Tryz.prog Tryz.laysJoin_ren where
 sizeBuilder := by kernel_rfl
 liesBuilder := by kernel_rfl
 t5 := Tryz.underlying5
 a5 := Tryz.isAgg5
 z5 := Tryz.sizeOf5
 v5 := Tryz.zeroValue5
 infoByte := by kernel_rfl
 cellsByte := by kernel_rfl
 sizeByte := by kernel_rfl
 neB5 := by decide
theorem repeat_walk (s : ByteArray) (c : Nat) (w : World) (hc : c ≤ 9223372036854775807) (hlen : s.size * c ≤ 140737488355328) :
  Calls Tryz.prog 57 #[.string s, .int .i64 c] w fun e w' => e = .returned (.string ⟨(Lib.repeatL s.data.toList c).toArray⟩) ∧ Below w.heap.size w w' :=
 Any.strings_Repeat Tryz.laysRep rep_extra s c w hc hlen
theorem join_walk (bk c : Nat) (xs : List ByteArray) (sep : ByteArray) (w : World) (hcells : ∀ (j : Nat) x, xs[j]? = some x → w.cell? ⟨bk, 0 + j, none⟩ = some (.string x))
  (hbk : bk < w.heap.size) (hN : xs.length ≤ 140737488355328) (hcap : xs.length ≤ c) (hlen : (Lib.join (xs.map (·.data.toList)) sep.data.toList).length ≤ 140737488355328) :
  Calls Tryz.prog 58 #[.slice (some ⟨bk, 0, none⟩) xs.length c, .string sep] w fun e w' => e = .returned (.string ⟨(Lib.join (xs.map (·.data.toList)) sep.data.toList).toArray⟩) ∧ Below w.heap.size w w' :=
 Any.strings_Join Tryz.laysJoin join_extra bk 0 c xs sep w hcells hbk hN hcap hlen
theorem join_none (c : Nat) (sep : ByteArray) (w : World) :
  Calls Tryz.prog 58 #[.slice none 0 c, .string sep] w fun e w' => e = .returned (.string ⟨#[]⟩) ∧ w' = w := by
 refine (Any.strings_Join_none Tryz.laysJoin join_extra none c sep w).mono ?_
 rintro e w' ⟨h1, h2⟩
 exact ⟨h1, h2⟩
end Go.Proofs.YtloijngccppfgaaGreat.F
end

section
namespace Go.Proofs.YtloijngccppfgaaGreat.F
open Go.RowKit Go.Proofs.YtloijngccppfgaaGreatW.PrintWords Go.Proofs.YtloijngccppfgaaGreatW.PrintLast Go.Proofs.YtloijngccppfgaaGreatW.PrintMore
attribute [local go_sem] max2_int min2_int max_two min_two max_three min_three max_four min_four
set_option linter.unusedVariables false
set_option linter.unusedSimpArgs false
open Go.Proofs.YtloijngccppfgaaGreat.Pure
attribute [local go_sem] Oper.semAt_some
def why_Text.f (l0_0 : List S39) (l1 : List S50) : Option (ByteArray × Int) := if okArgs l0_0 l1 ∧ textFits l0_0 l1 then some (textL l0_0 l1) else none
theorem opIn_of_op {l n : Nat} {P : Program} {o : Oper} {a : Act} {w : World} {K K' : Act → World → Prop} {Q : Exit → Act → World → Prop} (hnd : ∀ c, o.op ≠ .defer c) (hK : ∀ a w, K a w → K' a w) (h : o.wp P a w K Q) : o.wpIn (Fence.wide.inRound l) n P a w K' Q := by
 unfold Oper.wp at h
 unfold Oper.wpIn
 refine ⟨fun _ _ => trivial, ?_⟩
 rw [Oper.semAt_plain _ _ _ hnd]
 generalize (execOp a.eval o).run P w = r at h ⊢
 cases r with
 | ok x w' =>
  cases x with
  | value v => exact hK _ _ h
  | skip => exact hK _ _ h
  | defer d => exact hK _ _ h
  | enter f args =>
   refine ⟨fun h => (by cases h), CallsIn.inRound l (callsIn_wide.2 (Calls.mono h fun e w'' he => ?_))⟩
   cases e with
   | returned v => exact hK _ _ he
   | panicked c => exact he
   | outgrown => exact he
  | row row args => exact ⟨fun h => (by cases h), fun c cs _ => let ⟨v, w'', r, s⟩ := h c cs; ⟨v, w'', hK _ _ r, stepsIn_wide.2 s⟩⟩
  | _ => exact h.elim
 | halt x w' =>
  cases x with
  | panic v => exact h
  | _ => exact h.elim
theorem anyIn_of_any {l n : Nat} {P : Program} {md : Region.Mode} {ops : Array Oper} {Q : Exit → Act → World → Prop} (hnd : ∀ (i : Nat) (o : Oper), ops[i]? = some o → ∀ c, o.op ≠ .defer c) (hlo : ¬ LetsOut Q) :
  ∀ (fuel : Nat) (listed : Array Bool) (a : Act) (w : World), wpAny P md ops Q fuel listed a w → wpAnyIn (Fence.wide.inRound l) n P md ops Q fuel listed a w
 | 0, listed, a, w, h => h
 | fuel + 1, listed, a, w, h => ⟨h.1, fun i hi => by
  have h2 := h.2 i hi
  unfold wpOp at h2
  unfold wpOpIn
  cases ho : ops[i]? with
  | none => rw [ho] at h2; exact anyIn_of_any hnd hlo fuel _ _ _ h2
  | some o =>
   rw [ho] at h2
   dsimp only at h2 ⊢
   split
   ·rename_i hw
    rw [if_pos hw] at h2
    rcases h2 with h3 | ⟨-, h3⟩
    ·exact opIn_of_op (hnd i o ho) (fun a w => anyIn_of_any hnd hlo fuel _ a w) h3
    ·exact absurd h3 hlo
   ·rename_i hw
    rw [if_neg hw] at h2
    exact ⟨fun _ _ => trivial, anyIn_of_any hnd hlo fuel _ _ _ h2⟩⟩
def plainB (ops : Array Oper) : Bool := ops.all fun o => match o.op with | .defer _ => false | _ => true
theorem nodefer_ {ops : Array Oper} (h : plainB ops = true) : ∀ (i : Nat) (o : Oper), ops[i]? = some o → ∀ c, o.op ≠ .defer c := fun i o ho c e => by
 obtain ⟨hi, rfl⟩ := Array.getElem?_eq_some_iff.1 ho
 have := Array.all_eq_true.1 h i hi
 rw [e] at this
 cases this
theorem startIn_ {P : Program} {ops : Array Oper} {Q : Exit → Act → World → Prop} {S : World → Prop} {ds : List Nat} {id n lp m : Nat} {a : Act} {w : World} (l : Array Bool) (hm : P.follows .mixedOrders = true) (hnd : ∀ (i : Nat) (o : Oper), ops[i]? = some o → ∀ c, o.op ≠ .defer c) (hlo : ¬ LetsOut Q) (hn : ops.size = n) (hl : Array.replicate n false = l) (hS : S w.drew)
  (h : S w.drew → wpAnyLast P .any ops Q S ds n l a w.drew) : (Code.region id ops true).wpIn (Fence.wide.inRound lp) m P Q a w := by
 subst hn
 subst hl
 exact wpIn_region_any hm (anyIn_of_any hnd hlo _ _ _ _ (wpAny_of_last _ _ _ _ (h hS)))
theorem strs_cells (w : World) (x y z : ByteArray) : ∀ (j : Nat) (u : Value), [Value.string x, .string y, .string z][j]? = some u → (w.alloc (.cells #[.string x, .string y, .string z] 9 (0, 0))).cell? ((⟨w.heap.size, 0, none⟩ : Addr).add j) = some u := by
 intro j u h
 rw [add_plain]
 match j, h with
 | 0, h => obtain rfl := Option.some.inj h; exact (blk_cell (blk_new w _) 0).trans rfl
 | 1, h => obtain rfl := Option.some.inj h; exact (blk_cell (blk_new w _) 1).trans rfl
 | 2, h => obtain rfl := Option.some.inj h; exact (blk_cell (blk_new w _) 2).trans rfl
theorem strs_one (x y z : ByteArray) : ∀ u ∈ [Value.string x, .string y, .string z], u.oneCell' = true := by
 intro u hu
 simp only [List.mem_cons, List.not_mem_nil, or_false] at hu
 rcases hu with rfl | rfl | rfl <;> rfl
theorem ownsRow_succ3 {W : World} {base : Nat} {e : TypeId} {size : Nat} {v : Value} {k : Nat} {xs : List Value} (h : W.ownsRow base e size v (k + 3) xs) : ∃ g cap, v = .slice (some ⟨g, 0, none⟩) (k + 3) cap := ownsRow_succ (k := k + 2) h
theorem indent_eq : ∀ n : Nat, indent n = Lib.repeatL [32, 32] n
 | 0 => rfl
 | n + 1 => by unfold indent Lib.repeatL; rw [indent_eq n]; rfl
theorem join_flat : ∀ xs : List (List UInt8), Lib.join xs [] = xs.flatten
 | [] => rfl
 | x :: r => by
  rw [Lib.join_cons, List.flatten_cons]
  congr 1
  unfold Lib.joinTail
  congr 1
  induction r with
  | nil => rfl
  | cons y r ih => rw [List.map_cons, ih]; rfl
theorem join_row {W : World} {base : Nat} {v : Value} {xs : List ByteArray} (hown : W.ownsRow base 9 1 v xs.length (xs.map Value.string)) (hN : xs.length ≤ 1000000) (hlen : (xs.map ByteArray.size).sum ≤ 1000000) :
  Calls Tryz.prog 58 #[v, .string ⟨#[]⟩] W fun e w' => e = .returned (.string ⟨(xs.flatMap fun b => b.data.toList).toArray⟩) ∧ Below W.heap.size W w' := by
 have hj : Lib.join (xs.map (·.data.toList)) [] = xs.flatMap fun b => b.data.toList := join_flat _
 have hl : (xs.flatMap fun b => b.data.toList).length = (xs.map ByteArray.size).sum := by
  rw [List.length_flatMap]
  congr 1
 rcases hown.2 with ⟨rfl, h0⟩ | ⟨g, cap, cur, rfl, q2, q3, q4, q5, q6, q7⟩
 ·obtain rfl := List.eq_nil_of_length_eq_zero h0
  refine (join_none 0 ⟨#[]⟩ W).mono ?_
  rintro e w' ⟨rfl, rfl⟩
  exact ⟨rfl, Below.refl _ _⟩
 ·rw [Nat.mul_one] at q7
  have h := join_walk g cap xs ⟨#[]⟩ W (fun j x hx => by
   have hjl : j < xs.length := (List.getElem?_eq_some_iff.1 hx).1
   have h5 : (cur.toList.take xs.length)[j]? = (xs.map Value.string)[j]? := by rw [q7]
   rw [List.getElem?_take_of_lt hjl, Array.getElem?_toList, List.getElem?_map, hx] at h5
   rw [Nat.zero_add]
   exact (blk_cell q3 j).trans h5) (Array.getElem?_eq_some_iff.1 q3).1 (by omega) q4 (by show (Lib.join (xs.map (·.data.toList)) []).length ≤ _; rw [hj, hl]; omega)
  refine h.mono ?_
  rintro e w' ⟨rfl, hb⟩
  refine ⟨?_, hb⟩
  show _ = Ending.returned (.string ⟨(xs.flatMap fun b => b.data.toList).toArray⟩)
  rw [← hj]
theorem aboveF_len (p : List S39) : ∀ (d : Nat) (k : Int), (aboveF p d k).length ≤ d
 | 0, _ => Nat.le_refl _
 | d + 1, k => by
  unfold aboveF
  split
  ·have := aboveF_len p d (rd_T39 p k).f5
   simp only [List.length_cons]; omega
  ·simp
set_option maxHeartbeats 16000000 in
set_option maxRecDepth 100000 in
theorem why_Text.calls (A0_0 : Option Addr) (c0_0 : Nat) (l0_0 : List S39) (A1 : Option Addr) (c1 : Nat) (l1 : List S50) (r1 : ByteArray) (r2 : Int) (w : World) (hr0_0 : Kd.C k39 w A0_0 l0_0.length l0_0) (hc0_0 : l0_0.length ≤ c0_0) (hr1 : Kd.C k50 w A1 l1.length l1) (hc1 : l1.length ≤ c1) (h : why_Text.f l0_0 l1 = some (r1, r2)) :
  Calls Tryz.prog 29 #[.agg #[.slice A0_0 l0_0.length c0_0], .slice A1 l1.length c1] w fun e w' => e = .returned (.tuple #[.string r1, .int .i64 r2]) ∧ Below w.heap.size w w' := by
 unfold why_Text.f at h
 by_cases hok2 : okArgs l0_0 l1 = true ∧ textFits l0_0 l1 = true
 ·rw [if_pos hok2] at h
  obtain ⟨hok, hft⟩ := hok2
  have HR := Aside0.mk (Option.some.inj h)
  have HP := Aside0.mk hr0_0
  have HB0 := Aside0.mk (below_alloc (Below.refl w.heap.size w) (.cells #[.slice A0_0 l0_0.length c0_0] 24 (0, 0)))
  have HG0 := Aside0.mk (blk_new w (.cells #[.slice A0_0 l0_0.length c0_0] 24 (0, 0)))
  have HS := Aside0.mk (why_seen_walk l0_0 A0_0 c0_0 l1 A1 c1 (w.alloc (.cells #[.slice A0_0 l0_0.length c0_0] 24 (0, 0))) (Kd.C_below hr0_0 HB0.out) hc0_0 (Kd.C_below hr1 HB0.out) hc1 hok)
  clear hr0_0 hc0_0 hr1 hc1 hok h
  unfold textL at HR
  cases hv : factsB l0_0 l1 with
  | false =>
   have HV := Aside0.mk hv
   rw [hv] at HR
   simp only [Bool.false_eq_true, if_false] at HR
   have hrr := HR.out
   injection hrr with e1 e2
   subst e1
   subst e2
   clear hv HR hft HP
   go_enter Tryz.func29, Tryz.ntmps29
   go_wp2_with (go_at_call 32; refine HS.out.mono ?_; rintro e w2 ⟨r, rfl, hm⟩; obtain rfl := hm.none_ HV.out; dsimp only [ptrV]; have HB2 := Aside0.mk (HB0.out.trans (hm.1.mono HB0.out.size)); clear hm)
   go_ret2
   exact ⟨rfl, below_alloc HB2.out _⟩
  | true =>
   have HV := Aside0.mk hv
   rw [hv] at HR
   simp only [if_true] at HR
   have hrr := HR.out
   injection hrr with e1 e2
   subst e2
   have HE1 := Aside0.mk e1
   obtain ⟨hln, hsh⟩ := facts_shape hv
   have HSH := Aside0.mk hsh
   have hsf := shape_few hsh
   have HN0 := Aside0.mk hsf.1
   have HN64 := Aside0.mk hsf.2
   have HUP := Aside0.mk (shape_up hsh)
   obtain ⟨S, hS⟩ : ∃ S, allB l0_0 l1 (madeS l0_0 l1) = S := ⟨_, rfl⟩
   have HSS := Aside0.mk hS
   have HOF : Aside0 (ofL l0_0 l1 0 = causesL l0_0 S 0) := ⟨by unfold ofL; rw [hv, hS, decide_eq_true (by omega : (0 : Int) ≤ 0), decide_eq_true (by omega : (0 : Int) < (l1.length : Int))]; rfl⟩
   have HTP : Aside0 (textParts l0_0 l1 = (causesL l0_0 S 0).flatMap (textOne l0_0)) := ⟨by unfold textParts; rw [HOF.out]⟩
   have hft2 := hft
   unfold textFits at hft2
   rw [Bool.and_eq_true, decide_eq_true_eq, decide_eq_true_eq, HTP.out] at hft2
   have HF1 := Aside0.mk hft2.1
   have HF2 := Aside0.mk hft2.2
   rw [HTP.out] at HE1
   obtain ⟨L, hL⟩ : ∃ L, causesL l0_0 S 0 = L := ⟨_, rfl⟩
   have HLL := Aside0.mk hL
   rw [hL] at HE1 HF1 HF2
   clear HR e1 hft hft2 hln hsh hsf hS hL hv
   obtain ⟨i0, hi, hz0, hz1, hz2⟩ := info_parts info9_
   refine (callsIn_wide (n := 0)).1 ?_
   refine callsIn_of_wpB Tryz.func29 rfl ?_
   simp only [Tryz.ntmps29, List.size_toArray, List.length_cons, List.length_nil, Nat.reduceAdd, Nat.reduceSub, Array.replicate_succ, Array.replicate_zero, List.push_toArray, List.append_toArray, List.nil_append, List.cons_append]
   (refine wpB_seq_k (fun K hK => ?_); gi_wp2; refine hK.out _ _ ?_; clear hK K)
   refine wpB_seq_k (fun K hK => ?_)
   gi_wp2
   refine ⟨trivial, rfl, (callsIn_wide.2 HS.out).mono ?_⟩
   rintro e w2 ⟨r, rfl, hm⟩
   obtain ⟨g, As, cs, gv, rfl, hw⟩ := hm.some_ HV.out
   rw [HSS.out] at hw
   dsimp only [ptrV]
   have HW := Aside0.mk hw
   have HB2 := Aside0.mk (HB0.out.trans (hm.1.mono HB0.out.size))
   have HG2 := Aside0.mk (blk_below HG0.out hm.1)
   clear hm hw
   gi_wp2
   refine hK.out _ _ ?_
   clear hK K
   obtain ⟨n6, hn6⟩ : ∃ n, w2.heap.size = n := ⟨_, rfl⟩
   obtain ⟨W6, hW6⟩ : ∃ W, W = w2.alloc (.cells #[.pointer (some ⟨g, 0, none⟩)] 71 (0, 0)) := ⟨_, rfl⟩
   have hb26 : Below w2.heap.size w2 W6 := by rw [hW6]; exact below_alloc (Below.refl _ _) _
   have HB6 : Aside0 (Below w.heap.size w W6) := ⟨HB2.out.trans (hb26.mono HB2.out.size)⟩
   have HG6 : Aside0 (W6.heap[n6]? = some (.cells #[.pointer (some ⟨g, 0, none⟩)] 71 (0, 0))) := ⟨by rw [hW6, ← hn6]; exact blk_new _ _⟩
   have HGP := Aside0.mk (blk_below HG2.out hb26)
   have HW6 := Aside0.mk (HW.out.below hb26)
   rw [← hW6, hn6]
   clear hn6 hW6 hb26
   have y6 : W6.cell? ⟨n6, 0, none⟩ = some (.pointer (some ⟨g, 0, none⟩)) := (blk_cell HG6.out 0).trans rfl
   (refine wpB_seq_k (fun K hK => ?_); gi_wp2; refine hK.out _ _ ?_; clear hK K)
   (refine wpB_seq_k (fun K hK => ?_); gi_wp2; refine hK.out _ _ ?_; clear hK K)
   clear y6
   obtain ⟨n7, hn7⟩ : ∃ n, W6.heap.size = n := ⟨_, rfl⟩
   obtain ⟨W7, hW7⟩ : ∃ W, W = W6.alloc (.cells #[.slice none 0 0] 103 (0, 0)) := ⟨_, rfl⟩
   rw [← hW7, hn7]
   have HS7 : Aside0 (W7.heap.size = n7 + 1) := ⟨by rw [hW7, ← hn7]; simp⟩
   have HN7 := Aside0.mk hn7
   have HB7 : Aside0 (Below W6.heap.size W6 W7) := ⟨by rw [hW7]; exact below_alloc (Below.refl _ _) _⟩
   have HG7 : Aside0 (W7.heap[n7]? = some (.cells #[.slice none 0 0] 103 (0, 0))) := ⟨by rw [hW7, ← hn7]; exact blk_new _ _⟩
   clear hW7 hn7
   have y6 : W7.cell? ⟨n6, 0, none⟩ = some (.pointer (some ⟨g, 0, none⟩)) := (blk_cell (blk_below HG6.out HB7.out) 0).trans rfl
   refine wpB_seqB ?_
   refine wpB_seq_k (fun K hK => ?_)
   gi_wp2
   refine ⟨trivial, rfl, (causes_call g 0 W7).mono ?_⟩
   rintro e w7 ⟨rfl, hw7⟩
   have HSZ : Aside0 (w7.heap.size = W7.heap.size + 2) := ⟨by rw [hw7]; simp⟩
   have hb7 : Below W7.heap.size W7 w7 := by rw [hw7]; exact ((Below.refl _ W7).alloc (Nat.le_refl _) _).alloc (by simp) _
   have hc1 : w7.heap[W7.heap.size]? = some (.cells #[.pointer (some ⟨g, 0, none⟩)] 71 (0, 0)) := by rw [hw7]; exact (Below.heap_alloc _ _ _ (by simp)).trans (blk_new W7 _)
   have hc2 : w7.heap[W7.heap.size + 1]? = some (.cells #[.int .i64 0] 3 (0, 0)) := by rw [hw7]; have := blk_new (W7.alloc (.cells #[.pointer (some ⟨g, 0, none⟩)] 71 (0, 0))) (.cells #[.int .i64 0] 3 (0, 0)); rwa [World.size_alloc] at this
   have HJ0 : Aside0 (RowX 103 9 1 (.cells #[.pointer (some ⟨g, 0, none⟩)] 71 (0, 0)) (.cells #[.int .i64 0] 3 (0, 0)) W6 n7 W7.heap.size (W7.heap.size + 1) 0 [] w7) :=
    ⟨⟨HB7.out.trans (hb7.mono HB7.out.size), ⟨_, blk_below HG7.out hb7, World.ownsRow_nil _ _ _ _, by simp [Value.ownBlock], by simp [Value.ownBlock]⟩, hc1, hc2, by have := HS7.out; have := HN7.out; omega⟩⟩
   have HN : Aside0 (n7 < w7.heap.size) := ⟨by have := HS7.out; have := HSZ.out; omega⟩
   clear hw7 hb7 hc1 hc2
   gi_wp2
   refine hK.out _ _ ?_
   clear hK K y6
   refine wpB_block ?_
   refine wpB_rangeFuncX (gf := 61) (lb := #[.pointer (some ⟨W7.heap.size, 0, none⟩), .pointer (some ⟨W7.heap.size + 1, 0, none⟩)]) rfl (enters_of Tryz.func61 (by kernel_rfl) rfl) ⟨_, Tryz.func29⟩ (causes_iter HSH.out S 0 HN0.out g _ _ _ _ _ _ _ _ W7.heap.size (W7.heap.size + 1) W6 HW6.out) ?hsz
    (fun s X => RowX 103 9 1 (.cells #[.pointer (some ⟨g, 0, none⟩)] 71 (0, 0)) (.cells #[.int .i64 0] 3 (0, 0)) W6 n7 W7.heap.size (W7.heap.size + 1) (s.flatMap (textOne l0_0)).length ((s.flatMap (textOne l0_0)).map Value.string) X) (fun _ _ => False) ?h0 ?hD (rowEx n7 103) (rowEx_calm HN.out) (fun s X h => h.exl) ?hst ?hstp ?hround ?hdone ?hpanic
   case hsz => rintro v args rfl; rfl
   case h0 => exact HJ0.out
   case hD => exact fun s X h => ⟨h.b, h.d1, h.d2⟩
   case hst => exact fun s X X' h hs => h.stay rfl rfl hs (by have := HS7.out; have := HSZ.out; have := HN7.out; omega)
   case hstp => exact fun _ _ _ h _ => h
   case hpanic => exact fun _ _ _ _ h _ => h.elim
   case hround =>
    rintro ly s u t args X hSS hl1 hl2 hJ rfl
    obtain ⟨Ls, hLs⟩ : ∃ Ls, s.flatMap (textOne l0_0) = Ls := ⟨_, rfl⟩
    have HLS := Aside0.mk hLs
    have hJ2 : RowX 103 9 1 (.cells #[.pointer (some ⟨g, 0, none⟩)] 71 (0, 0)) (.cells #[.int .i64 0] 3 (0, 0)) W6 n7 W7.heap.size (W7.heap.size + 1) Ls.length (Ls.map Value.string) X := by rw [← hLs]; exact hJ
    have HJ := Aside0.mk hJ2
    have HL1 := Aside0.mk hl1
    have hsc : causesL l0_0 S ((0 : Nat) : Int) = s ++ u :: t := hSS
    obtain ⟨⟨n, rfl, -, hnl, -⟩, hup⟩ := told_all HUP.out S l0_0.length 0 (by omega) HN0.out u (by rw [hsc]; simp)
    have HSL : Aside0 (Ls.length + 3 ≤ 1000000) := ⟨by
     have h1 := HF1.out
     rw [← HLL.out, show causesL l0_0 S 0 = s ++ (n : Int) :: t from hsc, List.flatMap_append, List.flatMap_cons, List.length_append, List.length_append, hLs] at h1
     have h2 : (textOne l0_0 (n : Int)).length = 3 := rfl
     omega⟩
    obtain ⟨dd, hdd⟩ : ∃ dd, (aboveL l0_0 (n : Int)).length = dd + 1 := ⟨(aboveL l0_0 (n : Int)).length - 1, by have := List.length_pos_of_mem hup; omega⟩
    have HAL := Aside0.mk hdd
    have hd66 : dd ≤ 66 := by
     have h1 := aboveF_len l0_0 (l0_0.length + 1) (rd_T39 l0_0 (n : Int)).f5
     rw [← above_at hnl] at h1
     have h2 := HN64.out
     omega
    obtain ⟨rs, hrs⟩ : ∃ rs : ByteArray, rs = ⟨(Lib.repeatL [32, 32] dd).toArray⟩ := ⟨_, rfl⟩
    have HRE : Aside0 (∀ W : World, Calls Tryz.prog 57 #[.string ⟨#[32, 32]⟩, .int .i64 (wrap64 (dd : Int))] W fun e w' => e = .returned (.string rs) ∧ Below W.heap.size W w') := ⟨fun W => by
     rw [show wrap64 (dd : Int) = (dd : Int) from by unfold wrap64; omega, hrs]
     exact repeat_walk ⟨#[32, 32]⟩ dd W (by omega) (by show 2 * dd ≤ _; omega)⟩
    obtain ⟨nm, hnm⟩ : ∃ nm, (rd_T39 l0_0 (n : Int)).f0 = nm := ⟨_, rfl⟩
    have HTO : Aside0 (textOne l0_0 (n : Int) = [rs, nm, ⟨#[10]⟩]) := ⟨by unfold textOne; rw [hdd, Nat.add_sub_cancel, indent_eq, hrs, hnm]⟩
    have HNM := Aside0.mk hnm
    have hn0 : (0 : Int) ≤ n := by omega
    have hn1 : (n : Int) < (l0_0.length : Int) := by omega
    clear hSS hl1 hl2 hJ hJ2 hLs hsc hup hdd hd66 hrs hnm
    gi_wp2
    refine ⟨Below.refl _ _, ?_⟩
    intro X4 hku hbl
    have hJ4 := HJ.out.stay rfl rfl hbl (by have := HS7.out; have := HSZ.out; have := HN7.out; have := HL1.out; omega)
    obtain ⟨v, r1', r2', -⟩ := hJ4.row
    have HJ4 := Aside0.mk hJ4
    have HR1 := Aside0.mk r1'
    have HR2 := Aside0.mk r2'
    have hwx := HW6.out.below hJ4.b
    have x6 : X4.drew.cell? ⟨n6, 0, none⟩ = some (.pointer (some ⟨g, 0, none⟩)) := (blk_cell (blk_drew (blk_below HG6.out hJ4.b)) 0).trans rfl
    have xg : X4.drew.cell? ⟨g, 3, none⟩ = some (.pointer (some ⟨gv, 0, none⟩)) := (blk_cell (blk_drew hwx.blk) 3).trans rfl
    have hp2 : X4.drew.cell? ⟨w.heap.size, 0, none⟩ = some (.slice A0_0 l0_0.length c0_0) := (blk_cell (blk_drew (blk_below HGP.out hJ4.b)) 0).trans rfl
    obtain ⟨ai, A7, c7, e1, xn, -⟩ := at_T39 (Kd.C_drew (Kd.C_below HP.out (HB6.out.trans (hJ4.b.mono HB6.out.size)))) (n : Int) hn0 hn1
    rw [Int.toNat_natCast, HNM.out] at xn
    have x2 : X4.drew.cell? ⟨w.heap.size, 0, none⟩ = some (.slice (some ai) l0_0.length c0_0) := by rw [hp2, e1]
    have HAB := Aside0.mk (fun (W : World) (hb : Below X4.heap.size X4 W) => above_any (hwx.below hb).vw HUP.out (n : Int))
    clear r1' r2' hku hbl HJ hwx hp2 e1 hJ4
    gi_wp2
    refine startIn_ (n := 19) (S := fun w' => w'.cell? ⟨n7, 0, none⟩ = some v ∧ w'.cell? ⟨n6, 0, none⟩ = some (.pointer (some ⟨g, 0, none⟩)) ∧ w'.cell? ⟨g, 3, none⟩ = some (.pointer (some ⟨gv, 0, none⟩)) ∧ w'.cell? ⟨w.heap.size, 0, none⟩ = some (.slice (some ai) l0_0.length c0_0) ∧ w'.cell? (ai.add (n * 8)) = some (.string nm)) (ds := [17, 18]) #[false, false, false, false, false, false, false, false, false, false, false, false, false, false, false, false, false, false, false] (by kernel_rfl) (nodefer_ (by kernel_rfl)) (by rintro ⟨a, w, h⟩; exact h) rfl rfl ⟨(blk_cell (blk_drew HR1.out) 0).trans rfl, x6, xg, x2, xn⟩ (fun hHeld => ?_)
    refine pure_ (i := 5) (N := some 22) (v := ?_) (a' := ?_) #[false, false, false, false, false, true, false, false, false, false, false, false, false, false, false, false, false, false, false] rfl rfl (by kernel_rfl) (fun _ _ _ h => h) (Or.inl ⟨by rfl, ?_⟩) ?_ ?_
    rotate_left
    ·intro w'
     go_simp
     with_reducible rfl
    rotate_left
    ·simp only [Act.put, List.setIfInBounds_toArray, List.set_cons_zero, List.set_cons_succ, i64_w, i32_w]
     rfl
    refine pure_ (i := 10) (N := some 27) (v := ?_) (a' := ?_) #[false, false, false, false, false, true, false, false, false, false, true, false, false, false, false, false, false, false, false] rfl rfl (by kernel_rfl) (fun _ _ _ h => h) (Or.inl ⟨by rfl, ?_⟩) ?_ ?_
    rotate_left
    ·intro w'
     go_simp
     with_reducible rfl
    rotate_left
    ·simp only [Act.put, List.setIfInBounds_toArray, List.set_cons_zero, List.set_cons_succ, i64_w, i32_w]
     rfl
    refine pure_ (i := 12) (N := some 29) (v := ?_) (a' := ?_) #[false, false, false, false, false, true, false, false, false, false, true, false, true, false, false, false, false, false, false] rfl rfl (by kernel_rfl) (fun _ _ _ h => h) (Or.inl ⟨by rfl, ?_⟩) ?_ ?_
    rotate_left
    ·intro w'
     go_simp
     with_reducible rfl
    rotate_left
    ·simp only [Act.put, List.setIfInBounds_toArray, List.set_cons_zero, List.set_cons_succ, i64_w, i32_w]
     rfl
    refine take_ (i := 0) (N := some 17) (v := ?_) (a' := ?_) #[true, false, false, false, false, true, false, false, false, false, true, false, true, false, false, false, false, false, false] rfl rfl (by kernel_rfl) (fun _ _ _ h => h) (Or.inl ⟨by rfl, ?_⟩) hHeld ?_ ?_
    rotate_left
    ·rintro w' ⟨s0, s1, s2, s3, s4⟩
     go_simp
     with_reducible rfl
    rotate_left
    ·simp only [Act.put, List.setIfInBounds_toArray, List.set_cons_zero, List.set_cons_succ, i64_w, i32_w]
     rfl
    refine take_ (i := 1) (N := some 18) (v := ?_) (a' := ?_) #[true, true, false, false, false, true, false, false, false, false, true, false, true, false, false, false, false, false, false] rfl rfl (by kernel_rfl) (fun _ _ _ h => h) (Or.inl ⟨by rfl, ?_⟩) hHeld ?_ ?_
    rotate_left
    ·rintro w' ⟨s0, s1, s2, s3, s4⟩
     go_simp
     with_reducible rfl
    rotate_left
    ·simp only [Act.put, List.setIfInBounds_toArray, List.set_cons_zero, List.set_cons_succ, i64_w, i32_w]
     rfl
    refine pure_ (i := 2) (N := some 19) (v := ?_) (a' := ?_) #[true, true, true, false, false, true, false, false, false, false, true, false, true, false, false, false, false, false, false] rfl rfl (by kernel_rfl) (fun _ _ _ h => h) (Or.inl ⟨by rfl, ?_⟩) ?_ ?_
    rotate_left
    ·intro w'
     go_simp
     with_reducible rfl
    rotate_left
    ·simp only [Act.put, List.setIfInBounds_toArray, List.set_cons_zero, List.set_cons_succ, i64_w, i32_w]
     rfl
    refine pure_ (i := 3) (N := some 20) (v := ?_) (a' := ?_) #[true, true, true, true, false, true, false, false, false, false, true, false, true, false, false, false, false, false, false] rfl rfl (by kernel_rfl) (fun _ _ _ h => h) (Or.inl ⟨by rfl, ?_⟩) ?_ ?_
    rotate_left
    ·intro w'
     go_simp
     with_reducible rfl
    rotate_left
    ·simp only [Act.put, List.setIfInBounds_toArray, List.set_cons_zero, List.set_cons_succ, i64_w, i32_w]
     rfl
    refine take_ (i := 4) (N := some 21) (v := ?_) (a' := ?_) #[true, true, true, true, true, true, false, false, false, false, true, false, true, false, false, false, false, false, false] rfl rfl (by kernel_rfl) (fun _ _ _ h => h) (Or.inl ⟨by rfl, ?_⟩) hHeld ?_ ?_
    rotate_left
    ·rintro w' ⟨s0, s1, s2, s3, s4⟩
     go_simp
     with_reducible rfl
    rotate_left
    ·simp only [Act.put, List.setIfInBounds_toArray, List.set_cons_zero, List.set_cons_succ, i64_w, i32_w]
     rfl
    refine take_ (i := 11) (N := some 28) (v := ?_) (a' := ?_) #[true, true, true, true, true, true, false, false, false, false, true, true, true, false, false, false, false, false, false] rfl rfl (by kernel_rfl) (fun _ _ _ h => h) (Or.inl ⟨by rfl, ?_⟩) hHeld ?_ ?_
    rotate_left
    ·rintro w' ⟨s0, s1, s2, s3, s4⟩
     go_simp
     with_reducible rfl
    rotate_left
    ·simp only [Act.put, List.setIfInBounds_toArray, List.set_cons_zero, List.set_cons_succ, i64_w, i32_w]
     rfl
    refine pure_ (i := 13) (N := some 30) (v := ?_) (a' := ?_) #[true, true, true, true, true, true, false, false, false, false, true, true, true, true, false, false, false, false, false] rfl rfl (by kernel_rfl) (fun _ _ _ h => h) (Or.inl ⟨by rfl, ?_⟩) ?_ ?_
    rotate_left
    ·intro w'
     go_simp
     with_reducible rfl
    rotate_left
    ·simp only [Act.put, List.setIfInBounds_toArray, List.set_cons_zero, List.set_cons_succ, i64_w, i32_w]
     rfl
    refine pure_ (i := 14) (N := some 31) (v := ?_) (a' := ?_) #[true, true, true, true, true, true, false, false, false, false, true, true, true, true, true, false, false, false, false] rfl rfl (by kernel_rfl) (fun _ _ _ h => h) (Or.inl ⟨by rfl, ?_⟩) ?_ ?_
    rotate_left
    ·intro w'
     go_simp
     with_reducible rfl
    rotate_left
    ·simp only [Act.put, List.setIfInBounds_toArray, List.set_cons_zero, List.set_cons_succ, i64_w, i32_w]
     rfl
    refine take_ (i := 15) (N := some 32) (v := ?_) (a' := ?_) #[true, true, true, true, true, true, false, false, false, false, true, true, true, true, true, true, false, false, false] rfl rfl (by kernel_rfl) (fun _ _ _ h => h) (Or.inl ⟨by rfl, ?_⟩) hHeld ?_ ?_
    rotate_left
    ·rintro w' ⟨s0, s1, s2, s3, s4⟩
     go_simp
     with_reducible rfl
    rotate_left
    ·simp only [Act.put, List.setIfInBounds_toArray, List.set_cons_zero, List.set_cons_succ, i64_w, i32_w]
     rfl
    refine one_ (i := 6) (N := some 23) #[true, true, true, true, true, true, true, false, false, false, true, true, true, true, true, true, false, false, false] rfl rfl (by kernel_rfl) (by decide) (fun K hK => ?_)
    refine goes_ Tryz.func40 (by kernel_rfl) rfl #[.pointer (some ⟨gv, 0, none⟩), .int .i64 n] (by rfl) rfl rfl (by simp only [List.map_toArray, List.map_cons, List.map_nil]; rfl) ?_
    with_reducible refine ((HAB.out X4.drew (below_drewN (Below.refl _ _) 1))).mono ?_
    rintro e w5 ⟨v5, rfl, hR5, hb5⟩
    refine ⟨_, rfl, ?_⟩
    obtain ⟨A5, c5, rfl⟩ := Kd.R_slice hR5
    rw [HAL.out]
    have HB5 := Aside0.mk hb5
    refine hK.out _ _ ⟨(cell_bel HB5.out hHeld.1), (cell_bel HB5.out hHeld.2.1), (cell_bel HB5.out hHeld.2.2.1), (cell_bel HB5.out hHeld.2.2.2.1), (cell_bel HB5.out hHeld.2.2.2.2)⟩ (fun hHeld => ?_)
    clear hK K
    refine norm_ (a' := ?_) ?_ ?_
    rotate_left
    ·show Act.put _ (some 23) _ = _
     simp only [Act.put, List.setIfInBounds_toArray, List.set_cons_zero, List.set_cons_succ, i64_w, i32_w]
     rfl
    refine pure_ (i := 7) (N := some 24) (v := ?_) (a' := ?_) #[true, true, true, true, true, true, true, true, false, false, true, true, true, true, true, true, false, false, false] rfl rfl (by kernel_rfl) (fun _ _ _ h => h) (Or.inl ⟨by rfl, ?_⟩) ?_ ?_
    rotate_left
    ·intro w'
     go_simp
     with_reducible rfl
    rotate_left
    ·simp only [Act.put, List.setIfInBounds_toArray, List.set_cons_zero, List.set_cons_succ, i64_w, i32_w]
     rfl
    refine pure_ (i := 8) (N := some 25) (v := ?_) (a' := ?_) #[true, true, true, true, true, true, true, true, true, false, true, true, true, true, true, true, false, false, false] rfl rfl (by kernel_rfl) (fun _ _ _ h => h) (Or.inl ⟨by rfl, ?_⟩) ?_ ?_
    rotate_left
    ·intro w'
     go_simp
     with_reducible rfl
    rotate_left
    ·simp only [Act.put, List.setIfInBounds_toArray, List.set_cons_zero, List.set_cons_succ, i64_w, i32_w]
     rfl
    refine one_ (i := 9) (N := some 26) #[true, true, true, true, true, true, true, true, true, true, true, true, true, true, true, true, false, false, false] rfl rfl (by kernel_rfl) (by decide) (fun K hK => ?_)
    refine goes_ Tryz.func57 (by kernel_rfl) rfl #[.string ⟨#[32, 32]⟩, .int .i64 (wrap64 (dd : Int))] (by rfl) rfl rfl (by simp only [List.map_toArray, List.map_cons, List.map_nil]; rfl) ?_
    with_reducible refine ((HRE.out w5)).mono ?_
    rintro e w6 ⟨rfl, hb6⟩
    refine ⟨_, rfl, ?_⟩
    have HB6 := Aside0.mk hb6
    refine hK.out _ _ ⟨(cell_bel HB6.out hHeld.1), (cell_bel HB6.out hHeld.2.1), (cell_bel HB6.out hHeld.2.2.1), (cell_bel HB6.out hHeld.2.2.2.1), (cell_bel HB6.out hHeld.2.2.2.2)⟩ (fun hHeld => ?_)
    clear hK K
    refine norm_ (a' := ?_) ?_ ?_
    rotate_left
    ·show Act.put _ (some 26) _ = _
     simp only [Act.put, List.setIfInBounds_toArray, List.set_cons_zero, List.set_cons_succ, i64_w, i32_w]
     rfl
    refine one_ (i := 16) (N := some 33) #[true, true, true, true, true, true, true, true, true, true, true, true, true, true, true, true, true, false, false] rfl rfl (by kernel_rfl) (by decide) (fun K hK => ?_)
    refine value_ (w1 := ?_) (v := ?_) (by rfl) rfl ?_ ?_
    rotate_left 2
    ·go_simp
     constructor
     ·rfl
     ·rfl
    refine hK.out _ _ ⟨(cell_al hHeld.1), (cell_al hHeld.2.1), (cell_al hHeld.2.2.1), (cell_al hHeld.2.2.2.1), (cell_al hHeld.2.2.2.2)⟩ (fun hHeld => ?_)
    clear hK K
    refine norm_ (a' := ?_) ?_ ?_
    rotate_left
    ·show Act.put _ (some 33) _ = _
     simp only [Act.put, List.setIfInBounds_toArray, List.set_cons_zero, List.set_cons_succ, i64_w, i32_w]
     rfl
    refine last_ (i := 17) (N := some 34) #[true, true, true, true, true, true, true, true, true, true, true, true, true, true, true, true, true, true, false] rfl rfl (by kernel_rfl) (by decide) (fun K hK => ?_)
    have hb45 : Below X4.heap.size X4 w5 := (below_drewN (Below.refl X4.heap.size X4) 1).trans (HB5.out.mono (Nat.le_of_eq rfl))
    have hb46 : Below X4.heap.size X4 w6 := hb45.trans (HB6.out.mono hb45.size)
    have hj6 := HJ4.out.stay rfl rfl (Stay.of_below (n := X4.heap.size) hb46 (Nat.le_refl _) (Nat.le_refl _)) HJ4.out.b.size
    have hr6 : w6.heap[n7]? = some (.cells #[v] 103 (0, 0)) := blk_below HR1.out hb46
    have ho6 := ownsRow_stay HR2.out (Stay.of_below (n := X4.heap.size) hb46 (Nat.le_refl _) (Nat.le_refl _))
    obtain ⟨v', w8, hrun, hown', hgrow, hfr⟩ := run_append_fresh (P := Tryz.prog) (w6.alloc (.cells #[.string rs, .string nm, .string ⟨#[10]⟩] 9 (0, 0))) W6.heap.size 103 103 9 i0 _ 1 16 Tryz.underlying103 hi hz0 hz1 hz2 rfl (by decide) v _ _ (row_alloc ho6 (.cells #[.string rs, .string nm, .string ⟨#[10]⟩] 9 (0, 0))) ⟨w6.heap.size, 0, none⟩ 3 3 [.string rs, .string nm, .string ⟨#[10]⟩] rfl (strs_cells w6 rs nm ⟨#[10]⟩) (strs_one rs nm ⟨#[10]⟩) (by have := HSL.out; unfold maxLen; omega) (by have := HSL.out; omega) (by have h1 := hj6.b.size; simp; omega)
    obtain ⟨g', cap', rfl⟩ := ownsRow_succ3 hown'
    obtain ⟨hj, hk⟩ := hj6.step hr6 (by decide) hown' hgrow hfr
    have hv1 : Boxed w8 n7 103 v := (Boxed.appended (W := w6) (B := n7) (n₀ := W6.heap.size) hr6 (by decide) ho6 hj6.b.size hj6.lo.1 hown' hgrow).1
    have hc1 := hv1.cell
    have hf1 := hv1.frozen
    have HJ5 := Aside0.mk hj
    have HK5 := Aside0.mk ((KeepX.of_below (B := w7.heap.size) (rowEx_calm (n8 := n7) (t := 103) (B := X4.heap.size) (by have := HJ4.out.lo; have h9 := (Array.getElem?_eq_some_iff.1 HR1.out).1; omega)) hb46 (Nat.le_refl _) (Nat.le_refl _)).trans (hk w7.heap.size (by have := HN.out; omega)))
    refine value_ (w1 := w8) (v := .slice (some ⟨g', 0, none⟩) (Ls.length + 3) cap') (by rfl) rfl (by simp [execOp, resolve, invoke, builtin, Act.eval, hrun, Result.andThen]) ?_
    clear hb45 hb46 hj6 hr6 ho6 hrun hown' hgrow hfr hj hk hv1
    refine hK.out _ _ ?_
    clear hK K
    refine norm_ (a' := ?_) ?_ ?_
    rotate_left
    ·show Act.put _ (some 34) _ = _
     simp only [Act.put, List.setIfInBounds_toArray, List.set_cons_zero, List.set_cons_succ, i64_w, i32_w]
     rfl
    refine last_ (i := 18) (N := none) #[true, true, true, true, true, true, true, true, true, true, true, true, true, true, true, true, true, true, true] rfl rfl (by kernel_rfl) (by decide) (fun K hK => ?_)
    refine skip_ (w1 := ?_) (by rfl) rfl ?_ ?_
    rotate_left
    ·go_simp
     rfl
    refine hK.out _ _ ?_
    clear hK K
    refine done_ (by kernel_rfl) ?_
    exact ⟨HK5.out, by show RowX _ _ _ _ _ _ _ _ _ ((s ++ [(n : Int)]).flatMap (textOne l0_0)).length (((s ++ [(n : Int)]).flatMap (textOne l0_0)).map Value.string) _; rw [List.flatMap_append, List.flatMap_cons, List.flatMap_nil, List.append_nil, HTO.out, HLS.out, List.length_append, List.map_append]; exact HJ5.out⟩
   case hdone =>
    intro d Wd hd hJd hmark hxd
    have hJd2 : RowX 103 9 1 (.cells #[.pointer (some ⟨g, 0, none⟩)] 71 (0, 0)) (.cells #[.int .i64 0] 3 (0, 0)) W6 n7 W7.heap.size (W7.heap.size + 1) (L.flatMap (textOne l0_0)).length ((L.flatMap (textOne l0_0)).map Value.string) Wd := by rw [← HLL.out]; exact hJd
    have HJD := Aside0.mk hJd2
    have HMK := Aside0.mk hmark
    obtain ⟨v, r1', r2', -⟩ := hJd2.row
    have HJN := Aside0.mk (join_row r2' HF1.out HF2.out)
    have cn : Wd.cell? ⟨n7, 0, none⟩ = some v := (blk_cell r1' 0).trans rfl
    clear hJd hJd2 hmark hxd r1' r2'
    show wpB _ _ _ _ _ _
    refine wpB_in ?_
    gi_wp2
    refine ⟨trivial, rfl, (callsIn_wide.2 HJN.out).mono ?_⟩
    rintro e W9 ⟨rfl, hb⟩
    have HB9 := Aside0.mk hb
    clear hb cn
    gi_wp2
    refine leaves_marks (B := w7.heap.size) .returning (by simp) [d] W9 (Marks.cons (Marks.nil _ _) hd (by simp) (blk_below HMK.out HB9.out)) (fun W' hW' => ?_)
    refine ⟨.tuple #[.string r1, .int .i64 0], by rw [← HE1.out]; simp [results, Tryz.results29, go_sem], rfl, ?_⟩
    exact HB6.out.trans (((HJD.out.b.trans (HB9.out.mono HJD.out.b.size)).trans (hW'.mono (by have := HS7.out; have := HSZ.out; have := HN7.out; omega))).mono HB6.out.size)
 ·rw [if_neg hok2] at h
  cases h
end Go.Proofs.YtloijngccppfgaaGreat.F
end

section
namespace Go.Proofs.YtloijngccppfgaaGreat.F
open Go.RowKit Go.Proofs.YtloijngccppfgaaGreatW.PrintWords Go.Proofs.YtloijngccppfgaaGreatW.PrintLast Go.Proofs.YtloijngccppfgaaGreatW.PrintMore
attribute [local go_sem] max2_int min2_int max_two min_two max_three min_three max_four min_four
set_option linter.unusedVariables false
set_option linter.unusedSimpArgs false
def argosylaw32_both.l : List BodyK := [⟨[⟨⟨#[97]⟩, ⟨#[117]⟩, [], false, false, []⟩]⟩, ⟨[⟨⟨#[115]⟩, ⟨#[]⟩, [], true, true, [⟨[⟨⟨#[98]⟩, ⟨#[117]⟩, [], false, false, []⟩]⟩]⟩]⟩]
def argosylaw32_both.f : Option (List S39) := (plan_Make.f (⟨#[116]⟩ : ByteArray) argosylaw32_both.l).bind fun bt => some bt.1
theorem nilS_ (W : World) : Kd.string.C W none 0 [] := ⟨rfl, by omega, fun h => absurd h (by omega)⟩
theorem nilB_ (W : World) : Kd.C k110 W none 0 [] := ⟨rfl, by omega, fun h => absurd h (by omega)⟩
theorem node1_ {W : World} {A : Nat} {nm un : ByteArray} {sb vi : Bool} {AB : Option Addr} {cB : Nat} {al : List BodyK} (hl : al.length ≤ cB) (hal : Kd.C k110 W AB al.length al)
  (a0 : W.cell? ⟨A, 0, none⟩ = some (.string nm)) (a1 : W.cell? ⟨A, 1, none⟩ = some (.string un)) (a2 : W.cell? ⟨A, 2, none⟩ = some (.slice none 0 0)) (a3 : W.cell? ⟨A, 3, none⟩ = some (.bool sb)) (a4 : W.cell? ⟨A, 4, none⟩ = some (.bool vi)) (a5 : W.cell? ⟨A, 5, none⟩ = some (.slice AB al.length cB)) :
  Kd.C k112 W (some ⟨A, 0, none⟩) 1 ([⟨nm, un, [], sb, vi, al⟩] : List S112) := by
 refine ⟨rfl, by omega, fun _ => ⟨_, rfl, fun j p hj => ?_⟩⟩
 match j, hj with
 | 0, hj =>
  obtain rfl := Option.some.inj hj
  refine ⟨[.string nm, .string un, .slice none 0 0, .bool sb, .bool vi, .slice AB al.length cB], rfl, k112_mk W (⟨nm, un, [], sb, vi, al⟩ : S112) (Nat.le_refl _) (nilS_ W) hl hal, fun i u hu => ?_⟩
  match i, hu with
  | 0, hu => obtain rfl := Option.some.inj hu; exact a0
  | 1, hu => obtain rfl := Option.some.inj hu; exact a1
  | 2, hu => obtain rfl := Option.some.inj hu; exact a2
  | 3, hu => obtain rfl := Option.some.inj hu; exact a3
  | 4, hu => obtain rfl := Option.some.inj hu; exact a4
  | 5, hu => obtain rfl := Option.some.inj hu; exact a5
theorem body1_ {W : World} {B N : Nat} {x : S112} (hn : Kd.C k112 W (some ⟨N, 0, none⟩) 1 [x]) (b0 : W.cell? ⟨B, 0, none⟩ = some (.slice (some ⟨N, 0, none⟩) 1 1)) : Kd.C k110 W (some ⟨B, 0, none⟩) 1 ([⟨[x]⟩] : List S110) := by
 refine ⟨rfl, by omega, fun _ => ⟨_, rfl, fun j p hj => ?_⟩⟩
 match j, hj with
 | 0, hj =>
  obtain rfl := Option.some.inj hj
  refine ⟨[.slice (some ⟨N, 0, none⟩) 1 1], rfl, k110_mk W _ (Nat.le_refl _) hn, fun i u hu => ?_⟩
  match i, hu with
  | 0, hu => obtain rfl := Option.some.inj hu; exact b0
theorem body2_ {W : World} {X A S : Nat} {x y : S112} (ha : Kd.C k112 W (some ⟨A, 0, none⟩) 1 [x]) (hs : Kd.C k112 W (some ⟨S, 0, none⟩) 1 [y]) (r0 : W.cell? ⟨X, 0, none⟩ = some (.slice (some ⟨A, 0, none⟩) 1 1)) (r1 : W.cell? ⟨X, 1, none⟩ = some (.slice (some ⟨S, 0, none⟩) 1 1)) : Kd.C k110 W (some ⟨X, 0, none⟩) 2 ([⟨[x]⟩, ⟨[y]⟩] : List S110) := by
 refine ⟨rfl, by omega, fun _ => ⟨_, rfl, fun j p hj => ?_⟩⟩
 match j, hj with
 | 0, hj =>
  obtain rfl := Option.some.inj hj
  refine ⟨[.slice (some ⟨A, 0, none⟩) 1 1], rfl, k110_mk W _ (Nat.le_refl _) ha, fun i u hu => ?_⟩
  match i, hu with
  | 0, hu => obtain rfl := Option.some.inj hu; exact r0
 | 1, hj =>
  obtain rfl := Option.some.inj hj
  refine ⟨[.slice (some ⟨S, 0, none⟩) 1 1], rfl, k110_mk W _ (Nat.le_refl _) hs, fun i u hu => ?_⟩
  match i, hu with
  | 0, hu => obtain rfl := Option.some.inj hu; exact r1
theorem nodeB_ {W : World} {A : Nat} {nm un : ByteArray} {sb vi : Bool} {AB : Option Addr} {cB : Nat} {al : List BodyK} (hl : al.length ≤ cB) (hal : Kd.C k110 W AB al.length al)
  (h : W.heap[A]? = some (.cells #[.string nm, .string un, .slice none 0 0, .bool sb, .bool vi, .slice AB al.length cB] 112 (0, 0))) : Kd.C k112 W (some ⟨A, 0, none⟩) 1 ([⟨nm, un, [], sb, vi, al⟩] : List S112) :=
 node1_ hl hal ((blk_cell h 0).trans rfl) ((blk_cell h 1).trans rfl) ((blk_cell h 2).trans rfl) ((blk_cell h 3).trans rfl) ((blk_cell h 4).trans rfl) ((blk_cell h 5).trans rfl)
theorem nodeN_ {W : World} {A : Nat} {nm un : ByteArray} {sb vi : Bool} (h : W.heap[A]? = some (.cells #[.string nm, .string un, .slice none 0 0, .bool sb, .bool vi, .slice none 0 0] 112 (0, 0))) : Kd.C k112 W (some ⟨A, 0, none⟩) 1 ([⟨nm, un, [], sb, vi, []⟩] : List S112) := nodeB_ (cB := 0) (al := []) (Nat.le_refl _) (nilB_ W) h
theorem both_rows {W : World} {X A S B : Nat} (hx : W.heap[X]? = some (.cells #[.slice (some ⟨A, 0, none⟩) 1 1, .slice (some ⟨S, 0, none⟩) 1 1] 110 (0, 0)))
  (ha : W.heap[A]? = some (.cells #[.string ⟨#[97]⟩, .string ⟨#[117]⟩, .slice none 0 0, .bool false, .bool false, .slice none 0 0] 112 (0, 0)))
  (hs : W.heap[S]? = some (.cells #[.string ⟨#[115]⟩, .string ⟨#[]⟩, .slice none 0 0, .bool true, .bool true, .slice (some ⟨B, 0, none⟩) 1 1] 112 (0, 0)))
  (hb : Kd.C k110 W (some ⟨B, 0, none⟩) 1 ([⟨[⟨⟨#[98]⟩, ⟨#[117]⟩, [], false, false, []⟩]⟩] : List S110)) :
  Kd.C k110 W (some ⟨X, 0, none⟩) 2 argosylaw32_both.l :=
 body2_ (nodeN_ ha) (nodeB_ (al := [⟨[⟨⟨#[98]⟩, ⟨#[117]⟩, [], false, false, []⟩]⟩]) (Nat.le_refl _) hb hs) ((blk_cell hx 0).trans rfl) ((blk_cell hx 1).trans rfl)
theorem blk_newA {W : World} {g : Nat} (o : Obj) (h : W.heap.size = g) : (W.alloc o).heap[g]? = some o := by subst h; exact blk_new W o
theorem blk_far2 {W : World} {g b : Nat} {t : TypeId} {cs : Array Value} (h : W.heap[g]? = some (.cells cs t (0, 0))) (hp : g ≠ b) (u : Value) : (W.setCell ⟨b, 0, none⟩ u).heap[g]? = some (.cells cs t (0, 0)) := blk_far h (p := ⟨b, 0, none⟩) hp u
theorem farN_ {W : World} {n b : Nat} {v : Value} {l : List S39} (h : Kd.N k39 39 W n (fun k_ => n ≤ k_) v l) (hb : b < n) (u : Value) : Kd.N k39 39 (W.setCell ⟨b, 0, none⟩ u) n (fun k_ => n ≤ k_) v l := Kd.N_far (p := ⟨b, 0, none⟩) h (fun k_ hk => (by omega : k_ ≠ b)) u
theorem lowN_ {W : World} {n m : Nat} {v : Value} {l : List S39} (h : Kd.N k39 39 W n (fun k_ => n ≤ k_) v l) (hm : m ≤ n) : Kd.N k39 39 W m (fun k_ => m ≤ k_) v l := Kd.N_lower (Kd.N_mono (ok' := fun k_ => m ≤ k_) h (fun k_ hk => Nat.le_trans hm hk)) hm
theorem cut_ {p q : Prop} (h1 : p) (h2 : Aside0 p → q) : q := h2 ⟨h1⟩
theorem lift_ {w Wm w7 : World} (h0 : Below w.heap.size w Wm) (hb : Below Wm.heap.size Wm w7) : Below w.heap.size w w7 := h0.trans (hb.mono h0.size)
theorem both1_walk (s : ByteArray) (w : World) : Calls Tryz.prog 59 #[.string s] w fun e w' => e = .returned (.agg #[.slice (some ⟨w.heap.size + 1, 0, none⟩) 1 1]) ∧ w' = (w.alloc (.cells #[.slice (some ⟨w.heap.size + 1, 0, none⟩) 1 1] 110 (0, 0))).alloc (.cells #[.string s, .string ⟨#[117]⟩, .slice none 0 0, .bool false, .bool false, .slice none 0 0] 112 (0, 0)) := by
 have hu2 := Tryz.underlying110
 have hu3 := Tryz.underlying112
 go_enter Tryz.func59, Tryz.ntmps59
 go_wp2
 refine bodyPost_ret (results_cell_row rfl _ _ w.heap.size 110 #[.slice (some ⟨w.heap.size + 1, 0, none⟩) 1 1] (0, 0) _ rfl (blk_alloc (blk_new w _) _) Tryz.underlying110 rfl (by kernel_rfl)) rfl ?_
 exact ⟨rfl, rfl⟩
set_option maxHeartbeats 64000000 in
set_option maxRecDepth 100000 in
theorem argosylaw32_both.calls (r : List S39) (w : World) (h : argosylaw32_both.f = some r) :
  Calls Tryz.prog 30 #[] w fun e w' => ∃ v0_ : Value, e = .returned (.agg #[v0_]) ∧ Kd.N k39 39 w' w.heap.size (fun k_ => (w.heap.size ≤ k_)) v0_ r ∧ Below w.heap.size w w' := by
 obtain ⟨⟨t1, t2⟩, A1_, H⟩ := Option.bind_eq_some_iff.mp h
 have A1 := Aside0.mk A1_
 obtain rfl := Option.some.inj H
 clear h A1_ H
 have hu := Tryz.underlying24
 have hu2 := Tryz.underlying110
 have hu3 := Tryz.underlying112
 have hu4 := Tryz.underlying54
 have HE := Aside0.mk (enters_of Tryz.func59 (P := Tryz.prog) (f := 59) (by kernel_rfl) rfl)
 have eg := HE.out
 go_enter Tryz.func30, Tryz.ntmps30
 go_upto_region 3 with (go_at_call 59; refine (both1_walk _ _).mono ?_; rintro e w2 ⟨rfl, rfl⟩)
 obtain ⟨W3, hW3⟩ : ∃ W, W = (((((w.alloc (.cells #[.slice none 0 0] 24 (0, 0))).alloc (.cells #[.slice (some ⟨w.heap.size + 1 + 1, 0, none⟩) 1 1] 110 (0, 0))).alloc (.cells #[.string ⟨#[98]⟩, .string ⟨#[117]⟩, .slice none 0 0, .bool false, .bool false, .slice none 0 0] 112 (0, 0))).alloc (.cells #[.slice (some ⟨w.heap.size + 1 + 1, 0, none⟩) 1 1] 110 (0, 0))).alloc (.cells #[.string ⟨#[115]⟩, .string ⟨#[]⟩, .slice none 0 0, .bool true, .bool true, .slice (some ⟨w.heap.size + 1 + 1 + 1, 0, none⟩) 1 1] 112 (0, 0))) := ⟨_, rfl⟩
 rw [← hW3]
 have HB3 : Aside0 (Below w.heap.size w W3) := ⟨by rw [hW3]; repeat (first | exact Below.refl _ _ | refine below_alloc ?_ _)⟩
 have HG3 : Aside0 (W3.heap[w.heap.size]? = some (.cells #[.slice none 0 0] 24 (0, 0))) := ⟨by rw [hW3]; exact (by repeat (first | (with_reducible refine blk_newA _ ?_; simp only [World.size_alloc, show ∀ W : World, W.drew.heap.size = W.heap.size from fun _ => rfl] <;> rfl) | with_reducible refine blk_alloc ?_ _ | with_reducible refine blk_drew ?_))⟩
 have HN3 : Aside0 (Kd.C k110 W3 (some ⟨w.heap.size + 1 + 1 + 1, 0, none⟩) 1 ([⟨[⟨⟨#[98]⟩, ⟨#[117]⟩, [], false, false, []⟩]⟩] : List S110)) := ⟨body1_ (N := w.heap.size + 1 + 1) (nodeN_ (by rw [hW3]; exact (by repeat (first | (with_reducible refine blk_newA _ ?_; simp only [World.size_alloc, show ∀ W : World, W.drew.heap.size = W.heap.size from fun _ => rfl] <;> rfl) | with_reducible refine blk_alloc ?_ _ | with_reducible refine blk_drew ?_)))) ((blk_cell (show W3.heap[w.heap.size + 1 + 1 + 1]? = some (.cells #[.slice (some ⟨w.heap.size + 1 + 1, 0, none⟩) 1 1] 110 (0, 0)) from by rw [hW3]; exact (by repeat (first | (with_reducible refine blk_newA _ ?_; simp only [World.size_alloc, show ∀ W : World, W.drew.heap.size = W.heap.size from fun _ => rfl] <;> rfl) | with_reducible refine blk_alloc ?_ _ | with_reducible refine blk_drew ?_))) 0).trans rfl)⟩
 have HT3 : Aside0 (W3.heap[w.heap.size + 1 + 1 + 1 + 1]? = some (.cells #[.string ⟨#[115]⟩, .string ⟨#[]⟩, .slice none 0 0, .bool true, .bool true, .slice (some ⟨w.heap.size + 1 + 1 + 1, 0, none⟩) 1 1] 112 (0, 0))) := ⟨by rw [hW3]; exact (by repeat (first | (with_reducible refine blk_newA _ ?_; simp only [World.size_alloc, show ∀ W : World, W.drew.heap.size = W.heap.size from fun _ => rfl] <;> rfl) | with_reducible refine blk_alloc ?_ _ | with_reducible refine blk_drew ?_))⟩
 have HS3 : Aside0 (W3.heap.size = w.heap.size + 1 + 1 + 1 + 1 + 1) := ⟨by rw [hW3]; simp only [World.size_alloc]⟩
 obtain ⟨T2, hT2⟩ : ∃ T, w.heap.size + 1 + 1 + 1 + 1 = T := ⟨_, rfl⟩
 obtain ⟨B, hB⟩ : ∃ B, w.heap.size + 1 + 1 + 1 = B := ⟨_, rfl⟩
 rw [hT2] at HT3 ⊢
 rw [hB] at HN3 HT3 ⊢
 have tl : T2 < W3.heap.size := blk_lt HT3.out
 have tn : ¬ T2 = W3.heap.size := by omega
 have tn1 : ¬ T2 = W3.heap.size + 1 := by omega
 have tn2 : ¬ T2 = W3.heap.size + 1 + 1 := by omega
 have tm : ¬ W3.heap.size = T2 := by omega
 have tm1 : ¬ W3.heap.size + 1 = T2 := by omega
 have tm2 : ¬ W3.heap.size + 1 + 1 = T2 := by omega
 have tl1 : T2 < W3.heap.size + 1 := by omega
 have tl2 : T2 < W3.heap.size + 1 + 1 := by omega
 have y0 : W3.cell? ⟨T2, 0, none⟩ = some (.string ⟨#[115]⟩) := (blk_cell HT3.out 0).trans rfl
 have y1 : W3.cell? ⟨T2, 1, none⟩ = some (.string ⟨#[]⟩) := (blk_cell HT3.out 1).trans rfl
 have y2 : W3.cell? ⟨T2, 2, none⟩ = some (.slice none 0 0) := (blk_cell HT3.out 2).trans rfl
 have y3 : W3.cell? ⟨T2, 3, none⟩ = some (.bool true) := (blk_cell HT3.out 3).trans rfl
 have y4 : W3.cell? ⟨T2, 4, none⟩ = some (.bool true) := (blk_cell HT3.out 4).trans rfl
 have y5 : W3.cell? ⟨T2, 5, none⟩ = some (.slice (some ⟨B, 0, none⟩) 1 1) := (blk_cell HT3.out 5).trans rfl
 clear hW3 hT2 hB
 go_region_with (first
  | (go_at_call 59; refine (both1_walk _ _).mono ?_; rintro e w2 ⟨rfl, rfl⟩; have q0_ := tn; clear q0_)
  | (go_at_call 23; refine (plan_Make.calls (⟨#[116]⟩ : ByteArray) _ _ argosylaw32_both.l t1 t2 _ (both_rows (by repeat (first | (with_reducible refine blk_newA _ ?_; simp only [World.size_alloc, show ∀ W : World, W.drew.heap.size = W.heap.size from fun _ => rfl] <;> rfl) | with_reducible refine blk_alloc ?_ _ | with_reducible refine blk_drew ?_)) (by repeat (first | (with_reducible refine blk_newA _ ?_; simp only [World.size_alloc, show ∀ W : World, W.drew.heap.size = W.heap.size from fun _ => rfl] <;> rfl) | with_reducible refine blk_alloc ?_ _ | with_reducible refine blk_drew ?_)) (by repeat (first | (with_reducible refine blk_newA _ ?_; simp only [World.size_alloc, show ∀ W : World, W.drew.heap.size = W.heap.size from fun _ => rfl] <;> rfl) | with_reducible refine blk_alloc ?_ _ | with_reducible refine blk_drew ?_)) (by (with_reducible repeat (first | apply Kd.C_alloc | apply Kd.C_drew)); exact HN3.out)) (Nat.le_refl _) A1.out).mono ?_; rintro e w7 ⟨v7, rfl, ho, hb⟩; obtain ⟨A7, c7, rfl⟩ := Kd.N_slice ho; have HB7 := Aside0.mk (lift_ (w := w) (by repeat (first | exact HB3.out | refine below_alloc ?_ _ | refine below_drewN ?_ 1)) hb); have HG7 := Aside0.mk (blk_below (g := w.heap.size) (o := .cells #[.slice none 0 0] 24 (0, 0)) (by (with_reducible repeat (first | refine blk_alloc ?_ _ | refine blk_drew ?_)); exact HG3.out) hb); simp only [World.size_alloc, show ∀ W : World, W.drew.heap.size = W.heap.size from fun _ => rfl] at ho; have HN := Aside0.mk ho; (first | (refine cut_ (p := w7.heap[W3.heap.size]? = some (.cells #[.slice none 0 0] 24 (0, 0))) ?_ ?_; refine blk_below ?_ hb; (repeat (first | (with_reducible refine blk_newA _ ?_; simp only [World.size_alloc, show ∀ W : World, W.drew.heap.size = W.heap.size from fun _ => rfl] <;> rfl) | with_reducible refine blk_alloc ?_ _ | with_reducible refine blk_drew ?_)); intro k3_; have c3_ : w7.cell? ⟨W3.heap.size, 0, none⟩ = some (.slice none 0 0) := (blk_cell k3_.out 0).trans rfl; have f3_ := blk_frozen k3_.out 0) | (refine cut_ (p := w7.heap[W3.heap.size + 1]? = some (.cells #[.slice none 0 0] 24 (0, 0))) ?_ ?_; refine blk_below ?_ hb; (repeat (first | (with_reducible refine blk_newA _ ?_; simp only [World.size_alloc, show ∀ W : World, W.drew.heap.size = W.heap.size from fun _ => rfl] <;> rfl) | with_reducible refine blk_alloc ?_ _ | with_reducible refine blk_drew ?_)); intro k3_; have c3_ : w7.cell? ⟨W3.heap.size + 1, 0, none⟩ = some (.slice none 0 0) := (blk_cell k3_.out 0).trans rfl; have f3_ := blk_frozen k3_.out 0) | (refine cut_ (p := w7.heap[W3.heap.size + 1 + 1]? = some (.cells #[.slice none 0 0] 24 (0, 0))) ?_ ?_; refine blk_below ?_ hb; (repeat (first | (with_reducible refine blk_newA _ ?_; simp only [World.size_alloc, show ∀ W : World, W.drew.heap.size = W.heap.size from fun _ => rfl] <;> rfl) | with_reducible refine blk_alloc ?_ _ | with_reducible refine blk_drew ?_)); intro k3_; have c3_ : w7.cell? ⟨W3.heap.size + 1 + 1, 0, none⟩ = some (.slice none 0 0) := (blk_cell k3_.out 0).trans rfl; have f3_ := blk_frozen k3_.out 0) | (refine cut_ (p := w7.heap[W3.heap.size + 1 + 1 + 1]? = some (.cells #[.slice none 0 0] 24 (0, 0))) ?_ ?_; refine blk_below ?_ hb; (repeat (first | (with_reducible refine blk_newA _ ?_; simp only [World.size_alloc, show ∀ W : World, W.drew.heap.size = W.heap.size from fun _ => rfl] <;> rfl) | with_reducible refine blk_alloc ?_ _ | with_reducible refine blk_drew ?_)); intro k3_; have c3_ : w7.cell? ⟨W3.heap.size + 1 + 1 + 1, 0, none⟩ = some (.slice none 0 0) := (blk_cell k3_.out 0).trans rfl; have f3_ := blk_frozen k3_.out 0) | (refine cut_ (p := w7.heap[W3.heap.size + 1 + 1 + 1 + 1]? = some (.cells #[.slice none 0 0] 24 (0, 0))) ?_ ?_; refine blk_below ?_ hb; (repeat (first | (with_reducible refine blk_newA _ ?_; simp only [World.size_alloc, show ∀ W : World, W.drew.heap.size = W.heap.size from fun _ => rfl] <;> rfl) | with_reducible refine blk_alloc ?_ _ | with_reducible refine blk_drew ?_)); intro k3_; have c3_ : w7.cell? ⟨W3.heap.size + 1 + 1 + 1 + 1, 0, none⟩ = some (.slice none 0 0) := (blk_cell k3_.out 0).trans rfl; have f3_ := blk_frozen k3_.out 0) | skip); have c0_ : w7.cell? ⟨w.heap.size, 0, none⟩ = some (.slice none 0 0) := (blk_cell HG7.out 0).trans rfl; have f0_ := blk_frozen HG7.out 0; have n0_ : ¬ w.heap.size = W3.heap.size := (by have := HS3.out; omega); have l0_ : w.heap.size < w7.heap.size := blk_lt HG7.out; have l1_ : ¬ w.heap.size = w7.heap.size := Nat.ne_of_lt l0_; have l2_ : ¬ w7.heap.size = w.heap.size := Nat.ne_of_gt l0_; have m0_ : ¬ W3.heap.size = w.heap.size := (by have := HS3.out; omega); have n1_ : ¬ w.heap.size = W3.heap.size + 1 := (by have := HS3.out; omega); have m1_ : ¬ W3.heap.size + 1 = w.heap.size := (by have := HS3.out; omega); have n2_ : ¬ w.heap.size = W3.heap.size + 1 + 1 := (by have := HS3.out; omega); have m2_ : ¬ W3.heap.size + 1 + 1 = w.heap.size := (by have := HS3.out; omega); have n3_ : ¬ w.heap.size = W3.heap.size + 1 + 1 + 1 := (by have := HS3.out; omega); have m3_ : ¬ W3.heap.size + 1 + 1 + 1 = w.heap.size := (by have := HS3.out; omega); have n4_ : ¬ w.heap.size = W3.heap.size + 1 + 1 + 1 + 1 := (by have := HS3.out; omega); have m4_ : ¬ W3.heap.size + 1 + 1 + 1 + 1 = w.heap.size := (by have := HS3.out; omega); clear ho hb))
 all_goals
  go_wp2
  refine bodyPost_ret (results_cell_row rfl _ _ w.heap.size 24 #[.slice A7 t1.length c7] (0, 0) _ rfl (by first | exact blk_alloc (blk_put (cs := #[.slice none 0 0]) HG7.out 0 _ rfl) _ | exact blk_put (cs := #[.slice none 0 0]) (blk_alloc HG7.out _) 0 _ rfl | exact blk_put (cs := #[.slice none 0 0]) (blk_far2 HG7.out (by have := HS3.out; omega) _) 0 _ rfl) Tryz.underlying24 rfl (by kernel_rfl)) rfl ?_
  first
   | exact ⟨_, rfl, lowN_ (Kd.N_alloc (farN_ HN.out (by have := HS3.out; omega) _) _) (by have := HS3.out; omega), below_alloc (below_set HB7.out (Nat.le_refl _)) _⟩
   | exact ⟨_, rfl, lowN_ (farN_ (Kd.N_alloc HN.out _) (by have := HS3.out; omega) _) (by have := HS3.out; omega), below_set (below_alloc HB7.out _) (Nat.le_refl _)⟩
   | exact ⟨_, rfl, lowN_ (farN_ (farN_ HN.out (by have := HS3.out; omega) _) (by have := HS3.out; omega) _) (by have := HS3.out; omega), below_set (below_set HB7.out (by have := HS3.out; omega)) (Nat.le_refl _)⟩
end Go.Proofs.YtloijngccppfgaaGreat.F
end

section
namespace Go.Proofs.YtloijngccppfgaaGreat.F
open Go.RowKit Go.Proofs.YtloijngccppfgaaGreatW.PrintWords Go.Proofs.YtloijngccppfgaaGreatW.PrintLast Go.Proofs.YtloijngccppfgaaGreatW.PrintMore
attribute [local go_sem] max2_int min2_int max_two min_two max_three min_three max_four min_four
set_option linter.unusedVariables false
set_option linter.unusedSimpArgs false
def argosyref01_Same.l0 : Nat → List Int → List Int → Int → Option (Bool)
 | 0, _, _, _ => none
 | k + 1, x0, x1, x5 => if x5 < (x0.length : Int) then (if 0 ≤ x5 then (if x5 < (x1.length : Int) then (if (rd x0 x5) = (rd x1 x5) then (argosyref01_Same.l0 k x0 x1 (wrap64 (x5 + 1))) else (some false)) else (none)) else (none)) else (some true)
def argosyref01_Same.f (k : Nat) (l0 : List Int) (l1 : List Int) : Option (Bool) := if (l0.length : Int) = (l1.length : Int) then (argosyref01_Same.l0 k l0 l1 0) else (some false)
theorem argosyref01_Same.mono_l : ∀ k, (∀ y0 y1 y2, LeO (argosyref01_Same.l0 k y0 y1 y2) (argosyref01_Same.l0 (k + 1) y0 y1 y2))
 | 0 => fun _ _ _ r h => by simp [argosyref01_Same.l0] at h
 | k + 1 => by
  have ih0 := argosyref01_Same.mono_l k
  ·intro y0 y1 y2
   unfold argosyref01_Same.l0
   repeat' first
   | (with_reducible exact ih0 _ _ _)
   | (with_reducible exact LeO.refl _)
   | (with_reducible exact LeO.none _)
   | (with_reducible refine LeO.ite ?_ ?_)
   | (with_reducible refine LeO.bind ?_ (fun _ => ?_))
   | exact ih0 _ _ _
   | exact LeO.none _
   | refine LeO.ite ?_ ?_
   | refine LeO.bind ?_ (fun _ => ?_)
theorem argosyref01_Same.mono : ∀ a0 a1 k, LeO (argosyref01_Same.f k a0 a1) (argosyref01_Same.f (k + 1) a0 a1) := by
 intro a0 a1 k
 have ih0 := argosyref01_Same.mono_l k
 unfold argosyref01_Same.f
 repeat' first
   | (with_reducible exact ih0 _ _ _)
   | (with_reducible exact LeO.refl _)
   | (with_reducible exact LeO.none _)
   | (with_reducible refine LeO.ite ?_ ?_)
   | (with_reducible refine LeO.bind ?_ (fun _ => ?_))
   | exact ih0 _ _ _
   | exact LeO.none _
   | refine LeO.ite ?_ ?_
   | refine LeO.bind ?_ (fun _ => ?_)
set_option maxHeartbeats 8000000 in
set_option maxRecDepth 100000 in
theorem argosyref01_Same.calls (k : Nat) (A0 : Option Addr) (c0 : Nat) (l0 : List Int) (A1 : Option Addr) (c1 : Nat) (l1 : List Int) (r : Bool) (w : World) (hr0 : Kd.C (Kd.int .i64) w A0 l0.length l0) (hc0 : l0.length ≤ c0) (hr1 : Kd.C (Kd.int .i64) w A1 l1.length l1) (hc1 : l1.length ≤ c1) (h : argosyref01_Same.f k l0 l1 = some r) :
  Calls Tryz.prog 31 #[.slice A0 l0.length c0, .slice A1 l1.length c1] w fun e w' => e = .returned (.bool r) ∧ Drawn0 w w' := by
 have HR0 := Aside0.mk hr0
 have HC0 := Aside0.mk hc0
 clear hr0 hc0
 have HR1 := Aside0.mk hr1
 have HC1 := Aside0.mk hc1
 clear hr1 hc1
 have H : (if (l0.length : Int) = (l1.length : Int) then (argosyref01_Same.l0 k l0 l1 0) else (some false)) = some r := h
 clear h
 by_cases c3 : (l0.length : Int) = (l1.length : Int)
 ·rw [if_pos c3] at H
  have c3b0 : ((l0.length : Int) == (l1.length : Int)) = true := beq_iff_eq.mpr c3
  have c3b1 : ((l0.length : Int) != (l1.length : Int)) = false := bne_eq_false_iff_eq.mpr c3
  have c3b2 : (l0.length == l1.length) = true := by first | simpa using c3 | (simp at c3 ⊢; omega)
  clear c3
  have H' := Aside0.mk H
  clear H
  go_enter Tryz.func31, Tryz.ntmps31
  go_wp2
  repeat (go_quiet (fail); try go_wp2)
  go_loopg [5] k (fun kq v5 w' => ∃ (x5_1 : Int), v5 = .int .i64 x5_1 ∧ Aside0 (argosyref01_Same.l0 kq l0 l1 x5_1 = some r) ∧ Aside0 (kq ≤ k) ∧ Drawn0 w w')
  case atStart => exact ⟨(0), (by first | rfl | (simp; done) | (simp [*]; done)), H', ⟨Nat.le_refl _⟩, by repeat (first | exact Drawn0.refl _ | apply Drawn0.step)⟩
  case round =>
   clear H'
   try clear c1
   try clear p2
   try clear c3
   try clear c3b0
   try clear c3b1
   try clear c3b2
   obtain ⟨x5_1, rfl, HA, HK1, ⟨m1, rfl⟩⟩ := hrel
   cases gk with
   | zero => exact absurd HA.out (by simp [argosyref01_Same.l0])
   | succ k1 =>
    have H := HA.out
    clear HA
    simp only [argosyref01_Same.l0] at H
    by_cases c4 : x5_1 < (l0.length : Int)
    ·rw [if_pos c4] at H
     have c4b0 : decide (x5_1 < (l0.length : Int)) = true := decide_eq_true c4
     clear c4
     by_cases c5 : 0 ≤ x5_1
     ·rw [if_pos c5] at H
      have c5b0 : decide (0 ≤ x5_1) = true := decide_eq_true c5
      clear c5
      by_cases c6 : x5_1 < (l1.length : Int)
      ·rw [if_pos c6] at H
       have c6b0 : decide (x5_1 < (l1.length : Int)) = true := decide_eq_true c6
       clear c6
       by_cases c7 : (rd l0 x5_1) = (rd l1 x5_1)
       ·rw [if_pos c7] at H
        have c7b0 : ((rd l0 x5_1) == (rd l1 x5_1)) = true := beq_iff_eq.mpr c7
        have c7b1 : ((rd l0 x5_1) != (rd l1 x5_1)) = false := bne_eq_false_iff_eq.mpr c7
        clear c7
        have H' := Aside0.mk H
        clear H
        have p142 : 0 ≤ (x5_1 : Int) := of_decide_eq_true (by first | (with_reducible assumption) | assumption)
        have q142 : x5_1 < (l0.length : Int) := of_decide_eq_true (by first | (with_reducible assumption) | assumption)
        obtain ⟨ad142, e142, hx142_0⟩ := Kd.at_int HR0.out x5_1 p142 q142
        cases e142
        replace p142 := eq_true p142
        replace q142 := eq_true q142
        have p143 : 0 ≤ (x5_1 : Int) := of_decide_eq_true (by first | (with_reducible assumption) | assumption)
        have q143 : x5_1 < (l1.length : Int) := of_decide_eq_true (by first | (with_reducible assumption) | assumption)
        obtain ⟨ad143, e143, hx143_0⟩ := Kd.at_int HR1.out x5_1 p143 q143
        cases e143
        replace p143 := eq_true p143
        replace q143 := eq_true q143
        go_wp2
        repeat (go_quiet (fail); try go_wp2)
        go_roundg k1
        case measure => have := HK1.out; omega
        case rel => exact ⟨(wrap64 (x5_1 + 1)), (by first | rfl | (simp; done) | (simp [*]; done)), H', ⟨by have := HK1.out; omega⟩, by repeat (first | exact Drawn0.refl _ | apply Drawn0.step)⟩
       ·rw [if_neg c7] at H
        have c7b0 : ((rd l0 x5_1) == (rd l1 x5_1)) = false := beq_eq_false_iff_ne.mpr c7
        have c7b1 : ((rd l0 x5_1) != (rd l1 x5_1)) = true := bne_iff_ne.mpr c7
        obtain rfl := Option.some.inj H
        have p142 : 0 ≤ (x5_1 : Int) := of_decide_eq_true (by first | (with_reducible assumption) | assumption)
        have q142 : x5_1 < (l0.length : Int) := of_decide_eq_true (by first | (with_reducible assumption) | assumption)
        obtain ⟨ad142, e142, hx142_0⟩ := Kd.at_int HR0.out x5_1 p142 q142
        cases e142
        replace p142 := eq_true p142
        replace q142 := eq_true q142
        have p143 : 0 ≤ (x5_1 : Int) := of_decide_eq_true (by first | (with_reducible assumption) | assumption)
        have q143 : x5_1 < (l1.length : Int) := of_decide_eq_true (by first | (with_reducible assumption) | assumption)
        obtain ⟨ad143, e143, hx143_0⟩ := Kd.at_int HR1.out x5_1 p143 q143
        cases e143
        replace p143 := eq_true p143
        replace q143 := eq_true q143
        go_wp2
        repeat (go_quiet (fail); try go_wp2)
        go_ret
        exact ⟨by first | rfl | (simp; done) | (simp [*]; done), by repeat (first | exact Drawn0.refl _ | apply Drawn0.step)⟩
      ·rw [if_neg c6] at H
       exact absurd H (by simp)
     ·rw [if_neg c5] at H
      exact absurd H (by simp)
    ·rw [if_neg c4] at H
     have c4b0 : decide (x5_1 < (l0.length : Int)) = false := decide_eq_false c4
     clear c4
     obtain rfl := Option.some.inj H
     go_wp2
     repeat (go_quiet (fail); try go_wp2)
     go_ret
     exact ⟨by first | rfl | (simp; done) | (simp [*]; done), by repeat (first | exact Drawn0.refl _ | apply Drawn0.step)⟩
 ·rw [if_neg c3] at H
  have c3b0 : ((l0.length : Int) == (l1.length : Int)) = false := beq_eq_false_iff_ne.mpr c3
  have c3b1 : ((l0.length : Int) != (l1.length : Int)) = true := bne_iff_ne.mpr c3
  have c3b2 : (l0.length == l1.length) = false := by first | simpa using c3 | (simp at c3 ⊢; omega)
  obtain rfl := Option.some.inj H
  go_enter Tryz.func31, Tryz.ntmps31
  go_wp2
  repeat (go_quiet (fail); try go_wp2)
  go_ret
  exact ⟨by first | rfl | (simp; done) | (simp [*]; done), by repeat (first | exact Drawn0.refl _ | apply Drawn0.step)⟩
end Go.Proofs.YtloijngccppfgaaGreat.F
end
