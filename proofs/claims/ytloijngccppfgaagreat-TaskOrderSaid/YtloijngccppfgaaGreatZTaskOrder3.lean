-- Texts of this seat's, joined.
import Derived.Test.YtloijngccppfgaaGreatProg
import Derived.Below
import Derived.Deep.Draws
import Derived.Deep.AppendLies
import Derived.Maps.AppendAt
import Derived.OwnWalk
import Derived.Laws.BytesArg
import Derived.Laws.MakeOwn
import Derived.Laws.OwnMore
import Derived.Deep.OwnRows
import Derived.Tactics
import Derived.Lib.ConvBytes
import Derived.Laws.Slices
import Derived.WalkKit
import Derived.KernelRfl
import Derived.RowKit3
import Derived.Deep.LoopGhost
import Derived.Deep.QuietTactic
import Derived.BigQuiet
import Derived.WideLaws
import Derived.Deep.DeepCutAuto
import Derived.Deep.CutBlock
import Derived.Deep.RegionHeld3
import Derived.Laws.Rows
import Derived.Lib.AppendStr
import Derived.ArgAppend
import Derived.Laws.IdiomCopy
import Derived.OrdersHeld
import Derived.Laws.BitsLemmas
import Derived.RowKit
import Derived.Test.YtloijngccppfgaaGreatZTaskOrder1
import Derived.Laws.StructEq
import Derived.RangeFuncNested
import Derived.RangeFuncLeaves
import Derived.RegionIn
import Derived.LoopIn
import Derived.TacticsInMore
import Derived.OwnWalkIn
import Derived.Shelf.AbstractIn
import Derived.Test.YtloijngccppfgaaGreatZTaskOrder2
import Derived.StillTailTactics
import Derived.Laws.BitsAllLaws
import Derived.Laws.BitsAll
import Derived.Recover
import Derived.WalkSmall
import Derived.Defers
import Derived.Deep.RegionHeld2
section
namespace Go.Proofs.YtloijngccppfgaaGreat.F
open Go.RowKit Go.Proofs.YtloijngccppfgaaGreatW.PrintWords Go.Proofs.YtloijngccppfgaaGreatW.PrintLast Go.Proofs.YtloijngccppfgaaGreatW.PrintMore
def roundPostP (P : Program) (l : Nat) (R : Ending → World → Prop) : Exit → Act → World → Prop
 | .panic ch, a, w => a.defers = [] ∧ R (.panicked ch) w
 | e, a, w => roundPost P l R e a w
theorem roundIn_of_wpInP {F : Fence} {n : Nat} {P : Program} {l : Nat} {f : FuncId} {tmps : Array Value} {assign body : Code} {w : World} {R : Ending → World → Prop} (hF : F.fn f) (hf : ∃ fn, P.funcs[f]? = some fn)
  (h : assign.wpIn (F.inRound l) n P (Exit.then (fun a₁ w₁ => ∃ w₂, (Instr.beginRound l).run P w₁ = .ok () w₂ ∧ body.wpIn (F.inRound l) n P (roundPostP P l R) a₁ w₂) (fun _ _ _ => False))
   { tmps := tmps, defers := [] } w) :
  RoundIn F n P l f tmps assign body w R := by
 refine ⟨hF, fun c cs hr => ?_⟩
 let b : Frame := { (default : Frame) with fn := f, kind := .normal, roundOf := some l }
 have hb0 : Frame.round l f tmps assign body .normal = b.atR { tmps := tmps, defers := [] } [.code assign, .beginRound, .code body] := by
  simp [Frame.round, Frame.atR, b]
 have hr' : (F.inRound l).room ((c :: cs).length + 1 + n) := hr
 have hF' : (F.inRound l).fn b.fn := hF
 obtain ⟨e, a₁, w₁, hq, harr⟩ := h b [.beginRound, .code body] (c :: cs) rfl hF' hr'
 rw [← hb0] at harr
 cases e with
 | normal =>
  obtain ⟨w₂, hbr, hbody⟩ := hq
  have s1 : StepsIn (Machine.fenced P (F.inRound l)) P (lone (b.atR a₁ [.beginRound, .code body]) (c :: cs) w₁) (lone (b.atR a₁ [.code body]) (c :: cs) w₂) :=
   .one (fenced_calm (fr := b.atR a₁ [.beginRound, .code body]) hF' hr' rfl) (stepR_beginRound rfl hbr)
  obtain ⟨e₂, a₂, w₃, hq₂, harr₂⟩ := hbody b [] (c :: cs) rfl hF' hr'
  cases e₂ with
  | normal =>
   obtain ⟨v, w₄, hend, hR⟩ := hq₂
   exact ⟨.returned v, w₄, hR, (StepsIn.trans harr s1).trans (StepsIn.trans harr₂ (.one (fenced_calm (fr := b.atR a₂ []) hF' hr' rfl) (stepR_round_end rfl rfl hend)))⟩
  | ret =>
   obtain ⟨v, w₄, hend, hR⟩ := hq₂
   obtain ⟨k₁, hs⟩ := harr₂.2 rfl
   exact ⟨.returned v, w₄, hR, (StepsIn.trans harr s1).trans (StepsIn.trans hs (.one (fenced_calm (fr := b.atR a₂ (.code .ret :: k₁)) hF' hr' rfl) (stepR_round_ret rfl rfl hend)))⟩
  | exit id =>
   obtain ⟨v, w₄, hend, hR⟩ := hq₂
   obtain ⟨k₁, hk, hs⟩ := harr₂.2 rfl rfl
   exact ⟨.returned v, w₄, hR, (StepsIn.trans harr s1).trans (StepsIn.trans hs (.one (fenced_calm (fr := b.atR a₂ (.code (.exit id) :: k₁)) hF' hr' rfl) (stepR_round_exit rfl rfl hk hend)))⟩
  | goto t =>
   obtain ⟨v, w₄, hend, hR⟩ := hq₂
   obtain ⟨k₁, hk, hs⟩ := harr₂.2 rfl rfl
   exact ⟨.returned v, w₄, hR, (StepsIn.trans harr s1).trans (StepsIn.trans hs (.one (fenced_calm (fr := b.atR a₂ (.code (.goto t) :: k₁)) hF' hr' rfl) (stepR_round_goto rfl rfl hk hend)))⟩
  | panic chain =>
   obtain ⟨hd, hR⟩ := hq₂
   obtain ⟨todo, hs⟩ := harr₂
   have hl : Frame.leaving P { b.atR a₂ todo with mode := .panicking chain } w₃ (.panicked chain) := ⟨rfl, hd, hf⟩
   exact ⟨.panicked chain, w₃, hR, (StepsIn.trans harr s1).trans (StepsIn.trans hs (.one (fenced_leaving hF' hr' hl) (step_leave_panicked hl)))⟩
  | outgrown => exact hq₂.elim
 | exit id => exact hq.elim
 | goto t => exact hq.elim
 | ret => exact hq.elim
 | panic chain => exact hq.elim
 | outgrown => exact hq.elim
structure KeepUp (B : Nat) (X X' : World) : Prop where
 size : X.heap.size ≤ X'.heap.size
 same : ∀ k, B ≤ k → k < X.heap.size → X'.heap[k]? = X.heap[k]?
theorem KeepUp.refl (B : Nat) (X : World) : KeepUp B X X := ⟨Nat.le_refl _, fun _ _ _ => rfl⟩
theorem KeepUp.trans {B : Nat} {X Y Z : World} (h : KeepUp B X Y) (k : KeepUp B Y Z) : KeepUp B X Z := ⟨Nat.le_trans h.size k.size, fun i hB hi => (k.same i hB (Nat.lt_of_lt_of_le hi h.size)).trans (h.same i hB hi)⟩
theorem KeepUp.mono {B B' : Nat} {X Y : World} (h : KeepUp B X Y) (hb : B ≤ B') : KeepUp B' X Y := ⟨h.size, fun i hi => h.same i (Nat.le_trans hb hi)⟩
theorem KeepUp.blk {B : Nat} {X Y : World} (h : KeepUp B X Y) {k : Nat} {o : Obj} (hB : B ≤ k) (hk : X.heap[k]? = some o) : Y.heap[k]? = some o := (h.same k hB (Array.getElem?_eq_some_iff.1 hk).1).trans hk
theorem KeepUp.of_below {B n : Nat} {X Y : World} (h : Below n X Y) (hn : X.heap.size ≤ n) : KeepUp B X Y := ⟨h.size, fun i _ hi => h.block i (Nat.lt_of_lt_of_le hi hn)⟩
theorem KeepUp.putObj {B l : Nat} {X : World} (o : Obj) (hl : l < B) : KeepUp B X (X.putObj l o) := ⟨by simp, fun k hk _ => World.putObj_heap_other (by omega)⟩
theorem below_putObj {n l : Nat} {X Y : World} (h : Below n X Y) (o : Obj) (hl : n ≤ l) : Below n X (Y.putObj l o) :=
 h.trans ⟨rfl, rfl, rfl, by simp, fun k hk => World.putObj_heap_other (by omega)⟩
def YieldP (n : Nat) (P : Program) (l : Nat) (args : Array Value) (W : World) (R : Ending → World → Prop) : Prop :=
 ∃ fn tmps assign body, (Instr.yield l args).run P W = .ok (.round l fn tmps assign body) W ∧ RoundIn Fence.wide n P l fn tmps assign body W R
def IterP {α : Type} (P : Program) (gf : Nat) (lb : Array Value) (VK : α → Array Value → Prop) (S : List α) (D : World → Prop) : Prop :=
 ∀ (l : Nat) (J : List α → World → Prop) (Jp : World → List PanicEntry → Prop) (W : World), J [] W → (∀ s X, J s X → D X) →
  (∀ s X X', J s X → Below W.heap.size X X' → J s X') → (∀ X X' ch, Jp X ch → Below W.heap.size X X' → Jp X' ch) →
  (∀ s v t args X, S = s ++ v :: t → J s X → VK v args → YieldP 0 P l args X fun e X' => KeepUp W.heap.size X X' ∧ ((e = .returned (.bool true) ∧ J (s ++ [v]) X') ∨ ∃ ch, e = .panicked ch ∧ Jp X' ch)) →
  CallsIn Fence.wide 0 P gf (#[.func (.yield l) #[] #[]] ++ lb) W fun e W' => (∃ v, e = .returned v ∧ J S W') ∨ ∃ ch, e = .panicked ch ∧ Jp W' ch
def roundQ {α : Type} (B : Nat) (J : List α → World → Prop) (Jp : World → List PanicEntry → Prop) (s : List α) (X : World) : Exit → Act → World → Prop
 | .normal, _, X' => KeepUp B X X' ∧ J s X'
 | .panic ch, a, X' => a.defers = [] ∧ KeepUp B X X' ∧ Jp X' ch
 | _, _, _ => False
def markOf (r : Nat) : Deferred := { target := .collected r, args := #[] }
def wpB (g : FuncId) (P : Program) (c : Code) (Q : Exit → Act → World → Prop) (a : Act) (w : World) : Prop :=
 ∀ (b : Frame) (k : List Item) (cs : List Frame), b.roundOf = none → b.fn = g → ∃ e a' w', Q e a' w' ∧ ArrivesIn (Machine.fenced P Fence.wide) P (lone (b.atR a (.code c :: k)) cs w) b k cs e a' w'
section
variable {g0 : FuncId} {P : Program} {Q : Exit → Act → World → Prop} {a : Act} {w : World}
theorem wpB_in {c : Code} (h : c.wpIn Fence.wide 0 P Q a w) : wpB g0 P c Q a w := fun b k cs hro _ => h b k cs hro trivial (room_wide _)
theorem wpB_seqB {x y : Code} (h : wpB g0 P x (Exit.then (wpB g0 P y Q) Q) a w) : wpB g0 P (.seq x y) Q a w := by
 intro b k cs hro hb
 have h0 : (lone (b.atR a (.code (.seq x y) :: k)) cs w).fenced P Fence.wide := fenced_wide _ _
 obtain ⟨e, a₁, w₁, hq, harr⟩ := h b (.code y :: k) cs hro hb
 cases e with
 | normal =>
  obtain ⟨e₂, a₂, w₂, hq₂, harr₂⟩ := hq b k cs hro hb
  exact ⟨e₂, a₂, w₂, hq₂, .of_steps (.head h0 stepR_seq harr) harr₂⟩
 | exit id => exact ⟨_, a₁, w₁, hq, .of_steps (.one h0 stepR_seq) (.pass (x := .code y) rfl (fun _ _ => .inl (by simp)) harr)⟩
 | goto l => exact ⟨_, a₁, w₁, hq, .of_steps (.one h0 stepR_seq) (.pass (x := .code y) rfl (fun _ _ => .inl (by simp)) harr)⟩
 | ret => exact ⟨_, a₁, w₁, hq, .of_steps (.one h0 stepR_seq) (.pass (x := .code y) rfl (fun _ _ => .inl (by simp)) harr)⟩
 | panic ch => exact ⟨_, a₁, w₁, hq, .of_steps (.one h0 stepR_seq) (.pass (x := .code y) rfl (fun _ _ => .inl (by simp)) harr)⟩
 | outgrown => exact ⟨_, a₁, w₁, hq, .of_steps (.one h0 stepR_seq) (.pass (x := .code y) rfl (fun _ _ => .inl (by simp)) harr)⟩
theorem wpB_seq {x y : Code} (h : x.wpIn Fence.wide 0 P (Exit.then (wpB g0 P y Q) Q) a w) : wpB g0 P (.seq x y) Q a w := wpB_seqB (wpB_in h)
theorem wpB_seq_k {x y : Code} (h : ∀ K : Act → World → Prop, Aside0 (∀ a w, wpB g0 P y Q a w → K a w) → x.wpIn Fence.wide 0 P (Exit.then K Q) a w) : wpB g0 P (.seq x y) Q a w := wpB_seq (h _ ⟨fun _ _ h => h⟩)
theorem wpB_block {id : Nat} {c : Code} (h : wpB g0 P c (Exit.inBlock id Q) a w) : wpB g0 P (.block id c) Q a w := by
 intro b k cs hro hb
 have h0 : (lone (b.atR a (.code (.block id c) :: k)) cs w).fenced P Fence.wide := fenced_wide _ _
 obtain ⟨e, a₁, w₁, hq, harr⟩ := h b (.inBlock id :: k) cs hro hb
 cases e with
 | normal => exact ⟨.normal, a₁, w₁, hq, .head h0 stepR_block (StepsIn.trans harr (.one (fenced_wide _ _) stepR_inBlock))⟩
 | exit id' =>
  by_cases hid : id' = id
  ·simp only [Exit.inBlock, hid, if_true] at hq
   exact ⟨.normal, a₁, w₁, hq, .head h0 stepR_block (harr.1 k (by simp [exitTo, hid]))⟩
  ·simp only [Exit.inBlock, hid, if_false] at hq
   have this : (id == id') = false := by simp; exact fun h => hid h.symm
   have hx : exitTo id' (.inBlock id :: k) = exitTo id' k := by simp [exitTo, this]
   exact ⟨.exit id', a₁, w₁, hq, fun k' hk => .head h0 stepR_block (harr.1 k' (by rw [hx]; exact hk)),
    fun hr' hk => let ⟨k₁, h1, h2⟩ := harr.2 hr' (by rw [hx]; exact hk); ⟨k₁, h1, .head h0 stepR_block h2⟩⟩
 | goto l =>
  have hx : gotoIn l (.inBlock id :: k) = gotoIn l k := by simp [gotoIn]
  exact ⟨_, a₁, w₁, hq, fun k' hk => .head h0 stepR_block (harr.1 k' (by rw [hx]; exact hk)),
   fun hr' hk => let ⟨k₁, h1, h2⟩ := harr.2 hr' (by rw [hx]; exact hk); ⟨k₁, h1, .head h0 stepR_block h2⟩⟩
 | ret => exact ⟨_, a₁, w₁, hq, .of_steps (.one h0 stepR_block) harr⟩
 | panic ch => exact ⟨_, a₁, w₁, hq, .of_steps (.one h0 stepR_block) harr⟩
 | outgrown => exact ⟨_, a₁, w₁, hq, .of_steps (.one h0 stepR_block) harr⟩
theorem wpB_loop {c : Code} (I : Act → World → Prop) (μ : Act → World → Nat) (h₀ : I a w)
  (round : ∀ a w, I a w → wpB g0 P c (Exit.then (fun a' w' => I a' w' ∧ μ a' w' < μ a w) Q) a w) : wpB g0 P (.loop c) Q a w := by
 intro b k cs hro hb
 have key : ∀ j a w, μ a w = j → I a w →
   ∃ e a' w', Q e a' w' ∧ ArrivesIn (Machine.fenced P Fence.wide) P (lone (b.atR a (.code c :: .inLoop c :: k)) cs w) b k cs e a' w' := by
  intro j
  induction j using Nat.strongRecOn with
  | _ j ih =>
   intro a w hn hI
   obtain ⟨e, a₁, w₁, hq, harr⟩ := round a w hI b (.inLoop c :: k) cs hro hb
   cases e with
   | normal =>
    obtain ⟨hI₁, hlt⟩ := hq
    obtain ⟨e₂, a₂, w₂, hq₂, harr₂⟩ := ih (μ a₁ w₁) (hn ▸ hlt) a₁ w₁ rfl hI₁
    exact ⟨e₂, a₂, w₂, hq₂, .of_steps (StepsIn.trans harr (.one (fenced_wide _ _) stepR_inLoop)) harr₂⟩
   | exit id => exact ⟨_, a₁, w₁, hq, .pass (x := .inLoop c) rfl (fun _ _ => .inl (by simp)) harr⟩
   | goto l => exact ⟨_, a₁, w₁, hq, .pass (x := .inLoop c) rfl (fun _ _ => .inl (by simp)) harr⟩
   | ret => exact ⟨_, a₁, w₁, hq, .pass (x := .inLoop c) rfl (fun _ _ => .inl (by simp)) harr⟩
   | panic ch => exact ⟨_, a₁, w₁, hq, .pass (x := .inLoop c) rfl (fun _ _ => .inl (by simp)) harr⟩
   | outgrown => exact ⟨_, a₁, w₁, hq, .pass (x := .inLoop c) rfl (fun _ _ => .inl (by simp)) harr⟩
 obtain ⟨e, a', w', hq, harr⟩ := key _ a w rfl h₀
 exact ⟨e, a', w', hq, .of_steps (.one (fenced_wide _ _) stepR_loop) harr⟩
theorem wpB_rangeFunc {g : Operand} {ps : Array Tmp} {assign body : Code}
  (h : ∃ (l : Nat) (mark : List Deferred) (w₁ : World) (d : Deferred) (w₁' : World) (f : FuncId) (args : Array Value) (w₂ : World),
   (Instr.enterLoop g0 a.tmps ps assign body none).run P w = .ok (l, mark) w₁ ∧
   (resolve a.eval (rangeCall g l) 0).run P w₁ = .ok d w₁' ∧
   (invoke d.target d.args).run P w₁' = .ok (.enter f args) w₂ ∧
   CallsIn Fence.wide 0 P f args w₂ (rangePost Fence.wide 0 P l Q { a with defers := mark ++ a.defers })) :
  wpB g0 P (Code.rangeFunc g ps assign body) Q a w := by
 intro b k cs hro hb
 obtain ⟨l, mark, w₁, d, w₁', f, args, w₂, he, hres, hinv, hF, hcall⟩ := h
 rw [← hro, ← hb] at he
 have henter := stepR_rangeFunc (P := P) (b := b) (a := a) (k := k) (cs := cs) (w := w) he hres hinv
 obtain ⟨e, w₃, fr, hR, hsteps, hfn, hleave⟩ := hcall (b.atR { a with defers := mark ++ a.defers } (.inRangeFunc l :: k) :: cs) (room_wide _)
 cases e with
 | outgrown =>
  obtain ⟨a₀, w₀, hq⟩ := hR
  exact ⟨.outgrown, a₀, w₀, hq, .inr (Outgrown.of_steps (.one henter) hsteps)⟩
 | returned v =>
  obtain ⟨jump, w₄, hend, hj⟩ := hR
  have sback : StepsIn (Machine.fenced P Fence.wide) P (lone (b.atR a (.code (.rangeFunc g ps assign body) :: k)) cs w) (lone (b.atR { a with defers := mark ++ a.defers } ((jump.map Item.code).toList ++ k)) cs w₄) := by
   refine .head (fenced_wide _ _) henter (StepsIn.trans hsteps (.head (fenced_wide _ _) ?_ (.one (fenced_wide _ _) (stepR_endRangeFunc hend))))
   rw [← finish_atR_inRangeFunc l v]; exact step_leave_returned hleave
  cases jump with
  | none => exact ⟨.normal, _, w₄, hj, sback⟩
  | some c =>
   obtain ⟨e', a'', w₅, hq, harr⟩ := hj b k cs hro trivial (room_wide _)
   exact ⟨e', a'', w₅, hq, .of_steps sback harr⟩
 | panicked chain =>
  refine ⟨.panic chain, _, w₃, hR, .inRangeFunc l :: k, .head (fenced_wide _ _) henter (StepsIn.trans hsteps (.one (fenced_wide _ _) ?_))⟩
  rw [← Frame.raise_atR]; exact step_leave_panicked hleave
theorem callsIn_of_wpB {f : FuncId} {fn : Func} {c : Code} {args : Array Value} {R : Ending → World → Prop}
  (hf : P.funcs[f]? = some fn) (hb : fn.body = some c)
  (h : wpB f P c (bodyPostM Fence.wide 0 P fn R) { tmps := args ++ Array.replicate (fn.ntmps - args.size) undef, defers := [] } w) : CallsIn Fence.wide 0 P f args w R := by
 refine ⟨trivial, fun cs hr => ?_⟩
 let b : Frame := { (default : Frame) with fn := f, kind := .normal, roundOf := none }
 have henter : Frame.enter P f args .normal =
   b.atR { tmps := args ++ Array.replicate (fn.ntmps - args.size) undef, defers := [] } [.code c] := by
  simp [Frame.enter, Frame.atR, hf, hb, b]
 have hF : Fence.wide.fn f := trivial
 obtain ⟨e, a', w', hq, harr⟩ := h b [] cs rfl rfl
 rw [← henter] at harr
 cases e with
 | normal =>
  obtain ⟨e', w'', fr', hR, hs, hfn, hl⟩ := leaves_stepsInM a'.defers .returning w' { b.atR a' [] with mode := .returning } cs rfl rfl rfl hf rfl hF hr hq
  exact ⟨e', w'', fr', hR, ComesIn.of_steps (StepsIn.trans harr (.one (fenced_calm (fr := b.atR a' []) hF hr rfl) (stepR_end rfl))) hs, hfn, hl⟩
 | ret =>
  obtain ⟨todo, hs₀⟩ := harr.1 rfl
  obtain ⟨e', w'', fr', hR, hs, hfn, hl⟩ := leaves_stepsInM a'.defers .returning w' { b.atR a' todo with mode := .returning } cs rfl rfl rfl hf rfl hF hr hq
  exact ⟨e', w'', fr', hR, ComesIn.of_steps hs₀ hs, hfn, hl⟩
 | panic chain =>
  obtain ⟨todo, hs₀⟩ := harr
  obtain ⟨e', w'', fr', hR, hs, hfn, hl⟩ := leaves_stepsInM a'.defers (.panicking chain) w' { b.atR a' todo with mode := .panicking chain } cs rfl rfl rfl hf rfl hF hr hq
  exact ⟨e', w'', fr', hR, ComesIn.of_steps hs₀ hs, hfn, hl⟩
 | exit id => exact hq.elim
 | goto l => exact hq.elim
 | outgrown => exact ⟨.outgrown, w', b, hq, harr.resolve_left (by simp [b]), rfl, trivial⟩
end
theorem wpB_rangeFuncP {α : Type} {P : Program} {g0 : FuncId} {g : Operand} {ps : Array Tmp} {assign body : Code} {Q : Exit → Act → World → Prop} {a : Act} {w : World}
  {gf : Nat} {lb : Array Value} (hg : a.eval g = .func (.func gf) #[] lb) (eg : ∀ args w, (callFunc gf args).run P w = .ok (.enter gf args) w)
  (hf0 : ∃ f, P.funcs[g0]? = some f)
  {VK : α → Array Value → Prop} {S : List α} {D : World → Prop} (hIter : IterP P gf lb VK S D) (hsz : ∀ v args, VK v args → args.size = ps.size)
  (J : List α → World → Prop) (Jp : World → List PanicEntry → Prop) (h0 : J [] w) (hD : ∀ s X, J s X → D X)
  (hst : ∀ s X X', J s X → Below w.heap.size X X' → J s X') (hstp : ∀ X X' ch, Jp X ch → Below w.heap.size X X' → Jp X' ch)
  (hround : ∀ (l : Nat) s v t args X, S = s ++ v :: t → w.heap.size ≤ l → l < X.heap.size → J s X → VK v args → assign.wpIn (Fence.wide.inRound l) 0 P (Exit.then (fun a₁ X₁ => Below X.heap.size X X₁ ∧
   ∀ X₂, KeepUp (l + 1) X₁ X₂ → Below l X₁ X₂ → body.wpIn (Fence.wide.inRound l) 0 P (roundQ w.heap.size J Jp (s ++ [v]) X₂) a₁ X₂) (fun _ _ _ => False))
   { tmps := (ps.zip args).foldl (fun t (p, v) => t.setIfInBounds p v) a.tmps, defers := [] } X)
  (hdone : ∀ (d : Nat) (W : World), w.heap.size ≤ d → J S W → W.heap[d]? = some (.deferred (some [])) → Q .normal { a with defers := markOf d :: a.defers } W)
  (hpanic : ∀ (d : Nat) (ch : List PanicEntry) (W : World), w.heap.size ≤ d → Jp W ch → W.heap[d]? = some (.deferred (some [])) → Q (.panic ch) { a with defers := markOf d :: a.defers } W) :
  wpB g0 P (Code.rangeFunc g ps assign body) Q a w := by
 refine wpB_rangeFunc ?_
 obtain ⟨rec, hrec⟩ : ∃ rec : LoopState → Option Code → Loop, rec = fun st pe => { state := st, pending := pe, fn := g0, tmps := a.tmps, params := ps, assign, body, defers := w.heap.size } := ⟨_, rfl⟩
 obtain ⟨W1, hW1⟩ : ∃ W1, (w.alloc (.deferred (some []))).alloc (.loop (rec .ready none)) = W1 := ⟨_, rfl⟩
 have hL1 : W1.heap[w.heap.size + 1]? = some (.loop (rec .ready none)) := by
  rw [← hW1]; have := World.alloc_heap_new (w.alloc (.deferred (some []))) (.loop (rec .ready none)); rwa [World.size_alloc] at this
 have hK1 : W1.heap[w.heap.size]? = some (.deferred (some [])) := by
  rw [← hW1]; exact (Below.heap_alloc _ _ _ (by simp)).trans (World.alloc_heap_new w _)
 have hB1 : Below w.heap.size w W1 := by rw [← hW1]; exact ((Below.refl _ w).alloc (Nat.le_refl _) _).alloc (by simp) _
 have hS1 : W1.heap.size = w.heap.size + 2 := by rw [← hW1]; simp
 refine ⟨w.heap.size + 1, [{ target := .collected w.heap.size, args := #[] }], W1, { target := .fn (.func gf) lb, args := #[.func (.yield (w.heap.size + 1)) #[] #[]] }, W1, gf,
  #[.func (.yield (w.heap.size + 1)) #[] #[]] ++ lb, W1, ?_, ?_, ?_, ?_⟩
 ·rw [← hW1, hrec]; exact run_enterLoop_outer _ _ _ _ _
 ·simp only [resolve, hg]
  simp [go_sem]
 ·simp [invoke, go_sem, eg]
 ·refine (hIter (w.heap.size + 1)
   (fun s X => J s X ∧ X.heap[w.heap.size + 1]? = some (.loop (rec .ready none)) ∧ X.heap[w.heap.size]? = some (.deferred (some [])))
   (fun X ch => Jp X ch ∧ X.heap[w.heap.size]? = some (.deferred (some [])))
   W1 ⟨hst _ _ _ h0 hB1, hL1, hK1⟩ (fun s X h => hD s X h.1)
   (fun s X X' h hb => ⟨hst _ _ _ h.1 (hb.mono (by omega)), (hb.block _ (by omega)).trans h.2.1, (hb.block _ (by omega)).trans h.2.2⟩)
   (fun X X' ch h hb => ⟨hstp _ _ _ h.1 (hb.mono (by omega)), (hb.block _ (by omega)).trans h.2⟩) ?_).mono ?_
  ·rintro s v t args X hS ⟨hj, hl, hk⟩ hv
   have hlt : w.heap.size + 1 < X.heap.size := (Array.getElem?_eq_some_iff.1 hl).1
   have hy := run_yield (P := P) (args := args) hl (by rw [hrec]; exact hsz v args hv)
   rw [hrec] at hy
   refine ⟨g0, _, assign, body, hy, roundIn_of_wpInP trivial hf0 (wpIn_mono (hround (w.heap.size + 1) s v t args X hS (by omega) hlt hj hv) ?_)⟩
   rintro e a₁ X₁ h1
   cases e with
   | normal =>
    obtain ⟨hb1, hbody⟩ := h1
    have hl1 : X₁.heap[w.heap.size + 1]? = some (.loop (rec .ready none)) := (hb1.block _ hlt).trans hl
    have hlt1 := (Array.getElem?_eq_some_iff.1 hl1).1
    refine ⟨_, run_beginRound hl1 (by rw [hrec]), ?_⟩
    obtain ⟨X₂, hX₂⟩ : ∃ X₂, X₁.putObj (w.heap.size + 1) (.loop { rec .ready none with state := .busy }) = X₂ := ⟨_, rfl⟩
    rw [hX₂]
    have hk2 : X₂.heap[w.heap.size]? = some (.deferred (some [])) := by rw [← hX₂]; exact (World.putObj_heap_other (by omega)).trans ((hb1.block _ (by omega)).trans hk)
    have hl2 : X₂.heap[w.heap.size + 1]? = some (.loop { rec .ready none with state := .busy }) := by rw [← hX₂]; exact World.putObj_heap_same hlt1
    have hku : KeepUp (w.heap.size + 2) X X₂ := by rw [← hX₂]; exact (KeepUp.of_below hb1 (Nat.le_refl _)).trans (KeepUp.putObj _ (by omega))
    refine wpIn_mono (hbody X₂ (by rw [← hX₂]; exact KeepUp.putObj _ (by omega)) (by rw [← hX₂]; exact below_putObj (Below.refl _ _) _ (Nat.le_refl _))) ?_
    rintro e₂ a₂ X₃ h2
    cases e₂ with
    | normal =>
     obtain ⟨hk3, hj3⟩ := h2
     have hl3 := hk3.blk (by omega) hl2
     have hr := run_endRound (P := P) none hl3
     refine ⟨_, _, hr, by rw [hS1]; exact (hku.trans (hk3.mono (by omega))).trans (KeepUp.putObj _ (by omega)), .inl ⟨rfl, ?_, ?_, ?_⟩⟩
     ·exact hst _ _ _ hj3 (below_putObj (Below.refl _ _) _ (by omega))
     ·rw [World.putObj_heap_same (Array.getElem?_eq_some_iff.1 hl3).1, hrec]; rfl
     ·exact (World.putObj_heap_other (by omega)).trans (hk3.blk (by omega) hk2)
    | panic ch =>
     obtain ⟨hd, hk3, hp3⟩ := h2
     exact ⟨hd, by rw [hS1]; exact hku.trans (hk3.mono (by omega)), .inr ⟨ch, rfl, hp3, hk3.blk (by omega) hk2⟩⟩
    | ret => exact h2.elim
    | exit id => exact h2.elim
    | goto t => exact h2.elim
    | outgrown => exact h2.elim
   | exit id => exact h1.elim
   | goto t => exact h1.elim
   | ret => exact h1.elim
   | panic ch => exact h1.elim
   | outgrown => exact h1.elim
  ·rintro e W2 (⟨v, rfl, hj, hl, hk⟩ | ⟨ch, rfl, hp, hk⟩)
   ·refine ⟨none, _, by have := run_endLoop (P := P) hl (by rw [hrec]; simp); rw [hrec] at this; exact this, hdone w.heap.size _ (Nat.le_refl _) (hst _ _ _ hj (below_putObj (Below.refl _ _) _ (by omega))) ((World.putObj_heap_other (by omega)).trans hk)⟩
   ·exact hpanic w.heap.size ch W2 (Nat.le_refl _) hp hk
end Go.Proofs.YtloijngccppfgaaGreat.F
end

section
namespace Go.Proofs.YtloijngccppfgaaGreat.F
open Go.RowKit Go.Proofs.YtloijngccppfgaaGreatW.PrintWords Go.Proofs.YtloijngccppfgaaGreatW.PrintLast Go.Proofs.YtloijngccppfgaaGreatW.PrintMore
attribute [local go_sem] max2_int min2_int max_two min_two max_three min_three max_four min_four
set_option linter.unusedVariables false
set_option linter.unusedSimpArgs false
attribute [local go_sem] Oper.semAt_some
structure Vis where
 n : S112
 b : S110
 d : Int
mutual
def visNode (b : S110) (d : Int) : S112 → List Vis
 | ⟨nm, un, af, sb, vi, al⟩ => ⟨⟨nm, un, af, sb, vi, al⟩, b, d⟩ :: visAlts (wrap64 (d + 1)) al
def visNodes (b : S110) (d : Int) : List S112 → List Vis
 | [] => []
 | x :: l => visNode b d x ++ visNodes b d l
def visBody (d : Int) : SB110 S112 → List Vis
 | ⟨l⟩ => visNodes ⟨l⟩ d l
def visAlts (d : Int) : List (SB110 S112) → List Vis
 | [] => []
 | b :: l => visBody d b ++ visAlts d l
end
def VK (w0 : World) (v : Vis) (args : Array Value) : Prop := ∃ A2 c2 A5 c5 A6 c6, args = #[.agg #[.string v.n.f0, .string v.n.f1, .slice A2 v.n.f2.length c2, .bool v.n.f3, .bool v.n.f4, .slice A5 v.n.f5.length c5, .slice A6 v.b.f0.length c6, .int .i64 v.d]] ∧
 v.n.f2.length ≤ c2 ∧ Kd.string.C w0 A2 v.n.f2.length v.n.f2 ∧ v.n.f5.length ≤ c5 ∧ k110.C w0 A5 v.n.f5.length v.n.f5
theorem visNode_eq (b : S110) (d : Int) (x : S112) : visNode b d x = ⟨x, b, d⟩ :: visAlts (wrap64 (d + 1)) x.f5 := by cases x; simp [visNode]
theorem visAlts_take (d : Int) (l : List S110) (i : Nat) (h : i < l.length) : visAlts d (l.take (i + 1)) = visAlts d (l.take i) ++ visNodes l[i] d l[i].f0 := by
 induction l generalizing i with
 | nil => simp at h
 | cons b l ih =>
  cases i with
  | zero => cases b; simp [visAlts, visBody]
  | succ i =>
   simp only [List.take_succ_cons, visAlts, List.getElem_cons_succ]
   rw [ih i (by simpa using h), List.append_assoc]
theorem visNodes_take (b : S110) (d : Int) (l : List S112) (i : Nat) (h : i < l.length) : visNodes b d (l.take (i + 1)) = visNodes b d (l.take i) ++ (⟨l[i], b, d⟩ :: visAlts (wrap64 (d + 1)) l[i].f5) := by
 induction l generalizing i with
 | nil => simp at h
 | cons x l ih =>
  cases i with
  | zero => simp [visNodes, visNode_eq]
  | succ i =>
   simp only [List.take_succ_cons, visNodes, List.getElem_cons_succ]
   rw [ih i (by simpa using h), List.append_assoc]
theorem visAlts_append (d : Int) (l l2 : List S110) : visAlts d (l ++ l2) = visAlts d l ++ visAlts d l2 := by
 induction l with
 | nil => simp [visAlts]
 | cons b l ih => simp only [List.cons_append, visAlts, ih, List.append_assoc]
theorem visNodes_append (b : S110) (d : Int) (l l2 : List S112) : visNodes b d (l ++ l2) = visNodes b d l ++ visNodes b d l2 := by
 induction l with
 | nil => simp [visNodes]
 | cons x l ih => simp only [List.cons_append, visNodes, ih, List.append_assoc]
theorem visAlts_split (d : Int) (l : List S110) (i : Nat) (h : i < l.length) : visAlts d l = visAlts d (l.take i) ++ (visNodes l[i] d l[i].f0 ++ visAlts d (l.drop (i + 1))) := by
 have e : l = l.take (i + 1) ++ l.drop (i + 1) := (List.take_append_drop _ _).symm
 rw [← List.append_assoc, ← visAlts_take d l i h, ← visAlts_append, List.take_append_drop]
theorem visNodes_split (b : S110) (d : Int) (l : List S112) (i : Nat) (h : i < l.length) : visNodes b d l = visNodes b d (l.take i) ++ (⟨l[i], b, d⟩ :: (visAlts (wrap64 (d + 1)) l[i].f5 ++ visNodes b d (l.drop (i + 1)))) := by
 have e := visNodes_take b d l i h
 have e2 : visNodes b d l = visNodes b d (l.take (i + 1)) ++ visNodes b d (l.drop (i + 1)) := by rw [← visNodes_append, List.take_append_drop]
 rw [e2, e, List.append_assoc, List.cons_append]
structure Marks (B : Nat) (X : World) (ds : List Nat) : Prop where
 nodup : ds.Nodup
 here : ∀ r, r ∈ ds → B ≤ r ∧ X.heap[r]? = some (.deferred (some []))
theorem Marks.nil (B : Nat) (X : World) : Marks B X [] := ⟨List.nodup_nil, fun r h => by cases h⟩
theorem Marks.keep {B : Nat} {X X' : World} {ds : List Nat} (h : Marks B X ds) (hk : KeepUp B X X') : Marks B X' ds := ⟨h.nodup, fun r hr => ⟨(h.here r hr).1, hk.blk (h.here r hr).1 (h.here r hr).2⟩⟩
theorem Marks.below {B n : Nat} {X X' : World} {ds : List Nat} (h : Marks B X ds) (hb : Below n X X') (hlt : ∀ r ∈ ds, r < n) : Marks B X' ds := ⟨h.nodup, fun r hr => ⟨(h.here r hr).1, (hb.block r (hlt r hr)).trans (h.here r hr).2⟩⟩
theorem Marks.lt {B : Nat} {X : World} {ds : List Nat} (h : Marks B X ds) : ∀ r ∈ ds, r < X.heap.size := fun r hr => (Array.getElem?_eq_some_iff.1 (h.here r hr).2).1
theorem Marks.cons {B d : Nat} {X : World} {ds : List Nat} (h : Marks B X ds) (hd : B ≤ d) (hn : d ∉ ds) (hh : X.heap[d]? = some (.deferred (some []))) : Marks B X (d :: ds) :=
 ⟨List.nodup_cons.2 ⟨hn, h.nodup⟩, fun r hr => (List.mem_cons.1 hr).elim (fun e => by subst e; exact ⟨hd, hh⟩) (fun hr => h.here r hr)⟩
theorem leaves_marks {P : Program} {fn : Func} {tmps : Array Value} {R : Ending → World → Prop} {B : Nat} (u : FrameMode) (hu : u ≠ .run) : ∀ (ds : List Nat) (w : World), Marks B w ds → (∀ W, Below B w W → LeavesInM Fence.wide 0 P fn tmps R [] u W) → LeavesInM Fence.wide 0 P fn tmps R (ds.map markOf) u w
 | [], w, _, h => h w (Below.refl _ _)
 | r :: ds, w, hm, h => by
  have h1 := hm.here r List.mem_cons_self
  refine ⟨hu, .inl ⟨r, w.putObj r (.deferred none), rfl, run_takeDeferred h1.2, ?_⟩⟩
  have hb : Below B w (w.putObj r (.deferred none)) := below_putObj (Below.refl _ _) _ h1.1
  refine leaves_marks u hu ds _ ⟨(List.nodup_cons.1 hm.nodup).2, fun r' hr' => ⟨(hm.here r' (List.mem_cons_of_mem _ hr')).1, ?_⟩⟩ (fun W hW => h W (hb.trans hW))
  exact (World.putObj_heap_other (fun e => by subst e; exact (List.nodup_cons.1 hm.nodup).1 hr')).trans (hm.here r' (List.mem_cons_of_mem _ hr')).2
def NodesD (b1 b2 : Nat) (deep : Int) (A : Option Addr) (c : Nat) (l : List S110) (w0 X : World) : Prop := Below w0.heap.size w0 X ∧ X.heap[b1]? = some (.cells #[.slice A l.length c] 52 (0, 0)) ∧ X.heap[b2]? = some (.cells #[.int .i64 deep] 3 (0, 0))
def NodesC (l : List S110) : Prop := ∀ (deep : Int) (A : Option Addr) (c b1 b2 : Nat) (w0 : World), k110.C w0 A l.length l → l.length ≤ c →
 IterP Tryz.prog 134 #[.pointer (some ⟨b1, 0, none⟩), .pointer (some ⟨b2, 0, none⟩)] (VK w0) (visAlts deep l) (NodesD b1 b2 deep A c l w0)
theorem nodes_call (A : Option Addr) (n c : Nat) (deep : Int) (w : World) : CallsIn Fence.wide 0 Tryz.prog 112 #[.slice A n c, .int .i64 deep] w fun e w' => e = .returned (.func (.func 134) #[] #[.pointer (some ⟨w.heap.size, 0, none⟩), .pointer (some ⟨w.heap.size + 1, 0, none⟩)]) ∧ w' = (w.alloc (.cells #[.slice A n c] 52 (0, 0))).alloc (.cells #[.int .i64 deep] 3 (0, 0)) := by
 refine callsIn_wide.2 ?_
 have hmf : ∀ (fn : Fn) (first cap : Array Value) (w : World), (Instr.makeFunc fn first cap).run Tryz.prog w = .ok (.func fn first cap) w := fun _ _ _ _ => rfl
 go_enter Tryz.func112, Tryz.ntmps112
 go_wp2
 go_ret
 exact ⟨rfl, rfl⟩
set_option maxHeartbeats 16000000 in
set_option maxRecDepth 100000 in
theorem nodes_walk (l : List S110) (ih : ∀ b ∈ l, ∀ x ∈ b.f0, NodesC x.f5) : NodesC l := by
 intro deep A c b1 b2 w0 hC hc ly J Jp W hJ0 hD hst hstp hY
 have HC := Aside0.mk hC
 have HM := Aside0.mk (Kd.C_max hC)
 have HIH := Aside0.mk ih
 have HD := Aside0.mk hD
 have HST := Aside0.mk hst
 have HSTP := Aside0.mk hstp
 have HY := Aside0.mk hY
 have hJ1 := hst _ _ _ hJ0 ((Below.refl W.heap.size W).alloc (Nat.le_refl _) (.cells #[.func (.yield ly) #[] #[]] 205 (0, 0)))
 have HJ1 := Aside0.mk hJ1
 have hd := hD _ _ hJ1
 have c1 : (W.alloc (.cells #[.func (.yield ly) #[] #[]] 205 (0, 0))).cell? ⟨b1, 0, none⟩ = some (.slice A l.length c) := (blk_cell hd.2.1 0).trans rfl
 clear hJ1 hd hC hc ih hD hst hstp hY hJ0
 refine callsIn_of_wpB Tryz.func134 rfl ?_
 simp only [Tryz.ntmps134, List.size_toArray, List.length_cons, List.length_nil, Nat.reduceAdd, Nat.reduceSub, Array.replicate_succ, Array.replicate_zero, List.push_toArray, List.append_toArray, List.nil_append, List.cons_append]
 (refine wpB_seq_k (fun K hK => ?_); gi_wp2; refine hK.out _ _ ?_; clear hK K)
 (refine wpB_seq_k (fun K hK => ?_); gi_wp2; refine hK.out _ _ ?_; clear hK K)
 refine wpB_block (wpB_loop (fun a' w' => ∃ (i : Nat) (ds : List Nat) (u4 u5 u6 u7 u8 u12 u13 u14 u15 u16 u17 u18 u19 u20 u21 u22 u23 u24 u25 u26 u27 u28 u29 u30 u31 u32 u33 u34 u35 u36 u37 u38 u39 u40 : Value), (i ≤ l.length ∧ Aside0 (J (visAlts deep (l.take i)) w') ∧ Aside0 (Marks W.heap.size w' ds) ∧ Aside0 (w'.heap[W.heap.size]? = some (.cells #[.func (.yield ly) #[] #[]] 205 (0, 0))) ∧ Aside0 (W.heap.size ≤ w'.heap.size)) ∧ a' = { tmps := #[.func (.yield ly) #[] #[], .pointer (some ⟨b1, 0, none⟩), .pointer (some ⟨b2, 0, none⟩), .pointer (some ⟨W.heap.size, 0, none⟩), u4, u5, u6, u7, u8, .slice A l.length c, .int .i64 l.length, .int .i64 (i : Nat), u12, u13, u14, u15, u16, u17, u18, u19, u20, u21, u22, u23, u24, u25, u26, u27, u28, u29, u30, u31, u32, u33, u34, u35, u36, u37, u38, u39, u40], defers := ds.map markOf }) (fun a' _ => l.length - (intOf (a'.tmps.getD 11 undef)).toNat) ?_ ?_)
 ·refine ⟨0, [], ?_⟩
  (repeat apply Exists.intro)
  exact ⟨⟨by omega, HJ1, ⟨Marks.nil _ _⟩, ⟨blk_new W _⟩, ⟨by simp⟩⟩, rfl⟩
 rintro _ wr ⟨i, ds, u4, u5, u6, u7, u8, u12, u13, u14, u15, u16, u17, u18, u19, u20, u21, u22, u23, u24, u25, u26, u27, u28, u29, u30, u31, u32, u33, u34, u35, u36, u37, u38, u39, u40, ⟨hi, HJ, HMK, H3, HSZ⟩, rfl⟩
 have hm := HM.out
 by_cases hlt : i < l.length
 ·have hd := HD.out _ _ HJ.out
  obtain ⟨ad, Ab, cb, e0, x0, l0, g0⟩ := at_T110 HC.out (i : Int) (by omega) (by omega)
  rw [Int.toNat_natCast] at x0
  have hrd : rd_T110 l (i : Int) = l[i] := by unfold rd_T110; rw [Int.toNat_natCast, List.getD_eq_getElem?_getD, List.getElem?_eq_getElem hlt]; rfl
  rw [hrd] at x0 l0 g0
  have y0 := (hd.1.cell (World.block_lt_of_cell? w0 _ x0)).trans x0
  subst e0
  obtain ⟨b, hb⟩ : ∃ b, l[i] = b := ⟨_, rfl⟩
  rw [hb] at x0 l0 g0 y0
  have HTK : Aside0 (visAlts deep (l.take (i + 1)) = visAlts deep (l.take i) ++ visNodes b deep b.f0) := ⟨by rw [visAlts_take deep l i hlt, hb]⟩
  have HSP : Aside0 (visAlts deep l = visAlts deep (l.take i) ++ (visNodes b deep b.f0 ++ visAlts deep (l.drop (i + 1)))) := ⟨by rw [visAlts_split deep l i hlt, hb]⟩
  have HIHB : Aside0 (∀ x ∈ b.f0, NodesC x.f5) := ⟨fun x hx => HIH.out l[i] (List.getElem_mem hlt) x (hb ▸ hx)⟩
  have HG0 := Aside0.mk g0
  have HL0 := Aside0.mk l0
  have HMB := Aside0.mk (Kd.C_max g0)
  have hlt' : (i : Int) < (l.length : Int) := by omega
  have h0' : (0 : Int) ≤ i := by omega
  have hJ2 := HST.out _ _ _ HJ.out ((Below.refl W.heap.size wr).alloc HSZ.out (.cells #[.slice Ab b.f0.length cb] 110 (0, 0)))
  have HJ2 := Aside0.mk hJ2
  have HM2 := Aside0.mk (HMK.out.keep (KeepUp.of_below ((Below.refl wr.heap.size wr).alloc (Nat.le_refl _) (.cells #[.slice Ab b.f0.length cb] 110 (0, 0))) (Nat.le_refl _)))
  have H32 := Aside0.mk (blk_below H3.out ((Below.refl wr.heap.size wr).alloc (Nat.le_refl _) (.cells #[.slice Ab b.f0.length cb] 110 (0, 0))))
  obtain ⟨bb, hbb⟩ : ∃ bb, wr.heap.size = bb := ⟨_, rfl⟩
  have HBB : Aside0 (wr.heap.size = bb) := ⟨hbb⟩
  clear hd x0 l0 g0 hrd hJ2 hbb
  (refine wpB_seq_k (fun K hK => ?_); gi_wp2; refine hK.out _ _ ?_; clear hK K)
  (refine wpB_seq_k (fun K hK => ?_); gi_wp2; refine hK.out _ _ ?_; clear hK K)
  refine wpB_seqB (wpB_block ?_)
  (refine wpB_seq_k (fun K hK => ?_); gi_wp2; refine hK.out _ _ ?_; clear hK K)
  (refine wpB_seq_k (fun K hK => ?_); gi_wp2; refine hK.out _ _ ?_; clear hK K)
  rw [HBB.out]
  refine wpB_block (wpB_loop (fun a' w' => ∃ (j : Nat) (ds : List Nat) (u4 u6 u7 u8 u12 u13 u14 u15 u19 u20 u21 u22 u23 u24 u25 u26 u27 u28 u29 u30 u31 u32 u33 u34 u35 u36 u37 u38 u39 u40 : Value), (j ≤ b.f0.length ∧ Aside0 (J (visAlts deep (l.take i) ++ visNodes b deep (b.f0.take j)) w') ∧ Aside0 (Marks W.heap.size w' ds) ∧ Aside0 (w'.heap[W.heap.size]? = some (.cells #[.func (.yield ly) #[] #[]] 205 (0, 0))) ∧ Aside0 (w'.heap[bb]? = some (.cells #[.slice Ab b.f0.length cb] 110 (0, 0))) ∧ Aside0 (W.heap.size ≤ w'.heap.size)) ∧ a' = { tmps := #[.func (.yield ly) #[] #[], .pointer (some ⟨b1, 0, none⟩), .pointer (some ⟨b2, 0, none⟩), .pointer (some ⟨W.heap.size, 0, none⟩), u4, .pointer (some ⟨bb, 0, none⟩), u6, u7, u8, .slice (some ad) l.length c, .int .i64 l.length, .int .i64 (i : Nat), u12, u13, u14, u15, .slice Ab b.f0.length cb, .int .i64 b.f0.length, .int .i64 (j : Nat), u19, u20, u21, u22, u23, u24, u25, u26, u27, u28, u29, u30, u31, u32, u33, u34, u35, u36, u37, u38, u39, u40], defers := ds.map markOf }) (fun a' _ => b.f0.length - (intOf (a'.tmps.getD 18 undef)).toNat) ?_ ?_)
  ·refine ⟨0, ds, ?_⟩
   (repeat apply Exists.intro)
   exact ⟨⟨by omega, ⟨by simpa [visNodes] using HJ2.out⟩, HM2, H32, ⟨by rw [← HBB.out]; exact blk_new wr _⟩, ⟨by have := HSZ.out; simp; omega⟩⟩, rfl⟩
  clear HJ HMK H3 HJ2 HM2 H32 y0 hm
  have HLT := Aside0.mk hlt
  have HBS : Aside0 (W.heap.size ≤ bb) := ⟨by rw [← HBB.out]; exact HSZ.out⟩
  clear HSZ HBB
  rename_i _
  rintro _ wq ⟨j, ds2, u4, u6, u7, u8, u12, u13, u14, u15, u19, u20, u21, u22, u23, u24, u25, u26, u27, u28, u29, u30, u31, u32, u33, u34, u35, u36, u37, u38, u39, u40, ⟨hj, HJ, HMK, H3, H5, HSZ⟩, rfl⟩
  have hm := HMB.out
  by_cases hlj : j < b.f0.length
  ·have hd := HD.out _ _ HJ.out
   obtain ⟨ad2, A2, c2, A5, c5, e1, x0, x1, x2, x3, x4, x5, l2, g2, l5, g5⟩ := at_T112 HG0.out (j : Int) (by omega) (by omega)
   rw [Int.toNat_natCast] at x0 x1 x2 x3 x4 x5
   have hrd : rd_T112 b.f0 (j : Int) = b.f0[j] := by unfold rd_T112; rw [Int.toNat_natCast, List.getD_eq_getElem?_getD, List.getElem?_eq_getElem hlj]; rfl
   rw [hrd] at x0 x1 x2 x3 x4 x5 l2 g2 l5 g5
   subst e1
   have hxm : b.f0[j] ∈ b.f0 := List.getElem_mem hlj
   obtain ⟨x, hx⟩ : ∃ x, b.f0[j] = x := ⟨_, rfl⟩
   have HTK2 : Aside0 (visNodes b deep (b.f0.take (j + 1)) = visNodes b deep (b.f0.take j) ++ (⟨x, b, deep⟩ :: visAlts (wrap64 (deep + 1)) x.f5)) := ⟨by rw [visNodes_take b deep b.f0 j hlj, hx]⟩
   have HSP2 : Aside0 (visAlts deep l = (visAlts deep (l.take i) ++ visNodes b deep (b.f0.take j)) ++ ⟨x, b, deep⟩ :: (visAlts (wrap64 (deep + 1)) x.f5 ++ (visNodes b deep (b.f0.drop (j + 1)) ++ visAlts deep (l.drop (i + 1))))) := ⟨by rw [HSP.out, visNodes_split b deep b.f0 j hlj, hx]; simp only [List.append_assoc, List.cons_append]⟩
   rw [hx] at x0 x1 x2 x3 x4 x5 l2 g2 l5 g5 hxm
   have y0 := (hd.1.cell (World.block_lt_of_cell? w0 _ x0)).trans x0
   have y1 := (hd.1.cell (World.block_lt_of_cell? w0 _ x1)).trans x1
   have y2 := (hd.1.cell (World.block_lt_of_cell? w0 _ x2)).trans x2
   have y3 := (hd.1.cell (World.block_lt_of_cell? w0 _ x3)).trans x3
   have y4 := (hd.1.cell (World.block_lt_of_cell? w0 _ x4)).trans x4
   have y5 := (hd.1.cell (World.block_lt_of_cell? w0 _ x5)).trans x5
   have hbn := (Below.refl wq.heap.size wq).alloc (Nat.le_refl _) (.cells #[.string x.f0, .string x.f1, .slice A2 x.f2.length c2, .bool x.f3, .bool x.f4, .slice A5 x.f5.length c5] 112 (0, 0))
   have z2 : (wq.alloc (.cells #[.string x.f0, .string x.f1, .slice A2 x.f2.length c2, .bool x.f3, .bool x.f4, .slice A5 x.f5.length c5] 112 (0, 0))).cell? ⟨b2, 0, none⟩ = some (.int .i64 deep) := (blk_cell (blk_below hd.2.2 hbn) 0).trans rfl
   have z3 : (wq.alloc (.cells #[.string x.f0, .string x.f1, .slice A2 x.f2.length c2, .bool x.f3, .bool x.f4, .slice A5 x.f5.length c5] 112 (0, 0))).cell? ⟨W.heap.size, 0, none⟩ = some (.func (.yield ly) #[] #[]) := (blk_cell (blk_below H3.out hbn) 0).trans rfl
   have z5 : (wq.alloc (.cells #[.string x.f0, .string x.f1, .slice A2 x.f2.length c2, .bool x.f3, .bool x.f4, .slice A5 x.f5.length c5] 112 (0, 0))).cell? ⟨bb, 0, none⟩ = some (.slice (some ad2) b.f0.length cb) := (blk_cell (blk_below H5.out hbn) 0).trans rfl
   have HVK : Aside0 (VK w0 ⟨x, b, deep⟩ #[.agg #[.string x.f0, .string x.f1, .slice A2 x.f2.length c2, .bool x.f3, .bool x.f4, .slice A5 x.f5.length c5, .slice (some ad2) b.f0.length cb, .int .i64 deep]]) := ⟨⟨A2, c2, A5, c5, some ad2, cb, rfl, l2, g2, l5, g5⟩⟩
   have HSUB := Aside0.mk (HIHB.out x hxm)
   have HG5 := Aside0.mk g5
   have HL5 := Aside0.mk l5
   have HJ2 := Aside0.mk (HST.out _ _ _ HJ.out ((Below.refl W.heap.size wq).alloc HSZ.out (.cells #[.string x.f0, .string x.f1, .slice A2 x.f2.length c2, .bool x.f3, .bool x.f4, .slice A5 x.f5.length c5] 112 (0, 0))))
   have hlj' : (j : Int) < (b.f0.length : Int) := by omega
   have h0j : (0 : Int) ≤ j := by omega
   obtain ⟨fn, tmps, assign, body, hy, hR⟩ := HY.out _ _ _ _ _ HSP2.out HJ2.out HVK.out
   have HR := Aside0.mk hR
   change (Instr.yield ly #[.agg #[.string x.f0, .string x.f1, .slice A2 x.f2.length c2, .bool x.f3, .bool x.f4, .slice A5 x.f5.length c5, .slice (some ad2) b.f0.length cb, .int .i64 deep]]).run Tryz.prog (wq.alloc (.cells #[.string x.f0, .string x.f1, .slice A2 x.f2.length c2, .bool x.f3, .bool x.f4, .slice A5 x.f5.length c5] 112 (0, 0))) = _ at hy
   clear hR hd x0 x1 x2 x3 x4 x5 l2 g2 l5 g5 hxm hx hrd
   (refine wpB_seq_k (fun K hK => ?_); gi_wp2; refine hK.out _ _ ?_; clear hK K)
   (refine wpB_seq_k (fun K hK => ?_); gi_wp2; refine hK.out _ _ ?_; clear hK K)
   refine wpB_seqB (wpB_block ?_)
   (refine wpB_seq_k (fun K hK => ?_); gi_wp2; refine hK.out _ _ ?_; clear hK K)
   refine wpB_seq_k (fun K hK => ?_)
   gi_wp2
   refine ⟨rfl, HR.out.mono ?_⟩
   have HKX := Aside0.mk hbn
   clear y0 y1 y2 y3 y4 y5 z2 z3 z5 hy HR hbn hm h0j hlj'
   rintro e X2 ⟨hk, (⟨rfl, hj2⟩ | ⟨ch, rfl, hp⟩)⟩
   ·have hd2 := HD.out _ _ hj2
    have hMX := (HMK.out.keep (KeepUp.of_below HKX.out (Nat.le_refl _))).keep hk
    have h3X := hk.blk (Nat.le_refl _) (blk_below H3.out HKX.out)
    have h5X := hk.blk HBS.out (blk_below H5.out HKX.out)
    have hNX := hk.blk HSZ.out (blk_new wq (.cells #[.string x.f0, .string x.f1, .slice A2 x.f2.length c2, .bool x.f3, .bool x.f4, .slice A5 x.f5.length c5] 112 (0, 0)))
    have HSX : Aside0 (W.heap.size ≤ X2.heap.size) := ⟨Nat.le_of_lt (lt_of_blk_ h3X)⟩
    have z2 : X2.cell? ⟨b2, 0, none⟩ = some (.int .i64 deep) := (blk_cell hd2.2.2 0).trans rfl
    have z5 : X2.cell? ⟨wq.heap.size, 5, none⟩ = some (.slice A5 x.f5.length c5) := (blk_cell hNX 5).trans rfl
    have HJX := Aside0.mk hj2
    have HMX := Aside0.mk hMX
    have H3X := Aside0.mk h3X
    have H5X := Aside0.mk h5X
    clear hd2 hMX h3X h5X hNX hj2 HKX hk HJ HJ2 HMK H3 H5
    gi_wp2
    refine hK.out _ _ ?_
    clear hK K
    refine wpB_seq_k (fun K hK => ?_)
    gi_wp2
    refine ⟨trivial, rfl, (nodes_call A5 x.f5.length c5 (wrap64 (deep + 1)) X2).mono ?_⟩
    rintro e X3 ⟨rfl, hX3⟩
    have HX3 := Aside0.mk hX3
    clear hX3
    gi_wp2
    refine hK.out _ _ ?_
    clear hK K z2 z5
    have HS3 : Aside0 (X3.heap.size = X2.heap.size + 2) := ⟨by rw [HX3.out]; simp⟩
    have HB3 : Aside0 (Below X2.heap.size X2 X3) := ⟨by rw [HX3.out]; exact ((Below.refl _ X2).alloc (Nat.le_refl _) _).alloc (by simp) _⟩
    have HC1 : Aside0 (X3.heap[X2.heap.size]? = some (.cells #[.slice A5 x.f5.length c5] 52 (0, 0))) := ⟨by rw [HX3.out]; exact (Below.heap_alloc _ _ _ (by simp)).trans (blk_new X2 _)⟩
    have HC2 : Aside0 (X3.heap[X2.heap.size + 1]? = some (.cells #[.int .i64 (wrap64 (deep + 1))] 3 (0, 0))) := ⟨by rw [HX3.out]; have := blk_new (X2.alloc (.cells #[.slice A5 x.f5.length c5] 52 (0, 0))) (.cells #[.int .i64 (wrap64 (deep + 1))] 3 (0, 0)); rwa [World.size_alloc] at this⟩
    have HLTM : Aside0 (∀ r ∈ ds2, r < X3.heap.size) := ⟨fun r hr => by have h1 := HMX.out.lt r hr; have h2 := HS3.out; omega⟩
    have HW3 : Aside0 (W.heap.size < X3.heap.size) := ⟨by have := HSX.out; have h2 := HS3.out; omega⟩
    have HB5 : Aside0 (bb < X3.heap.size) := ⟨by have := lt_of_blk_ H5X.out; have h2 := HS3.out; omega⟩
    have HQ : Aside0 (X2.heap.size < X3.heap.size ∧ X2.heap.size + 1 < X3.heap.size ∧ W.heap.size ≤ X2.heap.size) := ⟨by have h2 := HS3.out; have := HSX.out; omega⟩
    refine wpB_block ?_
    refine wpB_rangeFuncP (gf := 134) (lb := #[.pointer (some ⟨X2.heap.size, 0, none⟩), .pointer (some ⟨X2.heap.size + 1, 0, none⟩)]) rfl (enters_of Tryz.func134 (by kernel_rfl) rfl) ⟨_, Tryz.func134⟩ (HSUB.out (wrap64 (deep + 1)) A5 c5 X2.heap.size (X2.heap.size + 1) w0 HG5.out HL5.out) ?hsz
     (fun s X => J (visAlts deep (l.take i) ++ visNodes b deep (b.f0.take j) ++ [⟨x, b, deep⟩] ++ s) X ∧ Marks W.heap.size X ds2 ∧ X.heap[W.heap.size]? = some (.cells #[.func (.yield ly) #[] #[]] 205 (0, 0)) ∧ X.heap[bb]? = some (.cells #[.slice (some ad2) b.f0.length cb] 110 (0, 0)) ∧ X.heap[X2.heap.size]? = some (.cells #[.slice A5 x.f5.length c5] 52 (0, 0)) ∧ X.heap[X2.heap.size + 1]? = some (.cells #[.int .i64 (wrap64 (deep + 1))] 3 (0, 0)))
     (fun X ch => Jp X ch ∧ Marks W.heap.size X ds2) ?h0 ?hD ?hst ?hstp ?hround ?hdone ?hpanic
    case hsz => rintro v args ⟨_, _, _, _, _, _, rfl, _⟩; rfl
    case h0 => exact ⟨by rw [List.append_nil]; exact HST.out _ _ _ HJX.out (HB3.out.mono HSX.out), HMX.out.below HB3.out HMX.out.lt, blk_below H3X.out HB3.out, blk_below H5X.out HB3.out, HC1.out, HC2.out⟩
    case hD => exact fun s X h => ⟨(HD.out _ _ h.1).1, h.2.2.2.2.1, h.2.2.2.2.2⟩
    case hst => exact fun s X X' h hb => ⟨HST.out _ _ _ h.1 (hb.mono (Nat.le_of_lt HW3.out)), h.2.1.below hb HLTM.out, (hb.block _ HW3.out).trans h.2.2.1, (hb.block _ HB5.out).trans h.2.2.2.1, (hb.block _ HQ.out.1).trans h.2.2.2.2.1, (hb.block _ HQ.out.2.1).trans h.2.2.2.2.2⟩
    case hstp => exact fun X X' ch h hb => ⟨HSTP.out _ _ _ h.1 (hb.mono (Nat.le_of_lt HW3.out)), h.2.below hb HLTM.out⟩
    case hround =>
     rintro l2 s v tt args X hss hl1 hl2 ⟨hJ, hM, h3, h5, hc1, hc2⟩ hv
     have HSS : Aside0 (visAlts deep l = (visAlts deep (l.take i) ++ visNodes b deep (b.f0.take j) ++ [⟨x, b, deep⟩] ++ s) ++ v :: (tt ++ (visNodes b deep (b.f0.drop (j + 1)) ++ visAlts deep (l.drop (i + 1))))) := ⟨by rw [HSP2.out, hss]; simp only [List.append_assoc, List.cons_append, List.nil_append]⟩
     clear hss
     obtain ⟨A2', c2', A5', c5', A6', c6', rfl, hvr⟩ := hv
     have HJa := Aside0.mk hJ
     have HMa := Aside0.mk hM
     have H3a := Aside0.mk h3
     have H5a := Aside0.mk h5
     have HC1a := Aside0.mk hc1
     have HC2a := Aside0.mk hc2
     have HVa := Aside0.mk hvr
     have HL1 := Aside0.mk hl1
     have HL2 := Aside0.mk hl2
     clear hJ hM h3 h5 hc1 hc2 hvr hl1 hl2
     gi_wp2
     have HXA := Aside0.mk ((Below.refl X.heap.size X).alloc (Nat.le_refl _) (.cells #[.string v.n.f0, .string v.n.f1, .slice A2' v.n.f2.length c2', .bool v.n.f3, .bool v.n.f4, .slice A5' v.n.f5.length c5', .slice A6' v.b.f0.length c6', .int .i64 v.d] 175 (0, 0)))
     have HVB := Aside0.mk (blk_new X (.cells #[.string v.n.f0, .string v.n.f1, .slice A2' v.n.f2.length c2', .bool v.n.f3, .bool v.n.f4, .slice A5' v.n.f5.length c5', .slice A6' v.b.f0.length c6', .int .i64 v.d] 175 (0, 0)))
     refine ⟨HXA.out, ?_⟩
     intro X4 hku hbl
     have hl3 : X3.heap.size ≤ X.heap.size := Nat.le_of_lt (Nat.lt_of_le_of_lt HL1.out HL2.out)
     have hb34 : Below X3.heap.size X X4 := (HXA.out.mono hl3).trans (hbl.mono HL1.out)
     have HJb := Aside0.mk (HST.out _ _ _ HJa.out (hb34.mono (Nat.le_of_lt HW3.out)))
     have HMb := Aside0.mk (HMa.out.below hb34 HLTM.out)
     have H3b := Aside0.mk ((hb34.block _ HW3.out).trans H3a.out)
     have H5b := Aside0.mk ((hb34.block _ HB5.out).trans H5a.out)
     have HC1b := Aside0.mk ((hb34.block _ HQ.out.1).trans HC1a.out)
     have HC2b := Aside0.mk ((hb34.block _ HQ.out.2.1).trans HC2a.out)
     have hVB := hku.blk HL2.out HVB.out
     have q0 : X4.cell? ⟨X.heap.size, 0, none⟩ = some (.string v.n.f0) := (blk_cell hVB 0).trans rfl
     have q1 : X4.cell? ⟨X.heap.size, 1, none⟩ = some (.string v.n.f1) := (blk_cell hVB 1).trans rfl
     have q2 : X4.cell? ⟨X.heap.size, 2, none⟩ = some (.slice A2' v.n.f2.length c2') := (blk_cell hVB 2).trans rfl
     have q3 : X4.cell? ⟨X.heap.size, 3, none⟩ = some (.bool v.n.f3) := (blk_cell hVB 3).trans rfl
     have q4 : X4.cell? ⟨X.heap.size, 4, none⟩ = some (.bool v.n.f4) := (blk_cell hVB 4).trans rfl
     have q5 : X4.cell? ⟨X.heap.size, 5, none⟩ = some (.slice A5' v.n.f5.length c5') := (blk_cell hVB 5).trans rfl
     have q6 : X4.cell? ⟨X.heap.size, 6, none⟩ = some (.slice A6' v.b.f0.length c6') := (blk_cell hVB 6).trans rfl
     have q7 : X4.cell? ⟨X.heap.size, 7, none⟩ = some (.int .i64 v.d) := (blk_cell hVB 7).trans rfl
     have z3 : X4.cell? ⟨W.heap.size, 0, none⟩ = some (.func (.yield ly) #[] #[]) := (blk_cell H3b.out 0).trans rfl
     have HVK2 : Aside0 (VK w0 v #[.agg #[.string v.n.f0, .string v.n.f1, .slice A2' v.n.f2.length c2', .bool v.n.f3, .bool v.n.f4, .slice A5' v.n.f5.length c5', .slice A6' v.b.f0.length c6', .int .i64 v.d]]) := ⟨⟨A2', c2', A5', c5', A6', c6', rfl, HVa.out⟩⟩
     obtain ⟨fn, tmps, assign, body, hy, hR⟩ := HY.out _ _ _ _ _ HSS.out HJb.out HVK2.out
     have HR := Aside0.mk hR
     change (Instr.yield ly #[.agg #[.string v.n.f0, .string v.n.f1, .slice A2' v.n.f2.length c2', .bool v.n.f3, .bool v.n.f4, .slice A5' v.n.f5.length c5', .slice A6' v.b.f0.length c6', .int .i64 v.d]]).run Tryz.prog X4 = _ at hy
     clear hR hVB hku hbl hb34 HJa HMa H3a H5a HC1a HC2a HXA HVB
     gi_wp2
     refine ⟨rfl, RoundIn.mono (F := Fence.wide.inRound l2) HR.out ?_⟩
     rintro e X5 ⟨hk, (⟨rfl, hj5⟩ | ⟨ch, rfl, hp⟩)⟩
     ·have hJ5 := hj5
      rw [List.append_assoc] at hJ5
      gi_wp2
      exact ⟨hk.mono (Nat.le_of_lt HW3.out), hJ5, HMb.out.keep hk, hk.blk (Nat.le_refl _) H3b.out, hk.blk HBS.out H5b.out, hk.blk HQ.out.2.2 HC1b.out, hk.blk (Nat.le_succ_of_le HQ.out.2.2) HC2b.out⟩
     ·exact ⟨rfl, hk.mono (Nat.le_of_lt HW3.out), hp, HMb.out.keep hk⟩
    case hdone =>
     intro d Wd hd hJd hmark
     have hmm := Marks.cons hJd.2.1 (Nat.le_trans (Nat.le_of_lt HW3.out) hd) (fun hin => by have := HLTM.out d hin; omega) hmark
     have hjj : J (visAlts deep (l.take i) ++ visNodes b deep (b.f0.take (j + 1))) Wd := by rw [HTK2.out]; have := hJd.1; simpa only [List.append_assoc, List.cons_append, List.nil_append, List.singleton_append] using this
     have h3d := hJd.2.2.1
     have h5d := hJd.2.2.2.1
     have hsd := Nat.le_of_lt (lt_of_blk_ h3d)
     show wpB _ _ _ _ _ _
     refine wpB_in ?_
     have HJd := Aside0.mk hjj
     have HMd := Aside0.mk hmm
     have H3d := Aside0.mk h3d
     have H5d := Aside0.mk h5d
     have HSd := Aside0.mk hsd
     clear hJd hmark hmm hjj h3d h5d hsd
     gi_wp2
     have hwj : wrap64 ((j : Int) + 1) = ((j + 1 : Nat) : Int) := by have := hlj; have := HMB.out; unfold wrap64; omega
     rw [hwj]
     refine ⟨⟨j + 1, d :: ds2, ?_⟩, ?_⟩
     ·(repeat apply Exists.intro)
      exact ⟨⟨by omega, HJd, HMd, H3d, H5d, HSd⟩, rfl⟩
     ·show b.f0.length - ((j + 1 : Nat) : Int).toNat < b.f0.length - ((j : Nat) : Int).toNat
      omega
    case hpanic =>
     intro d ch Wd hd hJd hmark
     have hmm := Marks.cons hJd.2 (Nat.le_trans (Nat.le_of_lt HW3.out) hd) (fun hin => by have := HLTM.out d hin; omega) hmark
     refine leaves_marks (B := W.heap.size) (.panicking ch) (by simp) (d :: ds2) Wd hmm (fun W' hW' => ?_)
     exact .inr ⟨ch, rfl, HSTP.out _ _ _ hJd.1 hW'⟩
   ·have hMX := (HMK.out.keep (KeepUp.of_below HKX.out (Nat.le_refl _))).keep hk
    refine leaves_marks (B := W.heap.size) (.panicking ch) (by simp) ds2 X2 hMX (fun W' hW' => ?_)
    exact .inr ⟨ch, rfl, HSTP.out _ _ _ hp hW'⟩
  ·obtain rfl : j = b.f0.length := by omega
   have HJE := Aside0.mk (show J (visAlts deep (l.take (i + 1))) wq by have := HJ.out; rw [List.take_length] at this; rw [HTK.out]; exact this)
   (refine wpB_seq_k (fun K hK => ?_); gi_wp2; refine hK.out _ _ ?_; clear hK K)
   (refine wpB_seq_k (fun K hK => ?_); gi_wp2; clear hK K)
   refine wpB_in ?_
   gi_wp2
   have hwi : wrap64 ((i : Int) + 1) = ((i + 1 : Nat) : Int) := by have := HLT.out; have := HM.out; unfold wrap64; omega
   rw [hwi]
   refine ⟨⟨i + 1, ds2, ?_⟩, ?_⟩
   ·(repeat apply Exists.intro)
    exact ⟨⟨by have := HLT.out; omega, HJE, HMK, H3, HSZ⟩, rfl⟩
   ·show l.length - ((i + 1 : Nat) : Int).toNat < l.length - ((i : Nat) : Int).toNat
    have := HLT.out; omega
 ·obtain rfl : i = l.length := by omega
  have HJE := Aside0.mk (show J (visAlts deep l) wr by have := HJ.out; rwa [List.take_length] at this)
  (refine wpB_seq_k (fun K hK => ?_); gi_wp2; refine hK.out _ _ ?_; clear hK K)
  (refine wpB_seq_k (fun K hK => ?_); gi_wp2)
  refine leaves_marks .returning (by simp) ds wr HMK.out (fun W' hW' => ?_)
  exact ⟨.tuple #[], results_none rfl _ _ _, .inl ⟨_, rfl, HST.out _ _ _ HJE.out hW'⟩⟩
theorem nodes_all (n : Nat) : ∀ l : List S110, SizeOf.sizeOf l < n → NodesC l := by
 induction n with
 | zero => intro l h; exact absurd h (Nat.not_lt_zero _)
 | succ n ih =>
  intro l h
  refine nodes_walk l (fun b hb x hx => ih _ ?_)
  have h1 := List.sizeOf_lt_of_mem hb
  have h2 : SizeOf.sizeOf x < SizeOf.sizeOf b := by
   have := List.sizeOf_lt_of_mem hx
   cases b
   simp only [SB110.mk.sizeOf_spec] at *
   omega
  have h3 : SizeOf.sizeOf x.f5 < SizeOf.sizeOf x := by
   cases x
   simp only [S112.mk.sizeOf_spec]
   omega
  omega
theorem nodes_iter (l : List S110) : NodesC l := nodes_all (SizeOf.sizeOf l + 1) l (by omega)
end Go.Proofs.YtloijngccppfgaaGreat.F
end

section
namespace Go.Proofs.YtloijngccppfgaaGreat.F
open Go.RowKit Go.Proofs.YtloijngccppfgaaGreatW.PrintWords Go.Proofs.YtloijngccppfgaaGreatW.PrintLast Go.Proofs.YtloijngccppfgaaGreatW.PrintMore
attribute [local go_sem] max2_int min2_int max_two min_two max_three min_three max_four min_four
set_option linter.unusedVariables false
set_option linter.unusedSimpArgs false
def arcOk (n : Int) (a : S227) : Bool := decide (0 ≤ a.f0) && decide (a.f0 < n) && decide (0 ≤ a.f1) && decide (a.f1 < n)
def onStep (on : Nat → Nat) (a : S227) : Nat → Nat := fun i => if i = a.f1.toNat then on i ||| 2 ^ a.f0.toNat else on i
def onOf (l : List S227) : Nat → Nat := l.foldl onStep (fun _ => 0)
def gCells (n : Int) (on : Nat → Nat) : Array Value := (Value.int .i64 n :: (List.range 64).map fun i => Value.int .u64 (on i)).toArray
def strayV : Value := .iface 234 (.agg #[])
set_option maxHeartbeats 2000000 in
theorem one_lit (a : Nat) (ha : a < 64) (w : World) : Calls Tryz.prog 172 #[.int .i64 a] w fun e w' => e = .returned (.int .u64 ((2 ^ a : Nat) : Int)) ∧ w' = w := by
 have h0 : (0 : Int) ≤ (a : Int) := by omega
 have h1 : (a : Int) < 64 := by omega
 have h2 : IntKind.u64.wrap (a : Int) = a := by rw [IntKind.wrap_u64]; omega
 go_enter Tryz.func172, Tryz.ntmps172
 go_wp2
 go_ret
 refine ⟨?_, rfl⟩
 have hp : (2 : Nat) ^ a < 2 ^ 64 := Nat.pow_lt_pow_right (by omega) ha
 have hp2 : IntKind.u64.wrap (2 ^ a) = ((2 ^ a : Nat) : Int) := by
  have hw : ∀ x : Nat, x < 2 ^ 64 → IntKind.u64.wrap (x : Int) = x := fun x hx => by rw [IntKind.wrap_u64]; omega
  rw [show ((2 : Int) ^ a) = ((2 ^ a : Nat) : Int) from by rw [Int.natCast_pow]; rfl]
  exact hw _ hp
 rw [hp2]
 rfl
theorem arcOk_iff {n : Int} {a : S227} : arcOk n a = true ↔ (0 ≤ a.f0 ∧ a.f0 < n ∧ 0 ≤ a.f1 ∧ a.f1 < n) := by simp [arcOk, and_assoc]
theorem gCells_size (n : Int) (on : Nat → Nat) : (gCells n on).size = 65 := by simp [gCells]
theorem gCells_zero (n : Int) (on : Nat → Nat) : (gCells n on)[0]? = some (.int .i64 n) := by simp [gCells]
theorem gCells_at (n : Int) (on : Nat → Nat) (i : Nat) (h : i < 64) : (gCells n on)[i + 1]? = some (.int .u64 (on i)) := by
 simp [gCells, h]
theorem gCells_set (n : Int) (on : Nat → Nat) (a : S227) (h : a.f1.toNat < 64) : (gCells n on).setIfInBounds (a.f1.toNat + 1) (.int .u64 ((on a.f1.toNat ||| 2 ^ a.f0.toNat : Nat) : Int)) = gCells n (onStep on a) := by
 apply Array.ext
 ·simp [gCells]
 ·intro i h1 h2
  rw [Array.getElem_setIfInBounds (by simpa using h1)]
  cases i with
  | zero => simp [gCells]
  | succ i =>
   have hi : i < 64 := by rw [gCells_size] at h2; omega
   by_cases e : i = a.f1.toNat
   ·subst e
    simp [gCells, onStep]
   ·simp [gCells, onStep, e, Ne.symm e]
theorem onOf_take (l : List S227) (i : Nat) (h : i < l.length) : onOf (l.take (i + 1)) = onStep (onOf (l.take i)) l[i] := by
 unfold onOf
 rw [List.take_succ_eq_append_getElem h, List.foldl_append]; rfl
theorem on_lt (l : List S227) (n : Int) (hn : n ≤ 64) (h : ∀ a ∈ l, arcOk n a = true) (on : Nat → Nat) (ho : ∀ i, on i < 2 ^ 64) (i : Nat) : l.foldl onStep on i < 2 ^ 64 := by
 induction l generalizing on with
 | nil => exact ho i
 | cons a l ih =>
  refine ih (fun b hb => h b (List.mem_cons_of_mem _ hb)) _ (fun j => ?_)
  have := arcOk_iff.1 (h a List.mem_cons_self)
  unfold onStep
  split
  ·exact Nat.or_lt_two_pow (ho j) (Nat.pow_lt_pow_right (by omega) (by omega))
  ·exact ho j
set_option maxHeartbeats 8000000 in
set_option maxRecDepth 100000 in
theorem made_bad (n : Int) (l0 : List S227) (A0 : Option Addr) (c0 : Nat) (w : World) (hr0 : Kd.C k227 w A0 l0.length l0) (hb : ¬ (0 ≤ n ∧ n ≤ 64 ∧ l0.length ≤ 4096)) :
  Calls Tryz.prog 164 #[.int .i64 n, .slice A0 l0.length c0] w fun e w' => e = .panicked [{ v := strayV, recovered := false }] ∧ Below w.heap.size w w' := by
 have hm := Kd.C_max hr0
 clear hr0
 go_enter Tryz.func164, Tryz.ntmps164
 go_wp2
 all_goals (first | exact ⟨rfl, rfl, Below.refl _ _⟩ | (exfalso; omega))
theorem region_tail_ {P : Program} {id : Nat} {Q : Exit → Act → World → Prop} {a : Act} {w : World} {l : List Oper} (n : Nat) (hm : P.follows .mixedOrders = true) (hB : Region.lexTailB .any l.toArray n = true) (W2 : World) (hW : W2 = w.drew)
  (h : wpStill P l.toArray W2 (fun a' => wpList P l.toArray Q (l.drop n) a' W2) (l.take n) a) : (Code.region id l.toArray true).wp P Q a w := by
 subst hW
 exact wp_region_still_tail n hm hB h
def MadeP (n : Int) (l0 : List S227) (w : World) (e : Ending) (w' : World) : Prop := Below w.heap.size w w' ∧ (if l0.all (arcOk n) then e = .returned (.pointer (some ⟨w.heap.size, 0, none⟩)) ∧ w'.heap[w.heap.size]? = some (.cells (gCells n (onOf l0)) 243 (0, 0)) else e = .panicked [{ v := strayV, recovered := false }])
set_option maxHeartbeats 8000000 in
set_option maxRecDepth 100000 in
theorem made_loop (n : Int) (l0 : List S227) (A0 : Option Addr) (c0 : Nat) (w : World) (hr0 : Kd.C k227 w A0 l0.length l0) (hn0 : 0 ≤ n) (hn1 : n ≤ 64) (hl : l0.length ≤ 4096) :
  Calls Tryz.prog 164 #[.int .i64 n, .slice A0 l0.length c0] w (MadeP n l0 w) := by
 have HR := Aside0.mk hr0
 have HL := Aside0.mk hl
 clear hr0
 go_enter Tryz.func164, Tryz.ntmps164
 go_wp2
 have hz : Tryz.zeroCells243.setIfInBounds 0 (Value.int IntKind.i64 n) = gCells n (fun _ => 0) := rfl
 rw [hz]
 clear hz
 go_loopg [26] l0.length (fun kq v26 w' => ∃ i : Nat, i + kq = l0.length ∧ v26 = .int .i64 i ∧ Aside0 ((l0.take i).all (arcOk n) = true) ∧ Aside0 (w'.heap[w.heap.size]? = some (.cells (gCells n (onOf (l0.take i))) 243 (0, 0))) ∧ Aside0 (Below w.heap.size w w'))
 case atStart => exact ⟨0, by omega, rfl, ⟨rfl⟩, ⟨heap_alloc_new w _⟩, ⟨(Below.refl _ _).alloc (Nat.le_refl _) _⟩⟩
 case round =>
  obtain ⟨i, hi, rfl, HA, HG, HB⟩ := hrel
  cases gk with
  | zero =>
   obtain rfl : i = l0.length := by omega
   have HA2 := Aside0.mk (show l0.all (arcOk n) = true by have := HA.out; rwa [List.take_length] at this)
   have HG2 := Aside0.mk (show wr.heap[w.heap.size]? = some (.cells (gCells n (onOf l0)) 243 (0, 0)) by have := HG.out; rwa [List.take_length] at this)
   go_wp2
   go_ret
   unfold MadeP
   rw [if_pos HA2.out]
   exact ⟨HB.out, rfl, HG2.out⟩
  | succ k =>
   have hlt : i < l0.length := by omega
   obtain ⟨ad, e0, x0, x1⟩ := at_T227 (Kd.C_below HR.out HB.out) (i : Int) (by omega) (by omega)
   rw [Int.toNat_natCast] at x0 x1
   have hrd : rd_T227 l0 (i : Int) = l0[i] := by unfold rd_T227; rw [Int.toNat_natCast, List.getD_eq_getElem?_getD, List.getElem?_eq_getElem hlt]; rfl
   rw [hrd] at x0 x1
   subst e0
   have HO := Aside0.mk (onOf_take l0 i hlt)
   have HT : Aside0 ((l0.take (i + 1)).all (arcOk n) = arcOk n l0[i]) := ⟨by rw [List.take_succ_eq_append_getElem hlt, List.all_append, HA.out]; simp⟩
   have HX : Aside0 (arcOk n l0[i] = false → l0.all (arcOk n) = false) := ⟨fun h => by rw [List.all_eq_false]; exact ⟨_, List.getElem_mem hlt, by rw [h]; simp⟩⟩
   obtain ⟨⟨xf, xt⟩, hx⟩ : ∃ x, l0[i] = x := ⟨_, rfl⟩
   rw [hx] at x0 x1 HO HT HX
   simp only at x0 x1
   have hlt' : (i : Int) < (l0.length : Int) := by omega
   have h0 : (0 : Int) ≤ i := by omega
   have HI2 := Aside0.mk hi
   have HON : Aside0 (∀ j, onOf (l0.take i) j < 2 ^ 64) := ⟨fun j => on_lt (l0.take i) n hn1 (fun a ha => by have := HA.out; rw [List.all_eq_true] at this; exact this a ha) _ (fun _ => by decide) j⟩
   clear hx hrd hi
   by_cases hok : arcOk n ⟨xf, xt⟩ = true
   ·obtain ⟨b1, b2, b3, b4⟩ := arcOk_iff.1 hok
    have HOK := Aside0.mk hok
    simp only at b1 b2 b3 b4
    clear hok
    obtain ⟨tn, rfl⟩ := Int.eq_ofNat_of_zero_le b3
    obtain ⟨fn, rfl⟩ := Int.eq_ofNat_of_zero_le b1
    have ht : tn < 64 := by omega
    have hf : fn < 64 := by omega
    have HT64 := Aside0.mk ht
    have HF64 := Aside0.mk hf
    obtain ⟨W2, hW2⟩ : ∃ W, W = (wr.alloc (.cells #[.int .i64 fn, .int .i64 tn] 227)).drew := ⟨_, rfl⟩
    have hG : W2.heap[w.heap.size]? = some (.cells (gCells n (onOf (l0.take i))) 243 (0, 0)) := by rw [hW2]; exact blk_drew (blk_alloc HG.out _)
    have hA : W2.heap[wr.heap.size]? = some (.cells #[.int .i64 fn, .int .i64 tn] 227 (0, 0)) := by rw [hW2]; exact blk_drew (blk_new wr _)
    have y0 : W2.cell? ⟨wr.heap.size, 0, none⟩ = some (.int .i64 fn) := (blk_cell hA 0).trans rfl
    have y1 : W2.cell? ⟨wr.heap.size, 1, none⟩ = some (.int .i64 tn) := (blk_cell hA 1).trans rfl
    have y2 : W2.cell? ⟨w.heap.size, 1 + tn, none⟩ = some (.int .u64 ((onOf (l0.take i) tn : Nat) : Int)) := by
     refine (blk_cell hG (1 + tn)).trans ?_
     rw [Nat.add_comm]; exact gCells_at n _ tn ht
    have y3 : W2.frozen? ⟨w.heap.size, 1 + tn, none⟩ = false := blk_frozen hG _
    have HW2 := Aside0.mk hW2
    have HG2 := Aside0.mk hG
    have htn : (tn : Int) < 64 := by omega
    have hor : bits .or .u64 ((onOf (l0.take i) tn : Nat) : Int) ((2 : Int) ^ fn) = ((onOf (l0.take i) tn ||| 2 ^ fn : Nat) : Int) := by
     have := u64_or_nat _ _ (HON.out tn) (Nat.pow_lt_pow_right (by omega : 1 < 2) hf)
     rwa [Int.natCast_pow] at this
    have HOR := Aside0.mk hor
    clear hG hA hW2 hor
    go_wp2_with (fail)
    refine region_tail_ 14 (by kernel_rfl) (by kernel_rfl) W2 HW2.out ?_
    simp only [List.take_succ_cons, List.take_zero, List.drop_succ_cons, List.drop_zero]
    iterate 9 still_step
    still_call (one_lit fn HF64.out _)
    iterate 4 still_step
    refine wpStill_nil ?_
    go_wp2
    go_roundg k
    case measure => omega
    case rel =>
     have HS : (W2.setCell ⟨w.heap.size, 1 + tn, none⟩ (.int .u64 ((onOf (l0.take i) tn ||| 2 ^ fn : Nat) : Int))).heap[w.heap.size]? = some (.cells (gCells n (onStep (onOf (l0.take i)) ⟨fn, tn⟩)) 243 (0, 0)) := blk_put HG2.out (1 + tn) _ (by rw [Nat.add_comm]; exact gCells_set n (onOf (l0.take i)) ⟨fn, tn⟩ HT64.out)
     rw [HOR.out]
     refine ⟨i + 1, by have := HI2.out; omega, by go_num, ⟨by rw [HT.out, HOK.out]⟩, ⟨by rw [HO.out]; exact HS⟩, ⟨?_⟩⟩
     refine Below.setCell (p := ⟨w.heap.size, 1 + tn, none⟩) ?_ (Nat.le_refl _) _
     rw [HW2.out]
     exact below_drew (HB.out.alloc HB.out.size _)
   ·have HOK := Aside0.mk hok
    have hno : ¬ (0 ≤ xf ∧ xf < n ∧ 0 ≤ xt ∧ xt < n) := fun h => hok (arcOk_iff.2 h)
    have HF := Aside0.mk (HX.out (by simpa using hok))
    clear hok
    go_wp2
    all_goals (refine ⟨rfl, ?_⟩; unfold MadeP; rw [if_neg (by rw [HF.out]; simp)]; exact ⟨HB.out.alloc HB.out.size _, rfl⟩)
end Go.Proofs.YtloijngccppfgaaGreat.F
end

section
namespace Go.Proofs.YtloijngccppfgaaGreat.F
open Go.RowKit Go.Proofs.YtloijngccppfgaaGreatW.PrintWords Go.Proofs.YtloijngccppfgaaGreatW.PrintLast Go.Proofs.YtloijngccppfgaaGreatW.PrintMore
attribute [local go_sem] max2_int min2_int max_two min_two max_three min_three max_four min_four
set_option linter.unusedVariables false
set_option linter.unusedSimpArgs false
def hasText (l : List ByteArray) (s : ByteArray) : Bool := l.any fun t => s.toList == t.toList
def arcsN (b : List S112) (i : Int) : List ByteArray → List ByteArray → List S227 → Option (List S227)
 | _, [], out => some out
 | bef, s :: r, out => if (decide (0 ≤ namedI b s) && namedI b s != i) && !hasText bef s then arcsN b i (bef ++ [s]) r (out ++ [⟨namedI b s, i⟩]) else none
def arcsL (b : List S112) : Int → List S112 → List S227 → Option (List S227)
 | _, [], out => some out
 | i, x :: l, out => match arcsN b i [] x.f2 out with
  | none => none
  | some o => arcsL b (i + 1) l o
def ArcsP (o : Option (List S227)) (w : World) (e : Ending) (w' : World) : Prop := Below w.heap.size w w' ∧ (match o with | some l => ∃ v, e = .returned v ∧ Kd.R k227 227 w' w.heap.size (fun _ => True) v l | none => ∃ why, e = .panicked [{ v := faultV why, recovered := false }])
theorem index_of (l : List ByteArray) (s : ByteArray) (hl : l.length ≤ 9223372036854775807) (d : Nat) : ∀ (k i : Nat), i + d = l.length → d < k → slices_Index_string_string.l0 k l s (l.length : Int) i = some (idxF (fun t => s.toList == t.toList) (l.drop i) i) := by
 induction d with
 | zero =>
  intro k i hi hk
  obtain ⟨k, rfl⟩ : ∃ m, k = m + 1 := ⟨k - 1, by omega⟩
  simp only [slices_Index_string_string.l0]
  rw [if_neg (by omega), List.drop_eq_nil_of_le (by omega)]
  rfl
 | succ d ih =>
  intro k i hi hk
  obtain ⟨k, rfl⟩ : ∃ m, k = m + 1 := ⟨k - 1, by omega⟩
  simp only [slices_Index_string_string.l0]
  have hlt : i < l.length := by omega
  rw [if_pos (by omega), if_pos (by omega), if_pos (by omega), idxF_drop _ _ _ hlt]
  have hrd : rdOf ByteArray.empty l (i : Int) = l[i] := by unfold rdOf; rw [Int.toNat_natCast, List.getD_eq_getElem?_getD, List.getElem?_eq_getElem hlt]; rfl
  rw [hrd]
  by_cases h : s.toList = l[i].toList
  ·rw [if_pos h]; simp [h]
  ·rw [if_neg h, show wrap64 ((i : Int) + 1) = ((i + 1 : Nat) : Int) by unfold wrap64; omega, ih k (i + 1) (by omega) (by omega)]
   simp [h]
theorem contains_of (l : List ByteArray) (s : ByteArray) (hl : l.length ≤ 9223372036854775807) : slices_Contains_string_string.f (l.length + 1) l s = some (hasText l s) := by
 unfold slices_Contains_string_string.f slices_Index_string_string.f
 rw [show (0 : Int) = ((0 : Nat) : Int) from rfl, index_of l s hl l.length (l.length + 1) 0 (by omega) (by omega)]
 simp only [Option.bind_some, List.drop_zero]
 rw [show ((0 : Nat) : Int) = 0 from rfl, idxF_any _ _ _ (by omega)]
 rfl
theorem nodup_len {α : Type} [DecidableEq α] : ∀ (l m : List α), l.Nodup → (∀ x ∈ l, x ∈ m) → l.length ≤ m.length
 | [], m, _, _ => Nat.zero_le _
 | x :: l, m, h, hs => by
  obtain ⟨h1, h2⟩ := List.nodup_cons.1 h
  have hx := hs x List.mem_cons_self
  have ih := nodup_len l (m.erase x) h2 (fun y hy => (List.mem_erase_of_ne (fun e => h1 (by rw [← e]; exact hy))).2 (hs y (List.mem_cons_of_mem _ hy)))
  rw [List.length_erase_of_mem hx] at ih
  have := List.length_pos_of_mem hx
  simp only [List.length_cons]
  omega
def goodPre (b : List S112) (l : List ByteArray) : Prop := (l.map (·.toList)).Nodup ∧ ∀ s ∈ l, 0 ≤ namedI b s
theorem idxF_mem {α : Type} (p : α → Bool) : ∀ (l : List α) (i : Int), 0 ≤ i → 0 ≤ idxF p l i → ∃ x ∈ l, p x = true
 | [], i, _, h => by simp [idxF] at h
 | x :: l, i, hi, h => by
  unfold idxF at h
  cases hx : p x with
  | true => exact ⟨x, List.mem_cons_self, hx⟩
  | false =>
   rw [hx] at h
   obtain ⟨y, hy, hp⟩ := idxF_mem p l (i + 1) (by omega) h
   exact ⟨y, List.mem_cons_of_mem _ hy, hp⟩
theorem goodPre_len {b : List S112} {l : List ByteArray} (h : goodPre b l) : l.length ≤ b.length := by
 have h1 := nodup_len (l.map (·.toList)) (b.map (·.f0.toList)) h.1 (fun x hx => by
  obtain ⟨s, hs, rfl⟩ := List.mem_map.1 hx
  obtain ⟨y, hy, hp⟩ := idxF_mem _ b 0 (by omega) (h.2 s hs)
  refine List.mem_map.2 ⟨y, hy, ?_⟩
  simpa [isName] using hp)
 simpa using h1
theorem goodPre_snoc {b : List S112} {l : List ByteArray} {s : ByteArray} (h : goodPre b l) (hs : 0 ≤ namedI b s) (hn : hasText l s = false) : goodPre b (l ++ [s]) := by
 refine ⟨?_, fun t ht => ?_⟩
 ·rw [List.map_append, List.nodup_append]
  refine ⟨h.1, by simp, fun x hx y hy => ?_⟩
  simp only [List.map_cons, List.map_nil, List.mem_singleton] at hy
  subst hy
  obtain ⟨t, ht, rfl⟩ := List.mem_map.1 hx
  intro e
  unfold hasText at hn
  rw [List.any_eq_false] at hn
  exact hn t ht (by simp [e])
 ·rcases List.mem_append.1 ht with ht | ht
  ·exact h.2 t ht
  ·rw [List.mem_singleton.1 ht]; exact hs
set_option maxHeartbeats 8000000 in
set_option maxRecDepth 100000 in
theorem arcs_walk (A0 : Option Addr) (c0 : Nat) (b : List S112) (w : World) (hr0 : Kd.C k112 w A0 b.length b) (hc0 : b.length ≤ c0) (hb16 : b.length ≤ 16) :
  Calls Tryz.prog 133 #[.agg #[.slice A0 b.length c0]] w (ArcsP (arcsL b 0 b []) w) := by
 have HR := Aside0.mk hr0
 have HM := Aside0.mk (Kd.C_max hr0)
 have H16 := Aside0.mk hb16
 have HG := Aside0.mk (blk_new w (.cells #[.slice A0 b.length c0] 110 (0, 0)))
 have HB0 := Aside0.mk ((Below.refl w.heap.size w).alloc (Nat.le_refl _) (.cells #[.slice A0 b.length c0] 110 (0, 0)))
 clear hr0 hc0 hb16
 go_enter Tryz.func133, Tryz.ntmps133
 go_wp2
 go_loopg [3, 12] b.length (fun kq v3 v12 w' => ∃ (i : Nat) (out : List S227), i + kq = b.length ∧ v12 = .int .i64 i ∧ (∃ A c, v3 = .slice A out.length c) ∧ Aside0 (out.length ≤ 16 * i) ∧ Aside0 (arcsL b 0 b [] = arcsL b i (b.drop i) out) ∧ Aside0 (Kd.R k227 227 w' w.heap.size (fun k => k ≠ w.heap.size) v3 out) ∧ Aside0 (w'.heap[w.heap.size]? = some (.cells #[.slice A0 b.length c0] 110 (0, 0))) ∧ Aside0 (Below w.heap.size w w'))
 case atStart => exact ⟨0, [], by omega, rfl, ⟨none, 0, rfl⟩, ⟨by simp⟩, ⟨rfl⟩, ⟨Kd.R_nil _ _ _ _ _⟩, HG, HB0⟩
 case round =>
  obtain ⟨wo, hwo⟩ : ∃ x, x = wr := ⟨_, rfl⟩
  subst hwo
  obtain ⟨i, out, hi, rfl, ⟨A3, c3, rfl⟩, HLI, HI, HO, HG, HB⟩ := hrel
  have hm := HM.out
  cases gk with
  | zero =>
   obtain rfl : i = b.length := by omega
   have HE : Aside0 (arcsL b 0 b [] = some out) := ⟨by rw [HI.out, List.drop_eq_nil_of_le (Nat.le_refl _)]; rfl⟩
   go_wp2
   go_ret
   refine ⟨HB.out, ?_⟩
   rw [HE.out]
   exact ⟨_, rfl, Kd.R_mono HO.out (fun _ _ => trivial)⟩
  | succ k =>
   have hlt : i < b.length := by omega
   obtain ⟨ad, A2, c2, A5, c5, e0, x0, x1, x2, x3, x4, x5, l2, g2, l5, g5⟩ := at_T112 HR.out (i : Int) (by omega) (by omega)
   rw [Int.toNat_natCast] at x0 x1 x2 x3 x4 x5
   replace x0 := (HB.out.cell (World.block_lt_of_cell? w _ x0)).trans x0
   replace x1 := (HB.out.cell (World.block_lt_of_cell? w _ x1)).trans x1
   replace x2 := (HB.out.cell (World.block_lt_of_cell? w _ x2)).trans x2
   replace x3 := (HB.out.cell (World.block_lt_of_cell? w _ x3)).trans x3
   replace x4 := (HB.out.cell (World.block_lt_of_cell? w _ x4)).trans x4
   replace x5 := (HB.out.cell (World.block_lt_of_cell? w _ x5)).trans x5
   have hrd : rd_T112 b (i : Int) = b[i] := by unfold rd_T112; rw [Int.toNat_natCast, List.getD_eq_getElem?_getD, List.getElem?_eq_getElem hlt]; rfl
   rw [hrd] at x0 x1 x2 x3 x4 x5 l2 g2 l5 g5
   subst e0
   have HD : Aside0 (arcsL b i (b.drop i) out = match arcsN b i [] b[i].f2 out with | none => none | some o => arcsL b (i + 1) (b.drop (i + 1)) o) := ⟨by rw [List.drop_eq_getElem_cons hlt]; rfl⟩
   obtain ⟨⟨nm, un, af, sb, vi, al⟩, hx⟩ : ∃ x, b[i] = x := ⟨_, rfl⟩
   rw [hx] at x0 x1 x2 x3 x4 x5 l2 g2 l5 g5 HD
   simp only at x0 x1 x2 x3 x4 x5 l2 g2
   have hlt' : (i : Int) < (b.length : Int) := by omega
   have h0 : (0 : Int) ≤ i := by omega
   have HI2 := Aside0.mk hi
   have HL2 := Aside0.mk l2
   have HAF := Aside0.mk g2
   have HAM := Aside0.mk (Kd.C_max g2)
   clear hx hrd hi l5 g5 g2 l2
   have HN := Aside0.mk (blk_new wo (.cells #[.string nm, .string un, .slice A2 af.length c2, .bool sb, .bool vi, .slice A5 al.length c5] 112 (0, 0)))
   have HO1 := Aside0.mk (Kd.R_alloc (Kd.R_mono (Kd.R_bound HO.out) (fun k hk => (⟨hk.1, by have := hk.2.2.1; omega⟩ : k ≠ w.heap.size ∧ k ≠ wo.heap.size))) (.cells #[.string nm, .string un, .slice A2 af.length c2, .bool sb, .bool vi, .slice A5 al.length c5] 112 (0, 0)))
   have HG1 := Aside0.mk (blk_alloc HG.out (.cells #[.string nm, .string un, .slice A2 af.length c2, .bool sb, .bool vi, .slice A5 al.length c5] 112 (0, 0)))
   have HB1 := Aside0.mk (HB.out.alloc HB.out.size (.cells #[.string nm, .string un, .slice A2 af.length c2, .bool sb, .bool vi, .slice A5 al.length c5] 112 (0, 0)))
   have HSZ := Aside0.mk (Nat.lt_of_lt_of_le (blk_lt HG.out) (Nat.le_refl _))
   go_wp2
   clear x0 x1 x2 x3 x4 x5
   obtain ⟨WS, HWS⟩ : ∃ n, Aside0 (wo.heap.size = n) := ⟨_, ⟨rfl⟩⟩
   rw [HWS.out] at HN HO1
   have HAF0 : Aside0 (∀ W, Below w.heap.size w W → Kd.string.C W A2 af.length af) := ⟨fun W h => Kd.C_below HAF.out h⟩
   have HWW : Aside0 (w.heap.size < WS) := ⟨by rw [← HWS.out]; exact HSZ.out⟩
   go_loopg [3, 20] af.length (fun kq v3 v20 w' => ∃ (j : Nat) (o2 : List S227), j + kq = af.length ∧ v20 = .int .i64 j ∧ (∃ A c, v3 = .slice A o2.length c) ∧ Aside0 (o2.length = out.length + j) ∧ Aside0 (goodPre b (af.take j)) ∧ Aside0 (arcsN b i [] af out = arcsN b i (af.take j) (af.drop j) o2) ∧ Aside0 (Kd.R k227 227 w' w.heap.size (fun k => k ≠ w.heap.size ∧ k ≠ WS) v3 o2) ∧ Aside0 (w'.heap[w.heap.size]? = some (.cells #[.slice (some ad) b.length c0] 110 (0, 0))) ∧ Aside0 (w'.heap[WS]? = some (.cells #[.string nm, .string un, .slice A2 af.length c2, .bool sb, .bool vi, .slice A5 al.length c5] 112 (0, 0))) ∧ Aside0 (Below w.heap.size w w') ∧ Aside0 (WS < w'.heap.size))
   case atStart => exact ⟨0, out, by omega, rfl, ⟨_, _, rfl⟩, ⟨rfl⟩, ⟨⟨by simp, fun s hs => by simp at hs⟩⟩, ⟨rfl⟩, HO1, HG1, HN, HB1, ⟨by have := HWS.out; simp; omega⟩⟩
   case round =>
    obtain ⟨j, o2, hj, rfl, ⟨A4, c4, rfl⟩, HLJ, HGP, HJ, HO2, HG2, HN2, HB2, HSS⟩ := hrel
    have hm2 := HAM.out
    cases gk with
    | zero =>
     obtain rfl : j = af.length := by omega
     have HE : Aside0 (arcsN b i [] af out = some o2) := ⟨by rw [HJ.out, List.drop_eq_nil_of_le (Nat.le_refl _)]; rfl⟩
     go_wp2
     go_roundg k
     case measure => omega
     case rel => exact ⟨i + 1, o2, by have := HI2.out; omega, by go_num, ⟨_, _, rfl⟩, ⟨by have h1 := HLI.out; have h2 := HLJ.out; have h3 := goodPre_len HGP.out; have h4 := H16.out; rw [List.take_length] at h3; omega⟩, ⟨by rw [HI.out, HD.out, HE.out]; rfl⟩, ⟨Kd.R_mono HO2.out (fun _ hk => hk.1)⟩, HG2, HB2⟩
    | succ k2 =>
     have hlt2 : j < af.length := by omega
     obtain ⟨ad2, e2, y0⟩ := Kd.at_string (HAF0.out _ HB2.out) (j : Int) (by omega) (by omega)
     rw [Int.toNat_natCast] at y0
     have hrd2 : rdOf ByteArray.empty af (j : Int) = af[j] := by unfold rdOf; rw [Int.toNat_natCast, List.getD_eq_getElem?_getD, List.getElem?_eq_getElem hlt2]; rfl
     rw [hrd2] at y0
     subst e2
     have HS : Aside0 (arcsN b i (af.take j) (af.drop j) o2 = if (decide (0 ≤ namedI b af[j]) && namedI b af[j] != i) && !hasText (af.take j) af[j] then arcsN b i (af.take (j + 1)) (af.drop (j + 1)) (o2 ++ [⟨namedI b af[j], i⟩]) else none) := ⟨by rw [List.drop_eq_getElem_cons hlt2, List.take_succ_eq_append_getElem hlt2]; rfl⟩
     obtain ⟨s, hs⟩ : ∃ s, af[j] = s := ⟨_, rfl⟩
     rw [hs] at y0 HS
     have hlt2' : (j : Int) < (af.length : Int) := by omega
     have h02 : (0 : Int) ≤ j := by omega
     have hjc : (j : Int) ≤ (c2 : Int) := by have := HL2.out; omega
     have HJ2 := Aside0.mk hj
     have HGP2 : Aside0 (0 ≤ namedI b s → hasText (af.take j) s = false → goodPre b (af.take (j + 1))) := ⟨fun h1 h2 => by rw [List.take_succ_eq_append_getElem hlt2, hs]; exact goodPre_snoc HGP.out h1 h2⟩
     have HLB : Aside0 (o2.length ≤ 4096) := ⟨by have h1 := HLI.out; have h2 := HLJ.out; have h3 := goodPre_len HGP.out; have h4 := H16.out; rw [List.length_take] at h3; omega⟩
     have HCT : Aside0 (∀ W, Kd.string.C W (some ad2) af.length af → Calls Tryz.prog 150 #[.slice (some ad2) j c2, .string s] W fun e w' => e = .returned (.bool (hasText (af.take j) s)) ∧ Drawn0 W w') := ⟨fun W hW => by
      have hl : (af.take j).length = j := by rw [List.length_take]; omega
      have h1 := Kd.C_take hW (show j ≤ af.length by omega)
      have h2 := slices_Contains_string_string.calls ((af.take j).length + 1) (some ad2) c2 (af.take j) s _ W h1 (by rw [hl]; have := HL2.out; omega) (contains_of (af.take j) s (by rw [hl]; omega))
      rw [hl] at h2
      exact h2⟩
     have c0w := (blk_cell HG2.out 0).trans rfl
     have HRB := Aside0.mk (Kd.C_below HR.out HB2.out)
     clear hs hrd2 hj
     have HNM := Aside0.mk (fun (W : World) (h : Kd.C k112 W (some ad) b.length b) => named_walk (some ad) c0 b s W h)
     generalize namedI b s = q at HNM HS HGP2
     by_cases hq0 : 0 ≤ q
     ·by_cases hqi : q = (i : Int)
      ·have hb1 : decide (0 ≤ q) = true := decide_eq_true hq0
       have hb2 : (q != (i : Int)) = false := by simpa using hqi
       have HE : Aside0 (arcsN b i [] af out = none) := ⟨by rw [HJ.out, HS.out, hb1, hb2]; rfl⟩
       clear hqi
       go_wp2_with (first
        | (go_at_call 82; refine (HNM.out _ HRB.out).mono ?_; rintro e w2 ⟨rfl, hb⟩; have HB3 := Aside0.mk (HB2.out.trans (hb.mono HB2.out.size)); clear hb)
        | (go_at_call 108; (with_reducible refine (must_no _ _).mono ?_); rintro e w2 ⟨rfl, rfl⟩))
       refine ⟨rfl, HB3.out, ?_⟩
       rw [HI.out, HD.out, HE.out]
       exact ⟨_, rfl⟩
      ·have hb1 : decide (0 ≤ q) = true := decide_eq_true hq0
       have hb2 : (q != (i : Int)) = true := by simpa using hqi
       clear hqi
       obtain ⟨x, hx⟩ : ∃ x, hasText (af.take j) s = x := ⟨_, rfl⟩
       have HX := Aside0.mk hx
       clear hx
       cases x
       ·have HE : Aside0 (arcsN b i [] af out = arcsN b i (af.take (j + 1)) (af.drop (j + 1)) (o2 ++ [⟨q, i⟩])) := ⟨by rw [HJ.out, HS.out, hb1, hb2, HX.out]; rfl⟩
        go_wp2_with (first
         | (go_at_call 82; (with_reducible refine (HNM.out _ HRB.out).mono ?_); rintro e w2 ⟨rfl, hb⟩; have HB3 := Aside0.mk (HB2.out.trans (hb.mono HB2.out.size)); have HG3 := Aside0.mk (blk_below HG2.out hb); have HN3 := Aside0.mk (blk_below HN2.out hb); have HO3 := Aside0.mk (Kd.R_below HO2.out hb); have HS5 := Aside0.mk (Nat.lt_trans HWW.out (Nat.lt_of_lt_of_le HSS.out hb.size)); have HS6 := Aside0.mk (Nat.lt_of_lt_of_le HSS.out hb.size); have n2 : w2.cell? ⟨wo.heap.size, 2, none⟩ = some (.slice (some ad2) af.length c2) := (congrArg (fun n => w2.cell? ⟨n, 2, none⟩) HWS.out).trans ((blk_cell HN3.out 2).trans rfl); clear hb)
         | (go_at_call 150; refine (HCT.out _ (HAF0.out _ HB3.out)).mono ?_; rw [HX.out]; rintro e w2 ⟨rfl, ⟨nq, rfl⟩⟩)
         | (go_at_call 108; (with_reducible refine (must_yes _ _).mono ?_); rintro e w2 ⟨rfl, rfl⟩)
         | (((with_reducible refine gate_builtin (b := .append) (xs := #[.tmp 44, .tmp 48]) rfl ?_); (try (refine gate_guard (by rfl) ?_; dsimp only)); at_builtin; go_loud (refine Kd.R_append k227 (w0 := w) w.heap.size rfl (.tmp 44) (.tmp 48) 203 227 (.agg #[.int .i64 0, .int .i64 0]) 16 rfl Tryz.underlying203 info227 rfl (by decide) (by omega) (.slice A4 o2.length c4) o2 ⟨q, i⟩ [.int .i64 q, .int .i64 i] (fun k => k ≠ w.heap.size ∧ k ≠ WS) (fun _ => False) rfl (by simp [Act.eval]) ?aP (fun _ hk => hk.elim) ?aF ?aO ?aB ?aS ?aL ?_; (case aP => exact k227_mkM _ _ _ ⟨q, i⟩); (case aF => exact (fun k hk => ⟨by have := HS5.out; have hk2 : w2.heap.size ≤ k := hk; omega, by have := HS6.out; have hk2 : w2.heap.size ≤ k := hk; omega⟩)); (case aO => exact (by (with_reducible repeat (first | apply Kd.R_alloc | apply Kd.R_drewN | apply Kd.R_drew)); exact HO3.out)); (case aB => exact pw_below_drewN HB3.out _); (case aS => exact Nat.le_trans HB3.out.size (by simp)); (case aL => have := HLB.out; omega); intro v4 w4 ho hb hg hat; have HO4 := Aside0.mk ho; have HB4 := Aside0.mk hb; have HG4 := Aside0.mk hg; have HV4 := Aside0.mk (Kd.R_slice ho); clear ho hb hg hat))))
        go_roundg k2
        case measure => omega
        case rel =>
         obtain ⟨A9, c9, rfl⟩ := HV4.out
         have hne1 := Kd.R_away HO3.out (g := w.heap.size) (fun k hk => hk.1)
         have hne2 := Kd.R_away HO3.out (g := WS) (fun k hk => hk.2)
         refine ⟨j + 1, o2 ++ [⟨q, i⟩], by have := HJ2.out; omega, by go_num, ⟨A9, c9, rfl⟩, ⟨by have := HLJ.out; simp; omega⟩, ⟨HGP2.out hq0 HX.out⟩, HE, HO4, ⟨blk_grown (blk_drewN HG3.out _) HG4.out hne1⟩, ⟨blk_grown (blk_drewN HN3.out _) HG4.out hne2⟩, HB4, ⟨Nat.lt_of_lt_of_le HS6.out HG4.out.size⟩⟩
       ·have HE : Aside0 (arcsN b i [] af out = none) := ⟨by rw [HJ.out, HS.out, hb1, hb2, HX.out]; rfl⟩
        go_wp2_with (first
         | (go_at_call 82; refine (HNM.out _ HRB.out).mono ?_; rintro e w2 ⟨rfl, hb⟩; have HB3 := Aside0.mk (HB2.out.trans (hb.mono HB2.out.size)); have n2 : w2.cell? ⟨wo.heap.size, 2, none⟩ = some (.slice (some ad2) af.length c2) := (congrArg (fun n => w2.cell? ⟨n, 2, none⟩) HWS.out).trans ((blk_cell (blk_below HN2.out hb) 2).trans rfl); clear hb)
         | (go_at_call 150; refine (HCT.out _ (HAF0.out _ HB3.out)).mono ?_; rw [HX.out]; rintro e w2 ⟨rfl, ⟨nq, rfl⟩⟩)
         | (go_at_call 108; (with_reducible refine (must_yes _ _).mono ?_); rintro e w2 ⟨rfl, rfl⟩)
         | (go_at_call 108; (with_reducible refine (must_no _ _).mono ?_); rintro e w2 ⟨rfl, rfl⟩))
        refine ⟨rfl, pw_below_drewN HB3.out _, ?_⟩
        rw [HI.out, HD.out, HE.out]
        exact ⟨_, rfl⟩
     ·have hb1 : decide (0 ≤ q) = false := decide_eq_false hq0
      have HE : Aside0 (arcsN b i [] af out = none) := ⟨by rw [HJ.out, HS.out, hb1]; rfl⟩
      clear hq0
      go_wp2_with (first
       | (go_at_call 82; refine (HNM.out _ HRB.out).mono ?_; rintro e w2 ⟨rfl, hb⟩; have HB3 := Aside0.mk (HB2.out.trans (hb.mono HB2.out.size)); clear hb)
       | (go_at_call 108; (with_reducible refine (must_no _ _).mono ?_); rintro e w2 ⟨rfl, rfl⟩))
      refine ⟨rfl, HB3.out, ?_⟩
      rw [HI.out, HD.out, HE.out]
      exact ⟨_, rfl⟩
end Go.Proofs.YtloijngccppfgaaGreat.F
end

section
namespace Go.Proofs.YtloijngccppfgaaGreat.F
open Go.RowKit Go.Proofs.YtloijngccppfgaaGreatW.PrintWords Go.Proofs.YtloijngccppfgaaGreatW.PrintLast Go.Proofs.YtloijngccppfgaaGreatW.PrintMore
attribute [local go_sem] max2_int min2_int max_two min_two max_three min_three max_four min_four
set_option linter.unusedVariables false
set_option linter.unusedSimpArgs false
def freeB (on : Nat → Nat) (done i : Nat) : Bool := (done &&& 2 ^ i == 0) && (on i &&& (18446744073709551615 - done) == 0)
def nextF (on : Nat → Nat) (done : Nat) : Nat → Nat → Option Nat
 | 0, _ => none
 | f + 1, i => if freeB on done i then some i else nextF on done f (i + 1)
def orderF (on : Nat → Nat) (n : Nat) : Nat → Nat → List Int → Option (List Int)
 | 0, _, out => some out
 | f + 1, done, out => match nextF on done n 0 with
  | none => none
  | some i => orderF on n f (done ||| 2 ^ i) (out ++ [(i : Int)])
def circleV : Value := .iface 232 (.agg #[])
def NextP (o : Option Nat) (w : World) (e : Ending) (w' : World) : Prop := w' = w ∧ (match o with | some i => e = .returned (.int .i64 (i : Int)) | none => e = .panicked [{ v := circleV, recovered := false }])
theorem nextF_lt (on : Nat → Nat) (done : Nat) : ∀ (f i j : Nat), nextF on done f i = some j → j < i + f
 | 0, i, j, h => by cases h
 | f + 1, i, j, h => by
  unfold nextF at h
  split at h
  ·cases h; omega
  ·have := nextF_lt on done f (i + 1) j h; omega
set_option maxHeartbeats 8000000 in
set_option maxRecDepth 100000 in
theorem next_walk (n : Nat) (hn : n ≤ 64) (on : Nat → Nat) (hon : ∀ i, on i < 2 ^ 64) (done : Nat) (hd : done < 2 ^ 64) (g : Nat) (w : World) (hg : w.heap[g]? = some (.cells (gCells n on) 243 (0, 0))) :
  Calls Tryz.prog 173 #[.pointer (some ⟨g, 0, none⟩), .int .u64 done] w (NextP (nextF on done n 0) w) := by
 have c0 : w.cell? ⟨g, 0, none⟩ = some (.int .i64 n) := (blk_cell hg 0).trans (gCells_zero n on)
 have HG := Aside0.mk hg
 have HON := Aside0.mk hon
 have HD := Aside0.mk hd
 have HN := Aside0.mk hn
 clear hg hon hd hn
 go_enter Tryz.func173, Tryz.ntmps173
 go_wp2
 clear c0
 go_loopg [10] n (fun kq v10 w' => ∃ i : Nat, i + kq = n ∧ v10 = .int .i64 i ∧ Aside0 (nextF on done n 0 = nextF on done kq i) ∧ w = w')
 case atStart => exact ⟨0, by omega, rfl, ⟨rfl⟩, rfl⟩
 case round =>
  obtain ⟨i, hi, rfl, HI, rfl⟩ := hrel
  cases gk with
  | zero =>
   obtain rfl : i = n := by omega
   have HE : Aside0 (nextF on done i 0 = none) := ⟨by rw [HI.out]; rfl⟩
   go_wp2
   refine ⟨rfl, ?_⟩
   unfold NextP
   rw [HE.out]
   exact ⟨rfl, rfl⟩
  | succ k =>
   have hlt : (i : Int) < (n : Int) := by omega
   have h0 : (0 : Int) ≤ (i : Int) := by omega
   have hi64 : i < 64 := by have := HN.out; omega
   have hpw : (2 : Nat) ^ i < 2 ^ 64 := Nat.pow_lt_pow_right (by omega) hi64
   have HA : bits .and .u64 (done : Int) ((2 : Int) ^ i) = ((done &&& 2 ^ i : Nat) : Int) := by
    have := u64_and_nat done (2 ^ i) HD.out hpw
    rwa [Int.natCast_pow] at this
   have HB : bits .andNot .u64 ((on i : Nat) : Int) (done : Int) = ((on i &&& (18446744073709551615 - done) : Nat) : Int) := u64_andNot_nat _ _ (HON.out i) HD.out
   have y1 : w.cell? ⟨g, 1 + i, none⟩ = some (.int .u64 ((on i : Nat) : Int)) := by
    refine (blk_cell HG.out (1 + i)).trans ?_
    rw [Nat.add_comm]; exact gCells_at n _ i hi64
   have HI2 := Aside0.mk hi
   have H64 := Aside0.mk hi64
   have htn : (i : Int) < 64 := by omega
   have HS : Aside0 (nextF on done (k + 1) i = if freeB on done i then some i else nextF on done k (i + 1)) := ⟨rfl⟩
   have HV : Aside0 (freeB on done i = ((done &&& 2 ^ i == 0) && (on i &&& (18446744073709551615 - done) == 0))) := ⟨rfl⟩
   clear hi hi64 hpw
   generalize (done &&& 2 ^ i) = x at HA HV
   generalize (on i &&& (18446744073709551615 - done)) = y at HB HV
   go_wp2_with (go_at_call 172; refine (one_lit i H64.out _).mono ?_; rintro e w2 ⟨rfl, rfl⟩)
   ·have hy : y = 0 := by have := (by assumption : ((y : Int) == 0) = true); simpa using this
    have hv : freeB on done i = true := by rw [HV.out]; simp [*]
    go_ret
    unfold NextP
    rw [HI.out, HS.out, hv]
    exact ⟨rfl, rfl⟩
   ·have hy : ¬ y = 0 := by have := (by assumption : ((y : Int) == 0) = false); simpa using this
    have hv : freeB on done i = false := by rw [HV.out]; simp [*]
    go_roundg k
    case measure => omega
    case rel => exact ⟨i + 1, by have := HI2.out; omega, by go_num, ⟨by rw [HI.out, HS.out, hv]; rfl⟩, rfl⟩
   ·have hv : freeB on done i = false := by rw [HV.out]; simp [*]
    go_roundg k
    case measure => omega
    case rel => exact ⟨i + 1, by have := HI2.out; omega, by go_num, ⟨by rw [HI.out, HS.out, hv]; rfl⟩, rfl⟩
theorem or_lt (done i : Nat) (hd : done < 2 ^ 64) (hi : i < 64) : done ||| 2 ^ i < 2 ^ 64 := Nat.or_lt_two_pow hd (Nat.pow_lt_pow_right (by omega) hi)
def OrderP (o : Option (List Int)) (w : World) (e : Ending) (w' : World) : Prop := Below w.heap.size w w' ∧ (match o with | some l => ∃ v, e = .returned v ∧ Kd.R (Kd.int .i64) 3 w' w.heap.size (fun _ => True) v l | none => e = .panicked [{ v := circleV, recovered := false }])
set_option maxHeartbeats 8000000 in
set_option maxRecDepth 100000 in
theorem order_walk (n : Nat) (hn : n ≤ 64) (on : Nat → Nat) (hon : ∀ i, on i < 2 ^ 64) (g : Nat) (w : World) (hg : w.heap[g]? = some (.cells (gCells n on) 243 (0, 0))) :
  Calls Tryz.prog 165 #[.pointer (some ⟨g, 0, none⟩)] w (OrderP (orderF on n n 0 []) w) := by
 have HG := Aside0.mk hg
 have HON := Aside0.mk hon
 have HN := Aside0.mk hn
 clear hg hon hn
 go_enter Tryz.func165, Tryz.ntmps165
 go_wp2
 go_loopg [3, 4] n (fun kq v3 v4 w' => ∃ (done : Nat) (out : List Int), v3 = .int .u64 (done : Int) ∧ (∃ A c, v4 = .slice A out.length c) ∧ Aside0 (out.length + kq = n) ∧ Aside0 (done < 2 ^ 64) ∧ Aside0 (orderF on n n 0 [] = orderF on n kq done out) ∧ Aside0 (Kd.R (Kd.int .i64) 3 w' w.heap.size (fun _ => True) v4 out) ∧ Aside0 (Below w.heap.size w w'))
 case atStart => exact ⟨0, [], rfl, ⟨none, 0, rfl⟩, ⟨by simp⟩, ⟨by decide⟩, ⟨rfl⟩, ⟨Kd.R_nil _ _ _ _ _⟩, ⟨Below.refl _ _⟩⟩
 case round =>
  obtain ⟨done, out, rfl, ⟨A, c, rfl⟩, HL, HD, HI, HO, HB⟩ := hrel
  have HG2 := Aside0.mk (blk_below HG.out HB.out)
  have c0 : wr.cell? ⟨g, 0, none⟩ = some (.int .i64 n) := (blk_cell HG2.out 0).trans (gCells_zero n on)
  have hl := HL.out
  have hn := HN.out
  cases gk with
  | zero =>
   have hlt : ¬ ((out.length : Int) < (n : Int)) := by omega
   clear hl hn
   go_wp2
   go_ret
   unfold OrderP
   rw [HI.out]
   exact ⟨HB.out, _, rfl, HO.out⟩
  | succ k =>
   have hlt : (out.length : Int) < (n : Int) := by omega
   have hol : out.length < 64 := by omega
   have HOL := Aside0.mk hol
   clear hl hn hol
   have HS : Aside0 (orderF on n (k + 1) done out = match nextF on done n 0 with | none => none | some i => orderF on n k (done ||| 2 ^ i) (out ++ [(i : Int)])) := ⟨rfl⟩
   have HX : Aside0 (∀ i, nextF on done n 0 = some i → i < 64) := ⟨fun i hi => by have := nextF_lt on done n 0 i hi; have := HN.out; omega⟩
   obtain ⟨o, ho⟩ : ∃ o, nextF on done n 0 = o := ⟨_, rfl⟩
   have HO1 := Aside0.mk ho
   clear ho
   cases o with
   | none =>
    go_wp2_with (go_at_call 173; refine (next_walk n HN.out on HON.out done HD.out g _ HG2.out).mono ?_; rw [HO1.out]; rintro e w2 ⟨rfl, rfl⟩)
    refine ⟨rfl, ?_⟩
    unfold OrderP
    rw [HI.out, HS.out, HO1.out]
    exact ⟨HB.out, rfl⟩
   | some i =>
    have HI64 := Aside0.mk (HX.out i HO1.out)
    have hor : bits .or .u64 (done : Int) ((2 : Int) ^ i) = ((done ||| 2 ^ i : Nat) : Int) := by
     have := u64_or_nat done (2 ^ i) HD.out (Nat.pow_lt_pow_right (by omega : 1 < 2) HI64.out)
     rwa [Int.natCast_pow] at this
    have HD2 := Aside0.mk (or_lt done i HD.out HI64.out)
    have HS2 : Aside0 (orderF on n n 0 [] = orderF on n k (done ||| 2 ^ i) (out ++ [(i : Int)])) := ⟨by rw [HI.out, HS.out, HO1.out]⟩
    generalize done ||| 2 ^ i = done2 at hor HD2 HS2
    go_wp2_with (first
     | (go_at_call 173; refine (next_walk n HN.out on HON.out done HD.out g _ HG2.out).mono ?_; rw [HO1.out]; rintro e w2 ⟨rfl, rfl⟩)
     | (go_at_call 172; refine (one_lit i HI64.out _).mono ?_; rintro e w2 ⟨rfl, rfl⟩)
     | (((with_reducible refine gate_builtin (b := .append) (xs := #[.tmp 20, .tmp 22]) rfl ?_); (try (refine gate_guard (by rfl) ?_; dsimp only)); at_builtin; refine Kd.R_append (Kd.int .i64) (w0 := w) w.heap.size rfl (.tmp 20) (.tmp 22) 28 3 (.int .i64 0) 8 rfl Tryz.underlying28 info3 rfl (by decide) (by omega) (.slice A out.length c) out (i : Int) [.int .i64 (i : Int)] (fun _ => True) (fun _ => False) rfl (by simp [Act.eval]) ?aP (fun _ hk => hk.elim) ?aF ?aO ?aB ?aS ?aL ?_; (case aP => exact rfl); (case aF => exact (fun _ _ => trivial)); (case aO => exact (by (with_reducible repeat (first | apply Kd.R_alloc | apply Kd.R_drewN | apply Kd.R_drew)); exact HO.out)); (case aB => exact HB.out); (case aS => exact HB.out.size); (case aL => have := HOL.out; omega); intro v4 w4 ho hb hg hat; have HO4 := Aside0.mk ho; have HB4 := Aside0.mk hb; obtain ⟨A4, c4, hv4⟩ := Kd.R_slice ho; clear ho hb hg hat)))
    go_roundg k
    case measure => omega
    case rel => exact ⟨done2, out ++ [(i : Int)], rfl, ⟨A4, c4, by simp⟩, ⟨by have := HL.out; simp; omega⟩, HD2, HS2, ⟨by have h := HO4.out; rw [hv4] at h; simpa using h⟩, HB4⟩
end Go.Proofs.YtloijngccppfgaaGreat.F
end

section
namespace Go.Proofs.YtloijngccppfgaaGreat.F
open Go.RowKit Go.Proofs.YtloijngccppfgaaGreatW.PrintWords Go.Proofs.YtloijngccppfgaaGreatW.PrintLast Go.Proofs.YtloijngccppfgaaGreatW.PrintMore
attribute [local go_sem] max2_int min2_int max_two min_two max_three min_three max_four min_four
set_option linter.unusedVariables false
set_option linter.unusedSimpArgs false
def boundsOk (n : Int) (l : List S227) : Bool := decide (0 ≤ n) && decide (n ≤ 64) && decide (l.length ≤ 4096)
def ordE (n : Int) (l : List S227) : Int := if boundsOk n l then (if l.all (arcOk n) then (if (orderF (onOf l) n.toNat n.toNat 0 []).isSome then 0 else 13) else 2) else 2
set_option maxHeartbeats 2000000 in
set_option maxRecDepth 100000 in
theorem try_idle (p : Addr) (w : World) :
  CallsD Tryz.prog 163 #[.pointer (some p)] .returning w fun e u' w' => e = .returned (.tuple #[]) ∧ u' = .returning ∧ w' = w := by
 refine callsD_of_wpS Tryz.func163 rfl fun c₀ cs hu => ?_
 apply wpS_seq
 apply wpS_region
 simp [wpOpsS, go_sem, recoverD, hu, Tryz.ntmps163, Exit.thenS]
 refine wpS_of_wp ?_
 go_wp2
 cases c₀
 simp_all [bodyPostS, results, Tryz.results163, go_sem]
theorem ta_yes (w : World) : (Instr.typeAssert (.iface 232 (.agg #[])) 20 232 true).run Tryz.prog w = .ok (.tuple #[.agg #[], .bool true]) w := by kernel_rfl
theorem ta_no (w : World) : (Instr.typeAssert (.iface 234 (.agg #[])) 20 232 true).run Tryz.prog w = .ok (.tuple #[.agg #[], .bool false]) w := by kernel_rfl
theorem ta_must (w : World) : (Instr.typeAssert (.iface 234 (.agg #[])) 20 234 false).run Tryz.prog w = .ok (.agg #[]) w := by kernel_rfl
set_option maxHeartbeats 4000000 in
set_option maxRecDepth 100000 in
theorem try_circle (g : Nat) (x : Int) (w : World) (hg : w.heap[g]? = some (.cells #[.int .i64 x] 31 (0, 0))) :
  CallsD Tryz.prog 163 #[.pointer (some ⟨g, 0, none⟩)] (.panicking [{ v := circleV, recovered := false }]) w fun e u' w' => e = .returned (.tuple #[]) ∧ u' = .panicking [{ v := circleV, recovered := true }] ∧ ∃ o, w' = (w.alloc o).setCell ⟨g, 0, none⟩ (.int .i64 13) := by
 have hG := blk_alloc hg (.cells #[] 232 (0, 0))
 have hz := blk_frozen hG 0
 have hc : (w.alloc (.cells #[] 232)).cell? ⟨g, 0, none⟩ = some (.int .i64 x) := (blk_cell hG 0).trans rfl
 clear hG hg
 refine callsD_of_wpS Tryz.func163 rfl fun c₀ cs hu => ?_
 apply wpS_seq
 apply wpS_region
 simp [wpOpsS, go_sem, recoverD, hu, Tryz.ntmps163, Exit.thenS, circleV, strayV]
 refine wpS_of_wp ?_
 clear hu
 have h1 := ta_yes
 go_wp2
 cases c₀
 simp_all [bodyPostS, results, Tryz.results163, go_sem]
 try exact ⟨_, rfl⟩
set_option maxHeartbeats 4000000 in
set_option maxRecDepth 100000 in
theorem try_stray (g : Nat) (x : Int) (w : World) (hg : w.heap[g]? = some (.cells #[.int .i64 x] 31 (0, 0))) :
  CallsD Tryz.prog 163 #[.pointer (some ⟨g, 0, none⟩)] (.panicking [{ v := strayV, recovered := false }]) w fun e u' w' => e = .returned (.tuple #[]) ∧ u' = .panicking [{ v := strayV, recovered := true }] ∧ ∃ o, w' = (w.alloc o).setCell ⟨g, 0, none⟩ (.int .i64 2) := by
 have hG := blk_alloc hg (.cells #[] 232 (0, 0))
 have hz := blk_frozen hG 0
 have hc : (w.alloc (.cells #[] 232)).cell? ⟨g, 0, none⟩ = some (.int .i64 x) := (blk_cell hG 0).trans rfl
 clear hG hg
 refine callsD_of_wpS Tryz.func163 rfl fun c₀ cs hu => ?_
 apply wpS_seq
 apply wpS_region
 simp [wpOpsS, go_sem, recoverD, hu, Tryz.ntmps163, Exit.thenS, circleV, strayV]
 refine wpS_of_wp ?_
 clear hu
 have h1 := ta_no
 have h2 := ta_must
 go_wp2
 cases c₀
 simp_all [bodyPostS, results, Tryz.results163, go_sem]
 try exact ⟨_, rfl⟩
def TryP (b : Nat) (n : Int) (l : List S227) (w : World) (e : Ending) (w' : World) : Prop := e = .returned (.int .i64 (ordE n l)) ∧ Below b w w' ∧ ∃ v, w'.heap[b]? = some (.cells #[v] 28 (0, 0))
set_option maxHeartbeats 2000000 in
set_option maxRecDepth 100000 in
theorem do_lit (b g : Nat) (A : Option Addr) (n c : Nat) (w : World) (hb : w.heap[b]? = some (.cells #[.slice none 0 0] 28 (0, 0))) :
  Calls Tryz.prog 149 #[.pointer (some ⟨g, 0, none⟩), .slice A n c, .pointer (some ⟨b, 0, none⟩)] w fun e w' => e = .returned (.tuple #[]) ∧ w' = w.setCell ⟨b, 0, none⟩ (.slice A n c) := by
 have hz := blk_frozen hb 0
 have hc : w.cell? ⟨b, 0, none⟩ = some (.slice none 0 0) := (blk_cell hb 0).trans rfl
 clear hb
 go_enter Tryz.func149, Tryz.ntmps149
 go_wp2
 exact ⟨rfl, _, results_none rfl _ _ _, rfl, rfl⟩
set_option maxHeartbeats 8000000 in
set_option maxRecDepth 100000 in
theorem try_bounds (b : Nat) (m : Int) (l0 : List S227) (A0 : Option Addr) (c0 : Nat) (w : World) (hr0 : Kd.C k227 w A0 l0.length l0) (hb : w.heap[b]? = some (.cells #[.slice none 0 0] 28 (0, 0))) (hbad : boundsOk m l0 = false) :
  Calls Tryz.prog 148 #[.int .i64 m, .slice A0 l0.length c0, .func (.func 149) #[] #[.pointer (some ⟨b, 0, none⟩)]] w (TryP b m l0 w) := by
 have hmf : ∀ (fn : Fn) (first cap : Array Value) (w : World), (Instr.makeFunc fn first cap).run Tryz.prog w = .ok (.func fn first cap) w := fun _ _ _ _ => rfl
 have HR := Aside0.mk (Kd.C_alloc hr0 (.cells #[.int .i64 0] 31))
 have HG := Aside0.mk (blk_new w (.cells #[.int .i64 0] 31 (0, 0)))
 have HBX := Aside0.mk (blk_alloc hb (.cells #[.int .i64 0] 31 (0, 0)))
 have HBL := Aside0.mk (blk_lt hb)
 have HB0 := Aside0.mk ((Below.refl b w).alloc (Nat.le_of_lt (blk_lt hb)) (.cells #[.int .i64 0] 31 (0, 0)))
 have hbad2 : ¬ (0 ≤ m ∧ m ≤ 64 ∧ l0.length ≤ 4096) := fun h => by simp [boundsOk, h.1, h.2.1, h.2.2] at hbad
 have HO : Aside0 (ordE m l0 = 2) := ⟨by simp [ordE, hbad]⟩
 have HBAD := Aside0.mk hbad2
 clear hr0 hb hbad hbad2
 go_enter_defers Tryz.func148, Tryz.ntmps148
 go_wp2_with (go_at_call 164; refine (made_bad m l0 A0 c0 _ HR.out HBAD.out).mono ?_; rintro e w2 ⟨rfl, hb⟩; have HB2 := Aside0.mk (HB0.out.trans (hb.mono (by simp; exact Nat.le_succ_of_le (Nat.le_of_lt HBL.out)))); have HG2 := Aside0.mk (blk_below HG.out hb); have HBX2 := Aside0.mk (blk_below HBX.out hb); clear hb)
 refine leaves_cons (f := 163) (args := #[.pointer (some ⟨w.heap.size, 0, none⟩)]) (by simp) (by simp [go_sem]) ?_
 refine (try_stray w.heap.size 0 _ HG2.out).mono ?_
 rintro e u' w'' ⟨rfl, rfl, o, rfl⟩
 have hG3 := blk_put (blk_alloc HG2.out o) 0 (.int .i64 2) rfl
 have hcl := (blk_cell hG3 0).trans rfl
 refine ⟨.int .i64 2, by simp [results, Tryz.results148, go_sem, hcl], ?_⟩
 refine ⟨by rw [HO.out], ((HB2.out.alloc (Nat.le_trans (Nat.le_of_lt HBL.out) HB2.out.size) _).setCell (p := ⟨w.heap.size, 0, none⟩) (Nat.le_of_lt HBL.out) _), _, blk_far (blk_alloc HBX2.out o) (Nat.ne_of_lt HBL.out) _⟩
set_option maxHeartbeats 8000000 in
set_option maxRecDepth 100000 in
theorem try_arcs (b : Nat) (m : Int) (l0 : List S227) (A0 : Option Addr) (c0 : Nat) (w : World) (hr0 : Kd.C k227 w A0 l0.length l0) (hb : w.heap[b]? = some (.cells #[.slice none 0 0] 28 (0, 0))) (h0 : 0 ≤ m) (h1 : m ≤ 64) (h2 : l0.length ≤ 4096) (hA : l0.all (arcOk m) = false) :
  Calls Tryz.prog 148 #[.int .i64 m, .slice A0 l0.length c0, .func (.func 149) #[] #[.pointer (some ⟨b, 0, none⟩)]] w (TryP b m l0 w) := by
 have hmf : ∀ (fn : Fn) (first cap : Array Value) (w : World), (Instr.makeFunc fn first cap).run Tryz.prog w = .ok (.func fn first cap) w := fun _ _ _ _ => rfl
 have HR := Aside0.mk (Kd.C_alloc hr0 (.cells #[.int .i64 0] 31))
 have HG := Aside0.mk (blk_new w (.cells #[.int .i64 0] 31 (0, 0)))
 have HBX := Aside0.mk (blk_alloc hb (.cells #[.int .i64 0] 31 (0, 0)))
 have HBL := Aside0.mk (blk_lt hb)
 have HB0 := Aside0.mk ((Below.refl b w).alloc (Nat.le_of_lt (blk_lt hb)) (.cells #[.int .i64 0] 31 (0, 0)))
 have HO : Aside0 (ordE m l0 = 2) := ⟨by simp [ordE, boundsOk, h0, h1, h2, hA]⟩
 have HA := Aside0.mk hA
 have H0 := Aside0.mk h0
 have H1 := Aside0.mk h1
 have H2 := Aside0.mk h2
 clear hr0 hb h0 h1 h2 hA
 go_enter_defers Tryz.func148, Tryz.ntmps148
 go_wp2_with (go_at_call 164; refine (made_loop m l0 A0 c0 _ HR.out H0.out H1.out H2.out).mono ?_; rintro e w2 ⟨hb, he⟩; rw [if_neg (by rw [HA.out]; simp)] at he; subst he; have HB2 := Aside0.mk (HB0.out.trans (hb.mono (by simp; exact Nat.le_succ_of_le (Nat.le_of_lt HBL.out)))); have HG2 := Aside0.mk (blk_below HG.out hb); have HBX2 := Aside0.mk (blk_below HBX.out hb); clear hb)
 refine leaves_cons (f := 163) (args := #[.pointer (some ⟨w.heap.size, 0, none⟩)]) (by simp) (by simp [go_sem]) ?_
 refine (try_stray w.heap.size 0 _ HG2.out).mono ?_
 rintro e u' w'' ⟨rfl, rfl, o, rfl⟩
 have hG3 := blk_put (blk_alloc HG2.out o) 0 (.int .i64 2) rfl
 have hcl := (blk_cell hG3 0).trans rfl
 refine ⟨.int .i64 2, by simp [results, Tryz.results148, go_sem, hcl], ?_⟩
 refine ⟨by rw [HO.out], ((HB2.out.alloc (Nat.le_trans (Nat.le_of_lt HBL.out) HB2.out.size) _).setCell (p := ⟨w.heap.size, 0, none⟩) (Nat.le_of_lt HBL.out) _), _, blk_far (blk_alloc HBX2.out o) (Nat.ne_of_lt HBL.out) _⟩
set_option maxHeartbeats 8000000 in
set_option maxRecDepth 100000 in
theorem try_cycle (b : Nat) (m : Int) (l0 : List S227) (A0 : Option Addr) (c0 : Nat) (w : World) (hr0 : Kd.C k227 w A0 l0.length l0) (hb : w.heap[b]? = some (.cells #[.slice none 0 0] 28 (0, 0))) (n : Nat) (hn : m = (n : Int)) (h1 : n ≤ 64) (h2 : l0.length ≤ 4096) (hA : l0.all (arcOk m) = true) (ho : orderF (onOf l0) n n 0 [] = none) :
  Calls Tryz.prog 148 #[.int .i64 m, .slice A0 l0.length c0, .func (.func 149) #[] #[.pointer (some ⟨b, 0, none⟩)]] w (TryP b m l0 w) := by
 have hmf : ∀ (fn : Fn) (first cap : Array Value) (w : World), (Instr.makeFunc fn first cap).run Tryz.prog w = .ok (.func fn first cap) w := fun _ _ _ _ => rfl
 have HR := Aside0.mk (Kd.C_alloc hr0 (.cells #[.int .i64 0] 31))
 have HG := Aside0.mk (blk_new w (.cells #[.int .i64 0] 31 (0, 0)))
 have HBX := Aside0.mk (blk_alloc hb (.cells #[.int .i64 0] 31 (0, 0)))
 have HBL := Aside0.mk (blk_lt hb)
 have HB0 := Aside0.mk ((Below.refl b w).alloc (Nat.le_of_lt (blk_lt hb)) (.cells #[.int .i64 0] 31 (0, 0)))
 subst hn
 have HO : Aside0 (ordE (n : Int) l0 = 13) := ⟨by simp [ordE, boundsOk, h1, h2, hA, ho]; omega⟩
 have H1 := Aside0.mk h1
 have H2 := Aside0.mk h2
 have HA := Aside0.mk hA
 have HON : Aside0 (∀ j, onOf l0 j < 2 ^ 64) := ⟨fun j => on_lt l0 (n : Int) (by omega) (fun a ha => by rw [List.all_eq_true] at hA; exact hA a ha) (fun _ => 0) (fun _ => by decide) j⟩
 have HOO := Aside0.mk ho
 have HN0 := Aside0.mk (show (0 : Int) ≤ (n : Int) by omega)
 have HN1 := Aside0.mk (show (n : Int) ≤ 64 by omega)
 clear hr0 hb h1 h2 hA ho
 go_enter_defers Tryz.func148, Tryz.ntmps148
 go_wp2_with (first
  | (go_at_call 164; refine (made_loop n l0 A0 c0 _ HR.out HN0.out HN1.out H2.out).mono ?_; rintro e w2 ⟨hb, he⟩; rw [if_pos HA.out] at he; simp only [World.size_alloc] at he; obtain ⟨rfl, hgr⟩ := he; have HGR := Aside0.mk hgr; have HB1 := Aside0.mk (HB0.out.trans (hb.mono (by simp; exact Nat.le_succ_of_le (Nat.le_of_lt HBL.out)))); have HG1 := Aside0.mk (blk_below HG.out hb); have HBX1 := Aside0.mk (blk_below HBX.out hb); have HS1 := Aside0.mk (Nat.lt_of_lt_of_le (show b < (w.alloc (.cells #[.int .i64 0] 31 (0, 0))).heap.size by simp; exact Nat.lt_succ_of_lt HBL.out) hb.size); clear hb hgr)
  | (go_at_call 165; refine (order_walk n H1.out (onOf l0) HON.out _ _ HGR.out).mono ?_; rintro e w3 ⟨hb, he⟩; rw [HOO.out] at he; subst he; have HB2 := Aside0.mk (HB1.out.trans (hb.mono (Nat.le_of_lt HS1.out))); have HG2 := Aside0.mk (blk_below HG1.out hb); have HBX2 := Aside0.mk (blk_below HBX1.out hb); clear hb))
 refine leaves_cons (f := 163) (args := #[.pointer (some ⟨w.heap.size, 0, none⟩)]) (by simp) (by simp [go_sem]) ?_
 refine (try_circle w.heap.size 0 _ HG2.out).mono ?_
 rintro e u' w'' ⟨rfl, rfl, o, rfl⟩
 have hG3 := blk_put (blk_alloc HG2.out o) 0 (.int .i64 13) rfl
 have hcl := (blk_cell hG3 0).trans rfl
 refine ⟨.int .i64 13, by simp [results, Tryz.results148, go_sem, hcl], ?_⟩
 refine ⟨by rw [HO.out], ((HB2.out.alloc (Nat.le_trans (Nat.le_of_lt HBL.out) HB2.out.size) _).setCell (p := ⟨w.heap.size, 0, none⟩) (Nat.le_of_lt HBL.out) _), _, blk_far (blk_alloc HBX2.out o) (Nat.ne_of_lt HBL.out) _⟩
set_option maxHeartbeats 8000000 in
set_option maxRecDepth 100000 in
theorem try_fine (b : Nat) (m : Int) (l0 : List S227) (A0 : Option Addr) (c0 : Nat) (w : World) (hr0 : Kd.C k227 w A0 l0.length l0) (hb : w.heap[b]? = some (.cells #[.slice none 0 0] 28 (0, 0))) (n : Nat) (hn : m = (n : Int)) (h1 : n ≤ 64) (h2 : l0.length ≤ 4096) (hA : l0.all (arcOk m) = true) (out : List Int) (ho : orderF (onOf l0) n n 0 [] = some out) :
  Calls Tryz.prog 148 #[.int .i64 m, .slice A0 l0.length c0, .func (.func 149) #[] #[.pointer (some ⟨b, 0, none⟩)]] w (TryP b m l0 w) := by
 have hmf : ∀ (fn : Fn) (first cap : Array Value) (w : World), (Instr.makeFunc fn first cap).run Tryz.prog w = .ok (.func fn first cap) w := fun _ _ _ _ => rfl
 have HR := Aside0.mk (Kd.C_alloc hr0 (.cells #[.int .i64 0] 31))
 have HG := Aside0.mk (blk_new w (.cells #[.int .i64 0] 31 (0, 0)))
 have HBX := Aside0.mk (blk_alloc hb (.cells #[.int .i64 0] 31 (0, 0)))
 have HBL := Aside0.mk (blk_lt hb)
 have HB0 := Aside0.mk ((Below.refl b w).alloc (Nat.le_of_lt (blk_lt hb)) (.cells #[.int .i64 0] 31 (0, 0)))
 subst hn
 have HO : Aside0 (ordE (n : Int) l0 = 0) := ⟨by simp [ordE, boundsOk, h1, h2, hA, ho]; omega⟩
 have H1 := Aside0.mk h1
 have H2 := Aside0.mk h2
 have HA := Aside0.mk hA
 have HON : Aside0 (∀ j, onOf l0 j < 2 ^ 64) := ⟨fun j => on_lt l0 (n : Int) (by omega) (fun a ha => by rw [List.all_eq_true] at hA; exact hA a ha) (fun _ => 0) (fun _ => by decide) j⟩
 have HOO := Aside0.mk ho
 have HN0 := Aside0.mk (show (0 : Int) ≤ (n : Int) by omega)
 have HN1 := Aside0.mk (show (n : Int) ≤ 64 by omega)
 clear hr0 hb h1 h2 hA ho
 go_enter_defers Tryz.func148, Tryz.ntmps148
 go_wp2_with (first
  | (go_at_call 164; refine (made_loop n l0 A0 c0 _ HR.out HN0.out HN1.out H2.out).mono ?_; rintro e w2 ⟨hb, he⟩; rw [if_pos HA.out] at he; simp only [World.size_alloc] at he; obtain ⟨rfl, hgr⟩ := he; have HGR := Aside0.mk hgr; have HB1 := Aside0.mk (HB0.out.trans (hb.mono (by simp; exact Nat.le_succ_of_le (Nat.le_of_lt HBL.out)))); have HG1 := Aside0.mk (blk_below HG.out hb); have HBX1 := Aside0.mk (blk_below HBX.out hb); have HS1 := Aside0.mk (Nat.lt_of_lt_of_le (show b < (w.alloc (.cells #[.int .i64 0] 31 (0, 0))).heap.size by simp; exact Nat.lt_succ_of_lt HBL.out) hb.size); clear hb hgr)
  | (go_at_call 165; refine (order_walk n H1.out (onOf l0) HON.out _ _ HGR.out).mono ?_; rintro e w3 ⟨hb, he⟩; rw [HOO.out] at he; obtain ⟨v, rfl, hv⟩ := he; obtain ⟨A9, c9, rfl⟩ := Kd.R_slice hv; have HB2 := Aside0.mk (HB1.out.trans (hb.mono (Nat.le_of_lt HS1.out))); have HG2 := Aside0.mk (blk_below HG1.out hb); have HBX2 := Aside0.mk (blk_below HBX1.out hb); clear hb hv)
  | (go_at_call 149; refine (do_lit b _ A9 _ c9 _ HBX2.out).mono ?_; rintro e w4 ⟨rfl, hw4⟩; have HB4 : Aside0 (Below b w w4) := ⟨by rw [hw4]; exact HB2.out.setCell (p := ⟨b, 0, none⟩) (Nat.le_refl _) _⟩; have HG4 : Aside0 (w4.heap[w.heap.size]? = some (.cells #[.int .i64 0] 31 (0, 0))) := ⟨by rw [hw4]; exact blk_far HG2.out (Nat.ne_of_gt HBL.out) _⟩; have HBX4 : Aside0 (w4.heap[b]? = some (.cells #[.slice A9 out.length c9] 28 (0, 0))) := ⟨by rw [hw4]; exact blk_put HBX2.out 0 _ rfl⟩; have y0 : w4.cell? ⟨w.heap.size, 0, none⟩ = some (.int .i64 0) := (blk_cell HG4.out 0).trans rfl; have y1 := blk_frozen HG4.out 0; clear hw4))
 refine leaves_cons (f := 163) (args := #[.pointer (some ⟨w.heap.size, 0, none⟩)]) (by simp) (by simp [go_sem]) ?_
 refine (try_idle ⟨w.heap.size, 0, none⟩ _).mono ?_
 rintro e u' w'' ⟨rfl, rfl, rfl⟩
 have hG3 := blk_put HG4.out 0 (.int .i64 0) rfl
 have hcl := (blk_cell hG3 0).trans rfl
 refine ⟨.int .i64 0, by simp [results, Tryz.results148, go_sem, hcl], ?_⟩
 refine ⟨by rw [HO.out], HB4.out.setCell (p := ⟨w.heap.size, 0, none⟩) (Nat.le_of_lt HBL.out) _, _, blk_far HBX4.out (Nat.ne_of_lt HBL.out) _⟩
theorem try_all (b : Nat) (m : Int) (l0 : List S227) (A0 : Option Addr) (c0 : Nat) (w : World) (hr0 : Kd.C k227 w A0 l0.length l0) (hb : w.heap[b]? = some (.cells #[.slice none 0 0] 28 (0, 0))) :
  Calls Tryz.prog 148 #[.int .i64 m, .slice A0 l0.length c0, .func (.func 149) #[] #[.pointer (some ⟨b, 0, none⟩)]] w (TryP b m l0 w) := by
 cases hbo : boundsOk m l0 with
 | false => exact try_bounds b m l0 A0 c0 w hr0 hb hbo
 | true =>
  simp only [boundsOk, Bool.and_eq_true, decide_eq_true_eq] at hbo
  obtain ⟨⟨h0, h1⟩, h2⟩ := hbo
  cases hA : l0.all (arcOk m) with
  | false => exact try_arcs b m l0 A0 c0 w hr0 hb h0 h1 h2 hA
  | true =>
   obtain ⟨n, rfl⟩ := Int.eq_ofNat_of_zero_le h0
   cases ho : orderF (onOf l0) n n 0 [] with
   | none => exact try_cycle b n l0 A0 c0 w hr0 hb n rfl (by omega) h2 hA ho
   | some out => exact try_fine b n l0 A0 c0 w hr0 hb n rfl (by omega) h2 hA out ho
def OrdP (m : Int) (l : List S227) (w : World) (e : Ending) (w' : World) : Prop := ∃ v, e = .returned (.tuple #[v, .int .i64 (ordE m l)]) ∧ Below w.heap.size w w'
set_option maxHeartbeats 4000000 in
set_option maxRecDepth 100000 in
theorem ord_walk (m : Int) (l0 : List S227) (A0 : Option Addr) (c0 : Nat) (w : World) (hr0 : Kd.C k227 w A0 l0.length l0) :
  Calls Tryz.prog 132 #[.int .i64 m, .slice A0 l0.length c0] w (OrdP m l0 w) := by
 have hmf : ∀ (fn : Fn) (first cap : Array Value) (w : World), (Instr.makeFunc fn first cap).run Tryz.prog w = .ok (.func fn first cap) w := fun _ _ _ _ => rfl
 have HR := Aside0.mk (Kd.C_alloc hr0 (.cells #[.slice none 0 0] 28))
 have HG := Aside0.mk (blk_new w (.cells #[.slice none 0 0] 28 (0, 0)))
 have HB0 := Aside0.mk ((Below.refl w.heap.size w).alloc (Nat.le_refl _) (.cells #[.slice none 0 0] 28 (0, 0)))
 clear hr0
 go_enter Tryz.func132, Tryz.ntmps132
 go_wp2_with (go_at_call 148; refine (try_all w.heap.size m l0 A0 c0 _ HR.out HG.out).mono ?_; rintro e w2 ⟨rfl, hb, v, hv⟩; have HB2 := Aside0.mk (HB0.out.trans hb); have y0 : w2.cell? ⟨w.heap.size, 0, none⟩ = some v := (blk_cell hv 0).trans rfl; clear hb hv)
 go_ret2
 exact ⟨v, rfl, HB2.out⟩
end Go.Proofs.YtloijngccppfgaaGreat.F
end

section
namespace Go.Proofs.YtloijngccppfgaaGreat.F
open Go.RowKit Go.Proofs.YtloijngccppfgaaGreatW.PrintWords Go.Proofs.YtloijngccppfgaaGreatW.PrintLast Go.Proofs.YtloijngccppfgaaGreatW.PrintMore
attribute [local go_sem] max2_int min2_int max_two min_two max_three min_three max_four min_four
set_option linter.unusedVariables false
set_option linter.unusedSimpArgs false
def bodySound (b : S110) : Bool := (decide (0 < b.f0.length) && decide (b.f0.length ≤ 16)) && (match arcsL b.f0 0 b.f0 [] with | none => false | some a => ordE b.f0.length a == 0)
def soundB (l : List S110) : Bool := decide (l.length ≤ 4) && l.all bodySound
def SoundP (o : Bool) (w : World) (e : Ending) (w' : World) : Prop := Below w.heap.size w w' ∧ (if o then e = .returned (.tuple #[]) else ∃ why, e = .panicked [{ v := faultV why, recovered := false }])
structure SoundS (A1 : Option Addr) (b : List S112) (base w' : World) : Prop where
 c : Kd.C k112 w' A1 b.length b
 b : Below base.heap.size base w'
theorem SoundS.below {A1 : Option Addr} {b : List S112} {base W w' : World} (h : SoundS A1 b base W) (hb : Below W.heap.size W w') : Below base.heap.size base w' := h.b.trans (hb.mono h.b.size)
theorem SoundS.step {A1 : Option Addr} {b : List S112} {base W w' : World} (h : SoundS A1 b base W) (hb : Below W.heap.size W w') : SoundS A1 b base w' := ⟨Kd.C_below h.c hb, h.below hb⟩
set_option maxHeartbeats 8000000 in
set_option maxRecDepth 100000 in
theorem sound_walk (A0 : Option Addr) (c0 : Nat) (l : List S110) (w : World) (hr0 : Kd.C k110 w A0 l.length l) (hc0 : l.length ≤ c0) :
  Calls Tryz.prog 111 #[.slice A0 l.length c0] w (SoundP (soundB l) w) := by
 have HR := Aside0.mk hr0
 have HM := Aside0.mk (Kd.C_max hr0)
 clear hr0 hc0
 by_cases h4 : l.length ≤ 4
 ·have hb4 : decide ((l.length : Int) ≤ 4) = true := decide_eq_true (by omega)
  have HV : Aside0 (soundB l = l.all bodySound) := ⟨by simp [soundB, h4]⟩
  have H4 := Aside0.mk h4
  go_enter Tryz.func111, Tryz.ntmps111
  go_wp2_with (go_at_call 108; (with_reducible refine (must_yes _ _).mono ?_); rintro e w2 ⟨rfl, rfl⟩)
  clear hb4
  go_loopg [12] l.length (fun kq v12 w' => ∃ i : Nat, i + kq = l.length ∧ v12 = .int .i64 i ∧ Aside0 (l.all bodySound = (l.drop i).all bodySound) ∧ Aside0 (Below w2.heap.size w2 w'))
  case atStart => exact ⟨0, by omega, rfl, ⟨rfl⟩, ⟨Below.refl _ _⟩⟩
  case round =>
   obtain ⟨i, hi, rfl, HI, HB⟩ := hrel
   have hm := HM.out
   cases gk with
   | zero =>
    obtain rfl : i = l.length := by omega
    have HE : Aside0 (soundB l = true) := ⟨by rw [HV.out, HI.out, List.drop_eq_nil_of_le (Nat.le_refl _)]; rfl⟩
    go_wp2
    refine ⟨rfl, _, results_none rfl _ _ _, HB.out, ?_⟩
    rw [if_pos HE.out]
   | succ k =>
    have hlt : i < l.length := by omega
    obtain ⟨ad, A1, c1, e0, x0, l0, g0⟩ := at_T110 (Kd.C_below HR.out HB.out) (i : Int) (by omega) (by omega)
    rw [Int.toNat_natCast] at x0
    have hrd : rd_T110 l (i : Int) = l[i] := by unfold rd_T110; rw [Int.toNat_natCast, List.getD_eq_getElem?_getD, List.getElem?_eq_getElem hlt]; rfl
    rw [hrd] at x0 l0 g0
    subst e0
    have HD : Aside0 ((l.drop i).all bodySound = (bodySound l[i] && (l.drop (i + 1)).all bodySound)) := ⟨by rw [List.drop_eq_getElem_cons hlt]; rfl⟩
    obtain ⟨⟨b⟩, hb⟩ : ∃ b, l[i] = b := ⟨_, rfl⟩
    rw [hb] at x0 l0 g0 HD
    simp only at x0 l0 g0
    have hlt' : (i : Int) < (l.length : Int) := by omega
    have h0 : (0 : Int) ≤ i := by omega
    have HI2 := Aside0.mk hi
    have HL0 := Aside0.mk l0
    have HBM := Aside0.mk (Kd.C_max g0)
    have HG0 := Aside0.mk (Kd.C_alloc g0 (.cells #[.slice A1 b.length c1] 110 (0, 0)))
    have HN := Aside0.mk (blk_new wr (.cells #[.slice A1 b.length c1] 110 (0, 0)))
    have HB1 := Aside0.mk (HB.out.alloc HB.out.size (.cells #[.slice A1 b.length c1] 110 (0, 0)))
    clear hrd hi hb g0 l0
    have hbm := HBM.out
    by_cases hp : 0 < b.length
    ·by_cases h16 : b.length ≤ 16
     ·have q1 : decide ((b.length : Int) > 0) = true := decide_eq_true (by omega)
      have q2 : decide ((b.length : Int) ≤ 16) = true := decide_eq_true (by omega)
      have HX : Aside0 (bodySound ⟨b⟩ = match arcsL b 0 b [] with | none => false | some a => ordE b.length a == 0) := ⟨by simp [bodySound, hp, h16]⟩
      have H16 := Aside0.mk h16
      go_wp2_with (go_at_call 108; (with_reducible refine (must_yes _ _).mono ?_); rintro e w3 ⟨rfl, rfl⟩)
      obtain ⟨WN, HWN⟩ : ∃ W, Aside0 (W = wr.alloc (.cells #[.slice A1 b.length c1] 110 (0, 0))) := ⟨_, ⟨rfl⟩⟩
      rw [← HWN.out] at HG0 HN HB1
      have hcl : WN.drew.cell? ⟨wr.heap.size, 0, none⟩ = some (.slice A1 b.length c1) := (blk_cell (blk_drew HN.out) 0).trans rfl
      have hS0 : SoundS A1 b w2 WN.drew := ⟨Kd.C_drew HG0.out, below_drew HB1.out⟩
      have HLT := Aside0.mk (blk_lt (blk_drew HN.out))
      rw [show wr.alloc (.cells #[.slice A1 b.length c1] 110) = WN from HWN.out.symm]
      cases ha : arcsL b 0 b [] with
      | none =>
       have HX2 : Aside0 (soundB l = false) := ⟨by rw [HV.out, HI.out, HD.out, HX.out, ha]; rfl⟩
       have HA := Aside0.mk ha
       clear ha
       have HS0 := Aside0.mk hS0
       clear hS0
       refine start_ (n := 11) (S := fun w' => w'.cell? ⟨wr.heap.size, 0, none⟩ = some (.slice A1 b.length c1)) (ds := []) #[false, false, false, false, false, false, false, false, false, false, false] (by kernel_rfl) rfl rfl hcl (fun hHeld => ?_)
       generalize WN.drew = W5 at hcl HS0 hHeld ⊢
       refine pure_ (i := 0) (N := (some 28)) (v := ?_) (a' := ?_) #[true, false, false, false, false, false, false, false, false, false, false] rfl rfl (by kernel_rfl) (fun _ _ _ h => h) (Or.inl ⟨by rfl, ?_⟩) ?_ ?_
       rotate_left
       ·intro w'
        go_simp
        with_reducible rfl
       rotate_left
       ·simp only [Act.put, List.setIfInBounds_toArray, List.set_cons_zero, List.set_cons_succ, i64_w, i32_w]
        rfl
       refine take_ (i := 1) (N := (some 29)) (v := ?_) (a' := ?_) #[true, true, false, false, false, false, false, false, false, false, false] rfl rfl (by kernel_rfl) (fun _ _ _ h => h) (Or.inl ⟨by rfl, ?_⟩) hHeld ?_ ?_
       rotate_left
       ·rintro w' s0
        go_simp
        with_reducible rfl
       rotate_left
       ·simp only [Act.put, List.setIfInBounds_toArray, List.set_cons_zero, List.set_cons_succ, i64_w, i32_w]
        rfl
       refine pure_ (i := 2) (N := (some 30)) (v := ?_) (a' := ?_) #[true, true, true, false, false, false, false, false, false, false, false] rfl rfl (by kernel_rfl) (fun _ _ _ h => h) (Or.inl ⟨by rfl, ?_⟩) ?_ ?_
       rotate_left
       ·intro w'
        go_simp
        with_reducible rfl
       rotate_left
       ·simp only [Act.put, List.setIfInBounds_toArray, List.set_cons_zero, List.set_cons_succ, i64_w, i32_w]
        rfl
       refine take_ (i := 3) (N := (some 31)) (v := ?_) (a' := ?_) #[true, true, true, true, false, false, false, false, false, false, false] rfl rfl (by kernel_rfl) (fun _ _ _ h => h) (Or.inl ⟨by rfl, ?_⟩) hHeld ?_ ?_
       rotate_left
       ·rintro w' s0
        go_simp
        with_reducible rfl
       rotate_left
       ·simp only [Act.put, List.setIfInBounds_toArray, List.set_cons_zero, List.set_cons_succ, i64_w, i32_w]
        rfl
       refine one_ (i := 4) (N := (some 32)) #[true, true, true, true, true, false, false, false, false, false, false] rfl rfl (by kernel_rfl) (by decide) (fun K hK => ?_)
       refine goesP_ Tryz.func133 (by kernel_rfl) rfl #[.agg #[.slice A1 b.length c1]] (by rfl) rfl rfl (by first | rfl | (simp only [List.map_toArray, List.map_cons, List.map_nil]; rfl)) ?_
       refine (arcs_walk A1 c1 b _ HS0.out.c HL0.out H16.out).mono ?_
       rintro e w3 ⟨hb, he⟩
       rw [HA.out] at he
       obtain ⟨why, rfl⟩ := he
       refine ⟨rfl, SoundS.below HS0.out hb, ?_⟩
       rw [if_neg (by rw [HX2.out]; simp)]
       exact ⟨_, rfl⟩
      | some a =>
       have HA := Aside0.mk ha
       rw [ha] at HX
       clear ha
       have HS0 := Aside0.mk hS0
       clear hS0
       have hx : bodySound ⟨b⟩ = (ordE b.length a == 0) := HX.out
       refine start_ (n := 11) (S := fun w' => w'.cell? ⟨wr.heap.size, 0, none⟩ = some (.slice A1 b.length c1)) (ds := []) #[false, false, false, false, false, false, false, false, false, false, false] (by kernel_rfl) rfl rfl hcl (fun hHeld => ?_)
       generalize WN.drew = W5 at hcl HS0 hHeld ⊢
       refine pure_ (i := 0) (N := (some 28)) (v := ?_) (a' := ?_) #[true, false, false, false, false, false, false, false, false, false, false] rfl rfl (by kernel_rfl) (fun _ _ _ h => h) (Or.inl ⟨by rfl, ?_⟩) ?_ ?_
       rotate_left
       ·intro w'
        go_simp
        with_reducible rfl
       rotate_left
       ·simp only [Act.put, List.setIfInBounds_toArray, List.set_cons_zero, List.set_cons_succ, i64_w, i32_w]
        rfl
       refine take_ (i := 1) (N := (some 29)) (v := ?_) (a' := ?_) #[true, true, false, false, false, false, false, false, false, false, false] rfl rfl (by kernel_rfl) (fun _ _ _ h => h) (Or.inl ⟨by rfl, ?_⟩) hHeld ?_ ?_
       rotate_left
       ·rintro w' s0
        go_simp
        with_reducible rfl
       rotate_left
       ·simp only [Act.put, List.setIfInBounds_toArray, List.set_cons_zero, List.set_cons_succ, i64_w, i32_w]
        rfl
       refine pure_ (i := 2) (N := (some 30)) (v := ?_) (a' := ?_) #[true, true, true, false, false, false, false, false, false, false, false] rfl rfl (by kernel_rfl) (fun _ _ _ h => h) (Or.inl ⟨by rfl, ?_⟩) ?_ ?_
       rotate_left
       ·intro w'
        go_simp
        with_reducible rfl
       rotate_left
       ·simp only [Act.put, List.setIfInBounds_toArray, List.set_cons_zero, List.set_cons_succ, i64_w, i32_w]
        rfl
       refine take_ (i := 3) (N := (some 31)) (v := ?_) (a' := ?_) #[true, true, true, true, false, false, false, false, false, false, false] rfl rfl (by kernel_rfl) (fun _ _ _ h => h) (Or.inl ⟨by rfl, ?_⟩) hHeld ?_ ?_
       rotate_left
       ·rintro w' s0
        go_simp
        with_reducible rfl
       rotate_left
       ·simp only [Act.put, List.setIfInBounds_toArray, List.set_cons_zero, List.set_cons_succ, i64_w, i32_w]
        rfl
       refine one_ (i := 4) (N := (some 32)) #[true, true, true, true, true, false, false, false, false, false, false] rfl rfl (by kernel_rfl) (by decide) (fun K hK => ?_)
       refine goesP_ Tryz.func133 (by kernel_rfl) rfl #[.agg #[.slice A1 b.length c1]] (by rfl) rfl rfl (by first | rfl | (simp only [List.map_toArray, List.map_cons, List.map_nil]; rfl)) ?_
       refine (arcs_walk A1 c1 b _ HS0.out.c HL0.out H16.out).mono ?_
       rintro e w3 ⟨hb, he⟩
       rw [HA.out] at he
       obtain ⟨v, rfl, hv⟩ := he
       obtain ⟨A9, c9, rfl⟩ := Kd.R_slice hv
       have HS3 := Aside0.mk (SoundS.step HS0.out hb)
       have HC9 := Aside0.mk (Kd.R_reads' hv).2.2
       have hn3 := (hb.cell (World.block_lt_of_cell? _ _ hHeld)).trans hHeld
       clear hb hv
       refine hK.out _ _ hn3 (fun hHeld => ?_)
       clear hK K
       refine norm_ (a' := ?_) ?_ ?_
       rotate_left
       ·show Act.put _ (some 32) _ = _
        simp only [Act.put, List.setIfInBounds_toArray, List.set_cons_zero, List.set_cons_succ, i64_w, i32_w]
        rfl
       refine one_ (i := 5) (N := (some 33)) #[true, true, true, true, true, true, false, false, false, false, false] rfl rfl (by kernel_rfl) (by decide) (fun K hK => ?_)
       refine goesP_ Tryz.func132 (by kernel_rfl) rfl #[.int .i64 b.length, .slice A9 a.length c9] (by rfl) rfl rfl (by first | rfl | (simp only [List.map_toArray, List.map_cons, List.map_nil]; rfl)) ?_
       refine (ord_walk _ a A9 c9 _ HC9.out).mono ?_
       rintro e w4 ⟨v4, rfl, hb⟩
       have HS4 := Aside0.mk (SoundS.step HS3.out hb)
       have hn4 := (hb.cell (World.block_lt_of_cell? _ _ hHeld)).trans hHeld
       clear hb
       refine hK.out _ _ hn4 (fun hHeld => ?_)
       clear hK K
       refine norm_ (a' := ?_) ?_ ?_
       rotate_left
       ·show Act.put _ (some 33) _ = _
        simp only [Act.put, List.setIfInBounds_toArray, List.set_cons_zero, List.set_cons_succ, i64_w, i32_w]
        rfl
       refine pure_ (i := 6) (N := (some 27)) (v := ?_) (a' := ?_) #[true, true, true, true, true, true, true, false, false, false, false] rfl rfl (by kernel_rfl) (fun _ _ _ h => h) (Or.inl ⟨by rfl, ?_⟩) ?_ ?_
       rotate_left
       ·intro w'
        go_simp
        with_reducible rfl
       rotate_left
       ·simp only [Act.put, List.setIfInBounds_toArray, List.set_cons_zero, List.set_cons_succ, i64_w, i32_w]
        rfl
       refine pure_ (i := 7) (N := (some 34)) (v := ?_) (a' := ?_) #[true, true, true, true, true, true, true, true, false, false, false] rfl rfl (by kernel_rfl) (fun _ _ _ h => h) (Or.inl ⟨by rfl, ?_⟩) ?_ ?_
       rotate_left
       ·intro w'
        go_simp
        with_reducible rfl
       rotate_left
       ·simp only [Act.put, List.setIfInBounds_toArray, List.set_cons_zero, List.set_cons_succ, i64_w, i32_w]
        rfl
       refine pure_ (i := 8) (N := (some 35)) (v := ?_) (a' := ?_) #[true, true, true, true, true, true, true, true, true, false, false] rfl rfl (by kernel_rfl) (fun _ _ _ h => h) (Or.inl ⟨by rfl, ?_⟩) ?_ ?_
       rotate_left
       ·intro w'
        go_simp
        with_reducible rfl
       rotate_left
       ·simp only [Act.put, List.setIfInBounds_toArray, List.set_cons_zero, List.set_cons_succ, i64_w, i32_w]
        rfl
       refine pure_ (i := 9) (N := (some 4)) (v := ?_) (a' := ?_) #[true, true, true, true, true, true, true, true, true, true, false] rfl rfl (by kernel_rfl) (fun _ _ _ h => h) (Or.inl ⟨by rfl, ?_⟩) ?_ ?_
       rotate_left
       ·intro w'
        go_simp
        with_reducible rfl
       rotate_left
       ·simp only [Act.put, List.setIfInBounds_toArray, List.set_cons_zero, List.set_cons_succ, i64_w, i32_w]
        rfl
       refine pure_ (i := 10) (N := (some 5)) (v := ?_) (a' := ?_) #[true, true, true, true, true, true, true, true, true, true, true] rfl rfl (by kernel_rfl) (fun _ _ _ h => h) (Or.inl ⟨by rfl, ?_⟩) ?_ ?_
       rotate_left
       ·intro w'
        go_simp
        with_reducible rfl
       rotate_left
       ·simp only [Act.put, List.setIfInBounds_toArray, List.set_cons_zero, List.set_cons_succ, i64_w, i32_w]
        rfl
       refine done_ (by kernel_rfl) ?_
       cases hv : (ordE b.length a == 0) with
       | true =>
        rw [hv] at hx
        have hx2 := Aside0.mk hx
        clear hx
        go_wp2_with (go_at_call 108; (with_reducible refine (must_yes _ _).mono ?_); rintro e w5 ⟨rfl, rfl⟩)
        go_roundg k
        case measure => omega
        case rel => exact ⟨i + 1, by have := HI2.out; omega, by go_num, ⟨by rw [HI.out, HD.out, hx2.out]; rfl⟩, ⟨HS4.out.b⟩⟩
       | false =>
        rw [hv] at hx
        have HX2 : Aside0 (soundB l = false) := ⟨by rw [HV.out, HI.out, HD.out, hx]; rfl⟩
        clear hx
        go_wp2_with (go_at_call 108; (with_reducible refine (must_no _ _).mono ?_); rintro e w5 ⟨rfl, rfl⟩)
        refine ⟨rfl, HS4.out.b, ?_⟩
        rw [if_neg (by rw [HX2.out]; simp)]
        exact ⟨_, rfl⟩
     ·have q1 : decide ((b.length : Int) > 0) = true := decide_eq_true (by omega)
      have q2 : decide ((b.length : Int) ≤ 16) = false := decide_eq_false (by omega)
      have HX : Aside0 (soundB l = false) := ⟨by rw [HV.out, HI.out, HD.out]; simp [bodySound, h16]⟩
      go_wp2_with (go_at_call 108; (with_reducible refine (must_no _ _).mono ?_); rintro e w3 ⟨rfl, rfl⟩)
      refine ⟨rfl, HB1.out, ?_⟩
      rw [if_neg (by rw [HX.out]; simp)]
      exact ⟨_, rfl⟩
    ·have q1 : decide ((b.length : Int) > 0) = false := decide_eq_false (by omega)
     have HX : Aside0 (soundB l = false) := ⟨by rw [HV.out, HI.out, HD.out]; simp [bodySound, hp]⟩
     go_wp2_with (go_at_call 108; (with_reducible refine (must_no _ _).mono ?_); rintro e w3 ⟨rfl, rfl⟩)
     refine ⟨rfl, HB1.out, ?_⟩
     rw [if_neg (by rw [HX.out]; simp)]
     exact ⟨_, rfl⟩
 ·have hb4 : decide ((l.length : Int) ≤ 4) = false := decide_eq_false (by omega)
  have HV : Aside0 (soundB l = false) := ⟨by simp [soundB, h4]⟩
  go_enter Tryz.func111, Tryz.ntmps111
  go_wp2_with (go_at_call 108; (with_reducible refine (must_no _ _).mono ?_); rintro e w2 ⟨rfl, rfl⟩)
  refine ⟨rfl, Below.refl _ _, ?_⟩
  rw [if_neg (by rw [HV.out]; simp)]
  exact ⟨_, rfl⟩
end Go.Proofs.YtloijngccppfgaaGreat.F
end

section
namespace Go.Proofs.YtloijngccppfgaaGreat.F
open Go.RowKit Go.Proofs.YtloijngccppfgaaGreatW.PrintWords Go.Proofs.YtloijngccppfgaaGreatW.PrintLast Go.Proofs.YtloijngccppfgaaGreatW.PrintMore
set_option linter.unusedVariables false
set_option linter.unusedSimpArgs false
section maps
variable {κ ν : Type}
def mapLook [DecidableEq κ] (m : List (κ × ν)) (k : κ) : Option ν := (m.find? (fun x => decide (x.1 = k))).map (·.2)
def mapPut [DecidableEq κ] (m : List (κ × ν)) (k : κ) (v : ν) : List (κ × ν) :=
 if (mapLook m k).isSome then m.map (fun x => if x.1 = k then (k, v) else x) else m ++ [(k, v)]
def keysOf (m : List (κ × ν)) : List κ := m.map (·.1)
structure MapIs (encK : κ → Value) (encV : ν → Value) (w : World) (b : Nat) (m : List (κ × ν)) : Prop where
 nodup : (keysOf m).Nodup
 at_ : ∃ es : Array MapEntry, w.heap[b]? = some (.map es m.length) ∧ es.toList = (List.range m.length).zipWith (fun i (x : κ × ν) => ({ key := encK x.1, val := encV x.2, born := i } : MapEntry)) m
theorem MapIs.of_block {encK : κ → Value} {encV : ν → Value} {w w' : World} {b : Nat} {m : List (κ × ν)} (h : MapIs encK encV w b m) (hb : w'.heap[b]? = w.heap[b]?) : MapIs encK encV w' b m := by
 obtain ⟨hn, es, h1, h2⟩ := h
 exact ⟨hn, es, hb.trans h1, h2⟩
theorem MapIs.lt {encK : κ → Value} {encV : ν → Value} {w : World} {b : Nat} {m : List (κ × ν)} (h : MapIs encK encV w b m) : b < w.heap.size := by
 obtain ⟨_, es, h1, _⟩ := h
 exact blk_lt h1
theorem MapIs.alloc {encK : κ → Value} {encV : ν → Value} {w : World} {b : Nat} {m : List (κ × ν)} (h : MapIs encK encV w b m) (o : Obj) : MapIs encK encV (w.alloc o) b m := h.of_block (Below.heap_alloc w o b h.lt)
theorem MapIs.drew {encK : κ → Value} {encV : ν → Value} {w : World} {b : Nat} {m : List (κ × ν)} (h : MapIs encK encV w b m) : MapIs encK encV w.drew b m := h.of_block rfl
theorem MapIs.below {encK : κ → Value} {encV : ν → Value} {w w' : World} {b : Nat} {m : List (κ × ν)} (h : MapIs encK encV w b m) (hb : Below w.heap.size w w') : MapIs encK encV w' b m := h.of_block (hb.block b h.lt)
theorem MapIs.grown {encK : κ → Value} {encV : ν → Value} {w w' : World} {b : Nat} {m : List (κ × ν)} {row : Option Nat} (h : MapIs encK encV w b m) (hg : w.grownBy w' row) (hr : some b ≠ row) : MapIs encK encV w' b m := h.of_block (hg.block b h.lt hr)
theorem MapIs.setCell {encK : κ → Value} {encV : ν → Value} {w : World} {b : Nat} {m : List (κ × ν)} {p : Addr} (h : MapIs encK encV w b m) (hp : b ≠ p.block) (u : Value) : MapIs encK encV (w.setCell p u) b m := h.of_block (Below.heap_setCell w p u b hp)
theorem MapIs.made (encK : κ → Value) (encV : ν → Value) (w : World) : MapIs encK encV (w.alloc (.map #[] 0)) w.heap.size ([] : List (κ × ν)) :=
 ⟨List.nodup_nil, #[], heap_alloc_new w _, rfl⟩
structure KeyOk [DecidableEq κ] (P : Program) (K : TypeId) (encK : κ → Value) : Prop where
 check : ∀ (empty : Bool) (k : κ) (w : World), (Instr.checkKey empty 10000 K (encK k)).run P w = .ok () w
 find : ∀ (k : κ) (es : List MapEntry) (ks : List κ) (w : World), es.map (·.key) = ks.map encK →
  (Instr.findKey K (encK k) es).run P w = .ok ((ks.findIdx? (fun x => decide (x = k))).bind fun i => es[i]?.map fun e => (i, e.val)) w
 same : ∀ k, Instr.sameBits 10000 (encK k) (encK k) = true
theorem entries_keys {encK : κ → Value} {encV : ν → Value} (m : List (κ × ν)) (j : Nat) : ((List.range' j m.length).zipWith (fun i (x : κ × ν) => ({ key := encK x.1, val := encV x.2, born := i } : MapEntry)) m).map (·.key) = (keysOf m).map encK := by
 induction m generalizing j with
 | nil => rfl
 | cons x m ih => simp only [List.length_cons, List.range'_succ, List.zipWith_cons_cons, List.map_cons, keysOf]; rw [ih (j + 1)]; rfl
theorem entries_at {encK : κ → Value} {encV : ν → Value} (m : List (κ × ν)) (i : Nat) : ((List.range m.length).zipWith (fun i (x : κ × ν) => ({ key := encK x.1, val := encV x.2, born := i } : MapEntry)) m)[i]? = (m[i]?).map fun x => { key := encK x.1, val := encV x.2, born := i } := by
 rw [List.getElem?_zipWith]
 by_cases h : i < m.length
 ·rw [List.getElem?_range h, List.getElem?_eq_getElem h]; rfl
 ·rw [List.getElem?_eq_none (by simp; omega), List.getElem?_eq_none (by omega)]; rfl
theorem look_idx [DecidableEq κ] (m : List (κ × ν)) (k : κ) : mapLook m k = ((keysOf m).findIdx? (fun x => decide (x = k))).bind fun i => m[i]?.map (·.2) := by
 induction m with
 | nil => rfl
 | cons x m ih =>
  unfold mapLook keysOf at *
  rw [List.find?_cons, List.map_cons, List.findIdx?_cons]
  by_cases h : x.1 = k
  ·simp [h]
  ·simp only [h, decide_false, Bool.false_eq_true, if_false]
   rw [ih]
   cases (List.map (·.1) m).findIdx? (fun x => decide (x = k)) <;> simp
section
variable {P : Program} {T K E : TypeId} {encK : κ → Value} {encV : ν → Value}
theorem map_found [DecidableEq κ] (kok : KeyOk P K encK) {w' : World} {m : List (κ × ν)} {es : Array MapEntry} (h : es.toList = (List.range m.length).zipWith (fun i (x : κ × ν) => ({ key := encK x.1, val := encV x.2, born := i } : MapEntry)) m) (k : κ) :
  (Instr.findKey K (encK k) es.toList).run P w' = .ok (((keysOf m).findIdx? (fun x => decide (x = k))).bind fun i => m[i]?.map fun x => (i, encV x.2)) w' := by
 have hk : es.toList.map (·.key) = (keysOf m).map encK := by rw [h, List.range_eq_range']; exact entries_keys m 0
 rw [kok.find k es.toList (keysOf m) w' hk]
 congr 1
 cases hx : (keysOf m).findIdx? (fun x => decide (x = k)) with
 | none => rfl
 | some i =>
  simp only [Option.bind_some]
  rw [h, entries_at, Option.map_map]; rfl
theorem run_map_lookup [DecidableEq κ] (kok : KeyOk P K encK) (ht : P.underlying T = some (.map K E)) {z : ν} (hz : ∀ w, (zeroValue E).run P w = .ok (encV z) w) {w : World} {b : Nat} {m : List (κ × ν)} (hm : MapIs encK encV w b m) (k : κ) (ok : Bool) :
  (Instr.lookup T (.map (some b)) (encK k) ok).run P w = .ok (if ok then .tuple #[encV ((mapLook m k).getD z), .bool (mapLook m k).isSome] else encV ((mapLook m k).getD z)) w := by
 obtain ⟨_, es, h1, h2⟩ := hm
 have hf := map_found (w' := w) kok h2 k
 have hl := look_idx m k
 have hg : (getObj b).run P w = .ok (.map es m.length) w := by unfold getObj; simp [Sem.run, h1]
 unfold Instr.lookup
 simp only [Sem.run_bind, run_underlying ht, hg, Result.andThen_ok, Sem.run_pure, kok.check, hf]
 cases hx : (keysOf m).findIdx? (fun x => decide (x = k)) with
 | none =>
  rw [hx] at hl
  simp only [Option.bind_none] at hl ⊢
  rw [hl]
  cases ok <;> simp [Sem.run_bind, hz, Result.andThen_ok, Sem.run_pure]
 | some i =>
  rw [hx] at hl
  simp only [Option.bind_some] at hl ⊢
  cases hy : m[i]? with
  | none =>
   rw [hy] at hl
   simp only [Option.map_none] at hl ⊢
   rw [hl]
   cases ok <;> simp [Sem.run_bind, hz, Result.andThen_ok, Sem.run_pure]
  | some x =>
   rw [hy] at hl
   simp only [Option.map_some] at hl ⊢
   rw [hl]
   cases ok <;> simp [Sem.run_bind, Result.andThen_ok, Sem.run_pure]
def entriesOf (encK : κ → Value) (encV : ν → Value) (m : List (κ × ν)) : List MapEntry := (List.range m.length).zipWith (fun i (x : κ × ν) => ({ key := encK x.1, val := encV x.2, born := i } : MapEntry)) m
theorem entriesOf_length (m : List (κ × ν)) : (entriesOf encK encV m).length = m.length := by simp [entriesOf]
theorem entriesOf_get (m : List (κ × ν)) (i : Nat) : (entriesOf encK encV m)[i]? = (m[i]?).map fun x => { key := encK x.1, val := encV x.2, born := i } := entries_at m i
theorem entriesOf_snoc (m : List (κ × ν)) (x : κ × ν) : entriesOf encK encV (m ++ [x]) = entriesOf encK encV m ++ [{ key := encK x.1, val := encV x.2, born := m.length }] := by
 apply List.ext_getElem?
 intro i
 rw [entriesOf_get]
 rcases Nat.lt_trichotomy i m.length with h | h | h
 ·rw [List.getElem?_append_left h, List.getElem?_append_left (by rw [entriesOf_length]; exact h), entriesOf_get]
 ·subst h
  rw [List.getElem?_append_right (Nat.le_refl _), List.getElem?_append_right (by rw [entriesOf_length]; exact Nat.le_refl _), entriesOf_length, Nat.sub_self]; rfl
 ·rw [List.getElem?_eq_none (by simp; omega), List.getElem?_eq_none (by simp [entriesOf_length]; omega)]; rfl
theorem MapIs.entries {w : World} {b : Nat} {m : List (κ × ν)} (h : MapIs encK encV w b m) : ∃ es : Array MapEntry, w.heap[b]? = some (.map es m.length) ∧ es.toList = entriesOf encK encV m := h.at_
theorem MapIs.put_ {w : World} {b : Nat} {m m' : List (κ × ν)} (h : MapIs encK encV w b m) (hn : (keysOf m').Nodup) {es' : Array MapEntry} (he : es'.toList = entriesOf encK encV m') {c : Nat} (hc : c = m'.length) :
  MapIs encK encV { w with heap := w.heap.setIfInBounds b (.map es' c) } b m' ∧ w.grownBy { w with heap := w.heap.setIfInBounds b (.map es' c) } (some b) := by
 have hlt := h.lt
 subst hc
 refine ⟨⟨hn, es', by simp [hlt], he⟩, rfl, rfl, rfl, by simp, fun i hi hne => ?_⟩
 have : b ≠ i := fun e => hne (by rw [e])
 simp [Array.getElem?_setIfInBounds_ne this]
theorem keysOf_put [DecidableEq κ] (m : List (κ × ν)) (k : κ) (v : ν) : keysOf (mapPut m k v) = if (mapLook m k).isSome then keysOf m else keysOf m ++ [k] := by
 unfold mapPut keysOf
 by_cases h : (mapLook m k).isSome = true
 ·rw [if_pos h, if_pos h, List.map_map]
  apply List.map_congr_left
  intro x hx
  simp only [Function.comp]
  by_cases e : x.1 = k
  ·rw [if_pos e]; exact e.symm
  ·rw [if_neg e]
 ·rw [if_neg h, if_neg h]; simp
theorem look_none [DecidableEq κ] {m : List (κ × ν)} {k : κ} : mapLook m k = none ↔ k ∉ keysOf m := by
 unfold mapLook keysOf
 rw [Option.map_eq_none_iff, List.find?_eq_none]
 constructor
 ·intro h hk
  obtain ⟨x, hx, rfl⟩ := List.mem_map.1 hk
  exact absurd (decide_eq_true rfl) (h x hx)
 ·intro h x hx hd
  exact h (List.mem_map.2 ⟨x, hx, of_decide_eq_true hd⟩)
theorem nodup_put [DecidableEq κ] {m : List (κ × ν)} (h : (keysOf m).Nodup) (k : κ) (v : ν) : (keysOf (mapPut m k v)).Nodup := by
 rw [keysOf_put]
 split
 ·exact h
 ·rename_i hs
  have hk : k ∉ keysOf m := look_none.1 (by cases hx : mapLook m k with | none => rfl | some y => rw [hx] at hs; exact absurd rfl hs)
  rw [List.nodup_append]
  exact ⟨h, List.nodup_cons.2 ⟨List.not_mem_nil, List.nodup_nil⟩, fun a ha b hb => by rw [List.mem_singleton] at hb; subst hb; rintro rfl; exact hk ha⟩
theorem idx_spec [DecidableEq κ] {m : List (κ × ν)} {k : κ} {i : Nat} (h : (keysOf m).findIdx? (fun x => decide (x = k)) = some i) : ∃ v, m[i]? = some (k, v) ∧ mapLook m k = some v := by
 have hl := look_idx m k
 rw [h] at hl
 rw [List.findIdx?_eq_some_iff_getElem] at h
 obtain ⟨hlt, hd, _⟩ := h
 have hlt' : i < m.length := by unfold keysOf at hlt; rw [List.length_map] at hlt; exact hlt
 have hk : (m[i]'hlt').1 = k := by
  have := of_decide_eq_true hd
  simpa [keysOf] using this
 refine ⟨(m[i]'hlt').2, ?_, ?_⟩
 ·rw [List.getElem?_eq_getElem hlt', ← hk]
 ·rw [hl, Option.bind_some, List.getElem?_eq_getElem hlt']; rfl
theorem put_found [DecidableEq κ] {m : List (κ × ν)} (hn : (keysOf m).Nodup) {k : κ} {i : Nat} (h : (keysOf m).findIdx? (fun x => decide (x = k)) = some i) (v : ν) : mapPut m k v = m.set i (k, v) := by
 obtain ⟨v0, hi, hl⟩ := idx_spec h
 unfold mapPut
 rw [hl, if_pos (show (some v0).isSome = true from rfl)]
 apply List.ext_getElem?
 intro j
 rw [List.getElem?_map, List.getElem?_set]
 have hlt : i < m.length := (List.getElem?_eq_some_iff.1 hi).1
 by_cases hj : i = j
 ·subst hj
  rw [if_pos rfl, if_pos hlt, hi]; simp
 ·rw [if_neg hj]
  cases hx : m[j]? with
  | none => rfl
  | some x =>
   simp only [Option.map_some]
   have hne : ¬ x.1 = k := by
    intro e
    obtain ⟨hjl, hxe⟩ := List.getElem?_eq_some_iff.1 hx
    obtain ⟨_, hie⟩ := List.getElem?_eq_some_iff.1 hi
    have h1 : (keysOf m)[j]'(by unfold keysOf; simpa using hjl) = (keysOf m)[i]'(by unfold keysOf; simpa using hlt) := by
     unfold keysOf
     rw [List.getElem_map, List.getElem_map, hxe, hie, e]
    exact hj ((List.getElem_inj hn).1 h1).symm
   rw [if_neg hne]
theorem put_new [DecidableEq κ] {m : List (κ × ν)} {k : κ} (h : (keysOf m).findIdx? (fun x => decide (x = k)) = none) (v : ν) : mapPut m k v = m ++ [(k, v)] ∧ mapLook m k = none := by
 have hl := look_idx m k
 rw [h] at hl
 unfold mapPut
 rw [hl]
 exact ⟨rfl, rfl⟩
theorem entriesOf_set (m : List (κ × ν)) (i : Nat) (k : κ) (v : ν) (es : Array MapEntry) (he : es.toList = entriesOf encK encV m) : (es.modify i fun e => { e with key := encK k, val := encV v }).toList = entriesOf encK encV (m.set i (k, v)) := by
 apply List.ext_getElem?
 intro j
 rw [Array.getElem?_toList, Array.getElem?_modify, entriesOf_get, List.getElem?_set, ← Array.getElem?_toList, he, entriesOf_get]
 by_cases hj : i = j
 ·subst hj
  rw [if_pos rfl, if_pos rfl]
  by_cases hlt : i < m.length
  ·rw [if_pos hlt, List.getElem?_eq_getElem hlt]; rfl
  ·rw [if_neg hlt, List.getElem?_eq_none (by omega)]; rfl
 ·rw [if_neg hj, if_neg hj]
theorem run_getObj {w : World} {b : Nat} {es : Array MapEntry} {c : Nat} (h : w.heap[b]? = some (.map es c)) : (getObj b).run P w = .ok (.map es c) w := by unfold getObj; simp [Sem.run, h]
theorem run_setObj {w : World} {b : Nat} {es : Array MapEntry} {c : Nat} (h : w.heap[b]? = some (.map es c)) (o : Obj) : (setObj b o).run P w = .ok () { w with heap := w.heap.setIfInBounds b o } := by unfold setObj; simp [Sem.run, h]
theorem run_map_update [DecidableEq κ] (kok : KeyOk P K encK) (ht : P.underlying T = some (.map K E)) {w : World} {b : Nat} {m : List (κ × ν)} (hm : MapIs encK encV w b m) (k : κ) (v : ν) :
  ∃ w', (Instr.mapUpdate T (.map (some b)) (encK k) (encV v)).run P w = .ok () w' ∧ MapIs encK encV w' b (mapPut m k v) ∧ w.grownBy w' (some b) := by
 obtain ⟨es, h1, h2⟩ := hm.entries
 have hf := map_found (w' := w) kok h2 k
 have hsz : es.size = m.length := by rw [← Array.length_toList, h2, entriesOf_length]
 cases hx : (keysOf m).findIdx? (fun x => decide (x = k)) with
 | none =>
  obtain ⟨hp, _⟩ := put_new hx v
  refine ⟨{ w with heap := w.heap.setIfInBounds b (.map (es.push { key := encK k, val := encV v, born := m.length }) (m.length + 1)) }, ?_, hm.put_ (nodup_put hm.nodup k v) ?_ (by rw [hp]; simp)⟩
  ·rw [hx] at hf
   unfold Instr.mapUpdate
   simp only [Sem.run_bind, run_underlying ht, run_getObj h1, Result.andThen_ok, kok.check, hf, Option.bind_none, run_setObj h1]
  ·rw [hp, entriesOf_snoc, Array.toList_push, h2]
 | some i =>
  obtain ⟨v0, hi, hl⟩ := idx_spec hx
  have hp := put_found hm.nodup hx v
  refine ⟨{ w with heap := w.heap.setIfInBounds b (.map (es.modify i fun e => { e with key := encK k, val := encV v }) m.length) }, ?_, hm.put_ (nodup_put hm.nodup k v) ?_ (by rw [hp, List.length_set])⟩
  ·rw [hx] at hf
   have hes : es[i]? = some { key := encK k, val := encV v0, born := i } := by rw [← Array.getElem?_toList, h2, entriesOf_get, hi]; rfl
   unfold Instr.mapUpdate
   simp only [Sem.run_bind, run_underlying ht, run_getObj h1, Result.andThen_ok, kok.check, hf, Option.bind_some, hi, Option.map_some, hes, Option.getD_some, Instr.keyThatStays, kok.same, if_true, Sem.run_pure, run_setObj h1]
  ·rw [hp]; exact entriesOf_set m i k v es h2
end
theorem put_look [DecidableEq κ] (m : List (κ × ν)) (k : κ) (u : ν) : mapLook (mapPut m k u) k = some u := by
 unfold mapPut
 by_cases h : (mapLook m k).isSome = true
 ·rw [if_pos h]
  unfold mapLook at *
  rw [List.find?_map]
  cases hx : m.find? (fun x => decide (x.1 = k)) with
  | none => rw [hx] at h; cases h
  | some y =>
   have : (fun x : κ × ν => decide ((if x.1 = k then (k, u) else x).1 = k)) = (fun x => decide (x.1 = k)) := by
    funext x
    by_cases e : x.1 = k <;> simp [e]
   have h2 : List.find? ((fun x : κ × ν => decide (x.1 = k)) ∘ fun x => if x.1 = k then (k, u) else x) m = some y := by
    rw [← hx]; exact congrArg (fun f => List.find? f m) this
   rw [h2]
   have hy : y.1 = k := of_decide_eq_true (by have := List.find?_some hx; exact this)
   simp [hy]
 ·rw [if_neg h]
  unfold mapLook at *
  rw [List.find?_append]
  cases hx : m.find? (fun x => decide (x.1 = k)) with
  | none => simp
  | some y => rw [hx] at h; exact absurd rfl h
end maps
end Go.Proofs.YtloijngccppfgaaGreat.F
end

section
namespace Go.Proofs.YtloijngccppfgaaGreat.F
open Go.RowKit Go.Proofs.YtloijngccppfgaaGreatW.PrintWords Go.Proofs.YtloijngccppfgaaGreatW.PrintLast Go.Proofs.YtloijngccppfgaaGreatW.PrintMore
attribute [local go_sem] max2_int min2_int max_two min_two max_three min_three max_four min_four
set_option linter.unusedVariables false
set_option linter.unusedSimpArgs false
attribute [local go_sem] Oper.semAt_some
instance decBytes : DecidableEq ByteArray := fun a b => decidable_of_iff (a.data = b.data) ⟨fun h => by cases a; cases b; simp_all, fun h => by rw [h]⟩
theorem beq_bytes (a b : ByteArray) : (a == b) = decide (a = b) := by
 have h : (a == b) = (a.data == b.data) := rfl
 rw [h, Bool.eq_iff_iff]
 simp only [beq_iff_eq, decide_eq_true_iff]
 exact ⟨fun h => by cases a; cases b; simp_all, fun h => by rw [h]⟩
instance lawBytes : LawfulBEq ByteArray where
 eq_of_beq := fun {a b} h => by rw [beq_bytes] at h; simpa using h
 rfl := fun {a} => by rw [beq_bytes]; simp
theorem find_now_string (k : ByteArray) : ∀ (es : List MapEntry) (ks : List ByteArray) (j : Nat), es.map (·.key) = ks.map (fun n => Value.string n) →
  Instr.findNow .string (.string k) es j = some ((ks.findIdx? (fun x => decide (x = k))).bind fun i => es[i]?.map fun e => (j + i, e.val)) := by
 intro es
 induction es with
 | nil =>
  intro ks j h
  obtain rfl : ks = [] := by cases ks <;> simp_all
  rfl
 | cons e es ih =>
  intro ks j h
  cases ks with
  | nil => simp at h
  | cons k' ks =>
   simp only [List.map_cons, List.cons.injEq] at h
   unfold Instr.findNow
   rw [h.1]
   simp only [Instr.sameNow, if_true]
   by_cases hk : k = k'
   ·subst hk
    simp [List.findIdx?_cons, beq_bytes]
   ·have hk' : ¬ k' = k := fun e => hk e.symm
    have hb : (k == k') = false := by rw [beq_bytes]; simpa using hk
    rw [hb]
    simp only [List.findIdx?_cons, decide_eq_false hk', Bool.false_eq_true, if_false]
    rw [ih ks (j + 1) h.2]
    cases ks.findIdx? (fun x => decide (x = k)) with
    | none => rfl
    | some i => simp [Nat.add_assoc, Nat.add_comm 1 i]
theorem key_ok_string {P : Program} {K : TypeId} (hK : P.underlying K = some .string) : KeyOk P K (fun n : ByteArray => Value.string n) where
 check := fun e k w => by unfold Instr.checkKey; simp [Sem.run_bind, run_underlying hK, Result.andThen_ok, Sem.run_pure]
 find := fun k es ks w h => by
  unfold Instr.findKey
  simp only [Sem.run_bind, run_underlying hK, Result.andThen_ok, find_now_string k es ks 0 h, Sem.run_pure]
  simp
 same := fun k => by simp [Instr.sameBits, beq_bytes]
theorem skip_w {n : Nat} {P : Program} {ops : Array Oper} {Q : Exit → Act → World → Prop} {rest : List Oper} {o : Oper} {a : Act} {w : World} (hw : Region.wanted o (yielded ops a.tmps) = false) (h : wpListIn Fence.wide n P ops Q rest (a.put o.dst undef) w) : wpListIn Fence.wide n P ops Q (o :: rest) a w := by
 unfold wpListIn
 rw [hw]
 simp only [Bool.false_eq_true, if_false]
 exact ⟨fun _ _ => trivial, h⟩
def nameOf (v : Vis) : ByteArray := v.n.f0
def onesOf (s : List Vis) : List (ByteArray × Int) := s.map fun v => (nameOf v, 1)
theorem look_ones (s : List Vis) (k : ByteArray) : mapLook (onesOf s) k = if k ∈ s.map nameOf then some 1 else none := by
 induction s with
 | nil => rfl
 | cons v s ih =>
  unfold mapLook onesOf at *
  by_cases h : nameOf v = k
  ·simp [List.find?_cons, h]
  ·have h' : ¬ k = nameOf v := fun e => h e.symm
   simp only [List.map_cons, List.find?_cons, h, decide_false, List.mem_cons, h', false_or]
   exact ih
theorem put_ones (s : List Vis) (v : Vis) (h : nameOf v ∉ s.map nameOf) : mapPut (onesOf s) (nameOf v) 1 = onesOf (s ++ [v]) := by
 unfold mapPut
 rw [look_ones, if_neg h]
 simp [onesOf]
def undoes (v : Vis) : Bool := v.n.f3 || !decide (v.n.f1.toList = [])
def okV (v : Vis) : Bool := undoes v && (decide (v.d ≤ 6) && soundB v.n.f5)
def okAll (s : List Vis) : Bool := decide ((s.map nameOf).Nodup) && s.all okV
theorem okAll_snoc (s : List Vis) (v : Vis) : okAll (s ++ [v]) = (okAll s && (decide (nameOf v ∉ s.map nameOf) && okV v)) := by
 unfold okAll
 rw [List.map_append, List.all_append, List.map_singleton]
 have : (s.map nameOf ++ [nameOf v]).Nodup ↔ (s.map nameOf).Nodup ∧ nameOf v ∉ s.map nameOf := by
  rw [List.nodup_append]
  simp only [List.nodup_cons, List.not_mem_nil, not_false_eq_true, List.nodup_nil, and_self, true_and, List.mem_singleton]
  constructor
  ·rintro ⟨h1, h2⟩
   exact ⟨h1, fun hin => h2 _ hin _ rfl rfl⟩
  ·rintro ⟨h1, h2⟩
   exact ⟨h1, fun a ha b hb e => h2 (by rw [← hb, ← e]; exact ha)⟩
 rw [decide_eq_decide.2 this, Bool.decide_and]
 simp only [List.all_cons, List.all_nil, Bool.and_true]
 cases decide ((s.map nameOf).Nodup) <;> cases s.all okV <;> cases decide (nameOf v ∉ s.map nameOf) <;> simp
theorem okAll_prefix (s t : List Vis) (h : okAll s = false) : okAll (s ++ t) = false := by
 unfold okAll at *
 rw [List.map_append, List.all_append]
 cases hd : decide ((s.map nameOf).Nodup)
 ·have : ¬ (s.map nameOf ++ t.map nameOf).Nodup := fun hn => by rw [List.nodup_append] at hn; rw [decide_eq_true hn.1] at hd; cases hd
  rw [decide_eq_false this]; rfl
 ·rw [hd] at h
  simp only [Bool.true_and] at h
  rw [h]; simp
def RunP (o : Bool) (w : World) (e : Ending) (w' : World) : Prop := Below w.heap.size w w' ∧ (if o then ∃ v, e = .returned v else ∃ why, e = .panicked [{ v := faultV why, recovered := false }])
def runB (r1 r2 : Int) (l : List S110) : Bool := (r1 == 0 && decide (r2 < 64)) && (soundB l && okAll (visAlts 1 l))
theorem wordOk_ : KeyOk Tryz.prog 9 (fun n : ByteArray => Value.string n) := key_ok_string Tryz.underlying9
theorem int_zero_ (w : World) : (zeroValue 3).run Tryz.prog w = .ok (.int .i64 0) w := by kernel_rfl
theorem below_grown {n mp : Nat} {X Y : World} (h : X.grownBy Y (some mp)) (hn : n ≤ mp) (hm : mp < X.heap.size) : Below n X Y :=
 ⟨h.os, h.tape, h.output, h.size, fun k hk => h.block k (by omega) (fun e => by have := Option.some.inj e; omega)⟩
theorem keep_grown {n mp : Nat} {X Y : World} (h : X.grownBy Y (some mp)) (hn : mp < n) : KeepUp n X Y := ⟨h.size, fun k hk hx => h.block k hx (fun e => by have := Option.some.inj e; omega)⟩
structure RunJ (w : World) (A : Option Addr) (c : Nat) (l : List S110) (mp bp : Nat) (s : List Vis) (X : World) : Prop where
 b : Below w.heap.size w X
 ok : okAll s = true
 box : X.heap[mp + 1]? = some (.cells #[.map (some mp)] 171 (0, 0))
 map : MapIs (fun n : ByteArray => Value.string n) (fun n : Int => Value.int .i64 n) X mp (onesOf s)
 d1 : X.heap[bp]? = some (.cells #[.slice A l.length c] 52 (0, 0))
 d2 : X.heap[bp + 1]? = some (.cells #[.int .i64 1] 3 (0, 0))
 lo : w.heap.size ≤ mp
 hi : mp + 2 ≤ bp
theorem RunJ.below {w : World} {A : Option Addr} {c : Nat} {l : List S110} {mp bp n : Nat} {s : List Vis} {X X' : World} (h : RunJ w A c l mp bp s X) (hb : Below n X X') (hn : bp + 2 ≤ n) : RunJ w A c l mp bp s X' := by
 have h1 := h.lo
 have h2 := h.hi
 exact ⟨h.b.trans (hb.mono (by omega)), h.ok, (hb.block _ (by omega)).trans h.box, h.map.of_block (hb.block _ (by omega)), (hb.block _ (by omega)).trans h.d1, (hb.block _ (by omega)).trans h.d2, h1, h2⟩
def RunX (w : World) (l : List S110) (X : World) (ch : List PanicEntry) : Prop := Below w.heap.size w X ∧ okAll (visAlts 1 l) = false ∧ ∃ why, ch = [{ v := faultV why, recovered := false }]
set_option maxHeartbeats 16000000 in
set_option maxRecDepth 100000 in
theorem run_walk (nm : ByteArray) (A : Option Addr) (c : Nat) (l : List S110) (w : World) (hC : k110.C w A l.length l) (hc : l.length ≤ c) (k : Nat) (r1 r2 : Int) (h1 : syntax_Check.f k nm l = some r1) (h2 : syntax_Count.f k nm l = some r2) :
  Calls Tryz.prog 81 #[.agg #[.string nm, .slice A l.length c]] w (RunP (runB r1 r2 l) w) := by
 have HC0 := Aside0.mk hC
 have HCA := Aside0.mk (Kd.C_alloc hC (.cells #[.string nm, .slice A l.length c] 54 (0, 0)))
 have HL := Aside0.mk hc
 have HM := Aside0.mk (Kd.C_max hC)
 have H1 := Aside0.mk h1
 have H2 := Aside0.mk h2
 have HG := Aside0.mk (blk_new w (.cells #[.string nm, .slice A l.length c] 54 (0, 0)))
 have HB := Aside0.mk (below_alloc (Below.refl w.heap.size w) (.cells #[.string nm, .slice A l.length c] 54 (0, 0)))
 clear hC hc h1 h2
 refine (callsIn_wide (n := 0)).1 ?_
 refine callsIn_of_wpB Tryz.func81 rfl ?_
 simp only [Tryz.ntmps81, List.size_toArray, List.length_cons, List.length_nil, Nat.reduceAdd, Nat.reduceSub, Array.replicate_succ, Array.replicate_zero, List.push_toArray, List.append_toArray, List.nil_append, List.cons_append]
 refine wpB_seq_k (fun K hK => ?_); gi_wp2; refine hK.out _ _ ?_; clear hK K
 have HCB := HCA
 obtain ⟨bo, hbo⟩ : ∃ bo, (r1 == 0 && decide (r2 < 64)) = bo := ⟨_, rfl⟩
 have HBO := Aside0.mk hbo
 have HFA : Aside0 (bo = false → runB r1 r2 l = false) := ⟨fun h => by unfold runB; rw [HBO.out, h]; rfl⟩
 have HTR : Aside0 (bo = true → runB r1 r2 l = (soundB l && okAll (visAlts 1 l))) := ⟨fun h => by unfold runB; rw [HBO.out, h]; rfl⟩
 have HFW : Aside0 (∀ (o : Bool) (why : ByteArray) (W : World), o = false → Below w.heap.size w W → RunP o w (.panicked [{ v := faultV why, recovered := false }]) W) := ⟨fun o why W ho hB => ⟨hB, by rw [ho]; exact ⟨why, rfl⟩⟩⟩
 clear hbo
 by_cases hr1 : r1 = 0
 ·have hx1 : (r1 == 0) = true := by simpa using hr1
  clear hr1
  refine wpB_seq_k (fun K hK => ?_)
  gi_wp2
  refine ⟨trivial, rfl, (callsIn_wide.2 (syntax_Check.calls k nm A c l r1 _ HCA.out HL.out H1.out)).mono ?_⟩
  rintro e w2 ⟨rfl, hb⟩
  have HB2 := Aside0.mk (HB.out.trans (hb.mono (by simp)))
  have HG2 := Aside0.mk (blk_below HG.out hb)
  have HC2 := Aside0.mk (Kd.C_below HCA.out hb)
  have c20 : w2.cell? ⟨w.heap.size, 0, none⟩ = some (.string nm) := (blk_cell HG2.out 0).trans rfl
  have c21 : w2.cell? ⟨w.heap.size, 1, none⟩ = some (.slice A l.length c) := (blk_cell HG2.out 1).trans rfl
  clear hb
  gi_wp2
  refine ⟨trivial, rfl, (callsIn_wide.2 (syntax_Count.calls k nm A c l r2 _ HC2.out HL.out H2.out)).mono ?_⟩
  rintro e w3 ⟨rfl, hb⟩
  (have HB3 := Aside0.mk (HB2.out.trans (hb.mono HB2.out.size)); have HG3 := Aside0.mk (blk_below HG2.out hb); have HC3 := Aside0.mk (Kd.C_below HC2.out hb); have c30 : w3.cell? ⟨w.heap.size, 0, none⟩ = some (.string nm) := (blk_cell HG3.out 0).trans rfl; have c31 : w3.cell? ⟨w.heap.size, 1, none⟩ = some (.slice A l.length c) := (blk_cell HG3.out 1).trans rfl; clear hb)
  by_cases h64 : r2 < 64
  ·have hbt : bo = true := by rw [← HBO.out, hx1]; simpa using h64
   have hd64 : decide (r2 < 64) = true := decide_eq_true h64
   have HT2 := Aside0.mk (HTR.out hbt)
   clear hbt hx1 h64
   gi_wp2
   refine ⟨trivial, rfl, (callsIn_wide.2 (must_yes _ _)).mono ?_⟩
   rintro e w3' ⟨rfl, rfl⟩
   gi_wp2
   refine hK.out _ _ ?_
   clear hK K
   refine wpB_seq_k (fun K hK => ?_)
   gi_wp2
   refine ⟨trivial, rfl, (callsIn_wide.2 (sound_walk A c l _ HC3.out HL.out)).mono ?_⟩
   rintro e w4 ⟨hb, he⟩
   (have HB4 := Aside0.mk (HB3.out.trans (hb.mono HB3.out.size)); have HG4 := Aside0.mk (blk_below HG3.out hb); have HC4 := Aside0.mk (Kd.C_below HC3.out hb); have c40 : w4.cell? ⟨w.heap.size, 0, none⟩ = some (.string nm) := (blk_cell HG4.out 0).trans rfl; have c41 : w4.cell? ⟨w.heap.size, 1, none⟩ = some (.slice A l.length c) := (blk_cell HG4.out 1).trans rfl; clear hb)
   by_cases hs : soundB l = true
   ·rw [if_pos hs] at he
    subst he
    have HT3 : Aside0 (runB r1 r2 l = okAll (visAlts 1 l)) := ⟨by rw [HT2.out, hs]; rfl⟩
    clear hs
    gi_wp2
    refine hK.out _ _ ?_
    clear hK K
    have hmm := @run_makeMap Tryz.prog
    refine wpB_seq_k (fun K hK => ?_)
    gi_wp2
    refine hK.out _ _ ?_
    clear hK K hmm
    obtain ⟨mp, hmp⟩ : ∃ mp, w4.heap.size = mp := ⟨_, rfl⟩
    have HMP := Aside0.mk hmp
    have hM5 := (MapIs.made (fun n : ByteArray => Value.string n) (fun n : Int => Value.int .i64 n) w4).alloc (.cells #[.map (some w4.heap.size)] 171 (0, 0))
    have hX5 := blk_new (w4.alloc (.map #[] 0)) (.cells #[.map (some w4.heap.size)] 171 (0, 0))
    have hB5 := ((Below.refl w4.heap.size w4).alloc (Nat.le_refl _) (.map #[] 0)).alloc (by simp) (.cells #[.map (some w4.heap.size)] 171 (0, 0))
    have hS5 : ((w4.alloc (.map #[] 0)).alloc (.cells #[.map (some w4.heap.size)] 171 (0, 0))).heap.size = w4.heap.size + 2 := by simp
    rw [World.size_alloc] at hX5
    obtain ⟨w5, hw5⟩ : ∃ w5, (w4.alloc (.map #[] 0)).alloc (.cells #[.map (some w4.heap.size)] 171 (0, 0)) = w5 := ⟨_, rfl⟩
    rw [hw5] at hM5 hX5 hB5 hS5
    rw [hmp] at hM5 hX5 hS5
    have HB5 := Aside0.mk (HB4.out.trans (hB5.mono HB4.out.size))
    have c51 : w5.cell? ⟨w.heap.size, 1, none⟩ = some (.slice A l.length c) := (blk_cell (blk_below HG4.out hB5) 1).trans rfl
    have HM5 := Aside0.mk hM5
    have HX5 := Aside0.mk hX5
    have HS5 := Aside0.mk hS5
    have HLO : Aside0 (w.heap.size ≤ mp) := ⟨by rw [← hmp]; exact HB4.out.size⟩
    show wpB _ _ _ _ _ _
    rw [hw5, hmp]
    clear hM5 hX5 hB5 hS5 hw5 hmp c40 c41 c30 c31 c20 c21 hd64
    refine wpB_seq_k (fun K hK => ?_)
    gi_wp2
    refine ⟨trivial, rfl, (nodes_call A l.length c 1 w5).mono ?_⟩
    rintro e w6 ⟨rfl, hX6⟩
    have HX6 := Aside0.mk hX6
    clear hX6
    gi_wp2
    refine hK.out _ _ ?_
    clear hK K c51
    obtain ⟨bp, hbp⟩ : ∃ bp, w5.heap.size = bp := ⟨_, rfl⟩
    have HS6 : Aside0 (w6.heap.size = bp + 2) := ⟨by rw [HX6.out, ← hbp]; simp⟩
    have hb6 : Below w5.heap.size w5 w6 := by rw [HX6.out]; exact ((Below.refl _ w5).alloc (Nat.le_refl _) _).alloc (by simp) _
    have hc1 : w6.heap[bp]? = some (.cells #[.slice A l.length c] 52 (0, 0)) := by rw [HX6.out, ← hbp]; exact (Below.heap_alloc _ _ _ (by simp)).trans (blk_new w5 _)
    have hc2 : w6.heap[bp + 1]? = some (.cells #[.int .i64 1] 3 (0, 0)) := by rw [HX6.out, ← hbp]; have := blk_new (w5.alloc (.cells #[.slice A l.length c] 52 (0, 0))) (.cells #[.int .i64 1] 3 (0, 0)); rwa [World.size_alloc] at this
    have HJ0 : Aside0 (RunJ w A c l mp bp [] w6) := ⟨⟨HB5.out.trans (hb6.mono HB5.out.size), rfl, blk_below HX5.out hb6, HM5.out.below hb6, hc1, hc2, HLO.out, by have := HS5.out; omega⟩⟩
    rw [hbp]
    clear hb6 hc1 hc2 hbp HX6
    refine wpB_block ?_
    refine wpB_rangeFuncP (gf := 134) (lb := #[.pointer (some ⟨bp, 0, none⟩), .pointer (some ⟨bp + 1, 0, none⟩)]) rfl (enters_of Tryz.func134 (by kernel_rfl) rfl) ⟨_, Tryz.func81⟩ (nodes_iter l 1 A c bp (bp + 1) w HC0.out HL.out) ?hsz
     (RunJ w A c l mp bp) (RunX w l) ?h0 ?hD ?hst ?hstp ?hround ?hdone ?hpanic
    case hsz => rintro v args ⟨_, _, _, _, _, _, rfl, _⟩; rfl
    case h0 => exact HJ0.out
    case hD => exact fun s X h => ⟨h.b, h.d1, h.d2⟩
    case hst => exact fun s X X' h hb => h.below hb (Nat.le_of_eq HS6.out.symm)
    case hstp => exact fun X X' ch h hb => ⟨h.1.trans (hb.mono (by have h1 := HJ0.out.lo; have h2 := HJ0.out.hi; have h3 := HS6.out; omega)), h.2⟩
    case hround =>
     rintro ly s v t args X hS hl1 hl2 hJ hv
     obtain ⟨A2', c2', A5', c5', A6', c6', rfl, hvl2, hvC2, hvl5, hvC5⟩ := hv
     have HJ := Aside0.mk hJ
     have HS := Aside0.mk hS
     have HL1 := Aside0.mk hl1
     have HL2 := Aside0.mk hl2
     have HV5 := Aside0.mk hvl5
     have HVC := Aside0.mk hvC5
     clear hS hl1 hl2 hJ hvl2 hvC2 hvl5 hvC5
     gi_wp2
     refine ⟨(Below.refl X.heap.size X).alloc (Nat.le_refl _) _, ?_⟩
     intro X4 hku hbl
     have hl3 : bp + 2 ≤ ly := by have h1 := HS6.out; have h2 := HL1.out; omega
     have hb14 : Below (bp + 2) X X4 := (((Below.refl X.heap.size X).alloc (Nat.le_refl _) _).mono (by have h2 := HL2.out; omega)).trans (hbl.mono hl3)
     have HJ4 := Aside0.mk (HJ.out.below hb14 (Nat.le_refl _))
     have hVB := hku.blk HL2.out (blk_new X (.cells #[.string v.n.f0, .string v.n.f1, .slice A2' v.n.f2.length c2', .bool v.n.f3, .bool v.n.f4, .slice A5' v.n.f5.length c5', .slice A6' v.b.f0.length c6', .int .i64 v.d] 175 (0, 0)))
     have HVB := Aside0.mk hVB
     have HNE : Aside0 (X.heap.size ≠ mp ∧ mp + 1 ≠ mp) := ⟨by have h1 := HJ.out.hi; have h2 := HL1.out; have h3 := HL2.out; omega⟩
     have q0 : X4.cell? ⟨X.heap.size, 0, none⟩ = some (.string v.n.f0) := (blk_cell hVB 0).trans rfl
     have q1 : X4.cell? ⟨X.heap.size, 1, none⟩ = some (.string v.n.f1) := (blk_cell hVB 1).trans rfl
     have q2 : X4.cell? ⟨X.heap.size, 2, none⟩ = some (.slice A2' v.n.f2.length c2') := (blk_cell hVB 2).trans rfl
     have q3 : X4.cell? ⟨X.heap.size, 3, none⟩ = some (.bool v.n.f3) := (blk_cell hVB 3).trans rfl
     have q4 : X4.cell? ⟨X.heap.size, 4, none⟩ = some (.bool v.n.f4) := (blk_cell hVB 4).trans rfl
     have q5 : X4.cell? ⟨X.heap.size, 5, none⟩ = some (.slice A5' v.n.f5.length c5') := (blk_cell hVB 5).trans rfl
     have q6 : X4.cell? ⟨X.heap.size, 6, none⟩ = some (.slice A6' v.b.f0.length c6') := (blk_cell hVB 6).trans rfl
     have q7 : X4.cell? ⟨X.heap.size, 7, none⟩ = some (.int .i64 v.d) := (blk_cell hVB 7).trans rfl
     have cm : X4.cell? ⟨mp + 1, 0, none⟩ = some (.map (some mp)) := (blk_cell HJ4.out.box 0).trans rfl
     have hl1 := run_map_lookup wordOk_ Tryz.underlying171 int_zero_ HJ4.out.map v.n.f0 false
     rw [look_ones] at hl1
     clear hku hbl hl3 hb14 hVB
     by_cases hin : v.n.f0 ∈ s.map nameOf
     ·rw [if_pos hin] at hl1
      change (Instr.lookup 171 (.map (some mp)) (.string v.n.f0) false).run Tryz.prog X4 = .ok (.int .i64 1) X4 at hl1
      have HIN := Aside0.mk hin
      obtain ⟨X5, hup, hM5, hg5⟩ := run_map_update wordOk_ Tryz.underlying171 HJ4.out.map v.n.f0 (2 : Int)
      change (Instr.mapUpdate 171 (.map (some mp)) (.string v.n.f0) (.int .i64 2)).run Tryz.prog X4 = .ok () X5 at hup
      have hl2 := run_map_lookup wordOk_ Tryz.underlying171 int_zero_ hM5 v.n.f0 false
      rw [put_look] at hl2
      change (Instr.lookup 171 (.map (some mp)) (.string v.n.f0) false).run Tryz.prog X5 = .ok (.int .i64 2) X5 at hl2
      have hVB5 : X5.heap[X.heap.size]? = _ := (hg5.block _ (lt_of_blk_ HVB.out) (fun e => HNE.out.1 (Option.some.inj e))).trans HVB.out
      have p0 : X5.cell? ⟨X.heap.size, 0, none⟩ = some (.string v.n.f0) := (blk_cell hVB5 0).trans rfl
      have p1 : X5.cell? ⟨X.heap.size, 1, none⟩ = some (.string v.n.f1) := (blk_cell hVB5 1).trans rfl
      have p2 : X5.cell? ⟨X.heap.size, 2, none⟩ = some (.slice A2' v.n.f2.length c2') := (blk_cell hVB5 2).trans rfl
      have p3 : X5.cell? ⟨X.heap.size, 3, none⟩ = some (.bool v.n.f3) := (blk_cell hVB5 3).trans rfl
      have p4 : X5.cell? ⟨X.heap.size, 4, none⟩ = some (.bool v.n.f4) := (blk_cell hVB5 4).trans rfl
      have p5 : X5.cell? ⟨X.heap.size, 5, none⟩ = some (.slice A5' v.n.f5.length c5') := (blk_cell hVB5 5).trans rfl
      have p6 : X5.cell? ⟨X.heap.size, 6, none⟩ = some (.slice A6' v.b.f0.length c6') := (blk_cell hVB5 6).trans rfl
      have p7 : X5.cell? ⟨X.heap.size, 7, none⟩ = some (.int .i64 v.d) := (blk_cell hVB5 7).trans rfl
      have cm5 : X5.cell? ⟨mp + 1, 0, none⟩ = some (.map (some mp)) := (blk_cell ((hg5.block _ (lt_of_blk_ HJ4.out.box) (fun e => HNE.out.2 (Option.some.inj e))).trans HJ4.out.box) 0).trans rfl
      have HG5 := Aside0.mk hg5
      clear hVB5 hM5 hg5 hin
      gi_wp2
      refine ⟨trivial, rfl, (show CallsIn (Fence.wide.inRound ly) 0 _ _ _ _ _ from callsIn_wide.2 (must_no _ _)).mono ?_⟩
      rintro e X6 ⟨rfl, rfl⟩
      have h2 := HJ4.out.hi
      have h3 := HS6.out
      exact ⟨rfl, keep_grown HG5.out (by omega), HJ4.out.b.trans (below_grown HG5.out HJ4.out.lo HJ4.out.map.lt), by rw [HS.out, show s ++ v :: t = (s ++ [v]) ++ t from by simp]; exact okAll_prefix _ _ (by rw [okAll_snoc, decide_eq_false (fun h => h HIN.out)]; simp), _, rfl⟩
     ·rw [if_neg hin] at hl1
      change (Instr.lookup 171 (.map (some mp)) (.string v.n.f0) false).run Tryz.prog X4 = .ok (.int .i64 0) X4 at hl1
      obtain ⟨X5, hup, hM5, hg5⟩ := run_map_update wordOk_ Tryz.underlying171 HJ4.out.map v.n.f0 (1 : Int)
      change (Instr.mapUpdate 171 (.map (some mp)) (.string v.n.f0) (.int .i64 1)).run Tryz.prog X4 = .ok () X5 at hup
      have hl2 := run_map_lookup wordOk_ Tryz.underlying171 int_zero_ hM5 v.n.f0 false
      rw [put_look] at hl2
      change (Instr.lookup 171 (.map (some mp)) (.string v.n.f0) false).run Tryz.prog X5 = .ok (.int .i64 1) X5 at hl2
      rw [show mapPut (onesOf s) v.n.f0 1 = onesOf (s ++ [v]) from put_ones s v hin] at hM5
      have hVB5 : X5.heap[X.heap.size]? = _ := (hg5.block _ (lt_of_blk_ HVB.out) (fun e => HNE.out.1 (Option.some.inj e))).trans HVB.out
      have p0 : X5.cell? ⟨X.heap.size, 0, none⟩ = some (.string v.n.f0) := (blk_cell hVB5 0).trans rfl
      have p1 : X5.cell? ⟨X.heap.size, 1, none⟩ = some (.string v.n.f1) := (blk_cell hVB5 1).trans rfl
      have p2 : X5.cell? ⟨X.heap.size, 2, none⟩ = some (.slice A2' v.n.f2.length c2') := (blk_cell hVB5 2).trans rfl
      have p3 : X5.cell? ⟨X.heap.size, 3, none⟩ = some (.bool v.n.f3) := (blk_cell hVB5 3).trans rfl
      have p4 : X5.cell? ⟨X.heap.size, 4, none⟩ = some (.bool v.n.f4) := (blk_cell hVB5 4).trans rfl
      have p5 : X5.cell? ⟨X.heap.size, 5, none⟩ = some (.slice A5' v.n.f5.length c5') := (blk_cell hVB5 5).trans rfl
      have p6 : X5.cell? ⟨X.heap.size, 6, none⟩ = some (.slice A6' v.b.f0.length c6') := (blk_cell hVB5 6).trans rfl
      have p7 : X5.cell? ⟨X.heap.size, 7, none⟩ = some (.int .i64 v.d) := (blk_cell hVB5 7).trans rfl
      have cm5 : X5.cell? ⟨mp + 1, 0, none⟩ = some (.map (some mp)) := (blk_cell ((hg5.block _ (lt_of_blk_ HJ4.out.box) (fun e => HNE.out.2 (Option.some.inj e))).trans HJ4.out.box) 0).trans rfl
      have h2 := HJ4.out.hi
      have h3 := HS6.out
      have hB45 : Below w.heap.size w X5 := HJ4.out.b.trans (below_grown hg5 HJ4.out.lo HJ4.out.map.lt)
      have HK5 := Aside0.mk (keep_grown (n := w6.heap.size) hg5 (by omega))
      have HC5 := Aside0.mk (Kd.C_below HVC.out hB45)
      have HOK : Aside0 (okAll (s ++ [v]) = okV v) := ⟨by rw [okAll_snoc, HJ4.out.ok, decide_eq_true (show nameOf v ∉ s.map nameOf from hin)]; simp⟩
      have HBAD : Aside0 (okV v = false → ∀ (X' : World) (why : ByteArray), Below X5.heap.size X5 X' → KeepUp w6.heap.size X4 X' ∧ RunX w l X' [{ v := faultV why, recovered := false }]) := ⟨fun hv X' why hb => ⟨HK5.out.trans (KeepUp.of_below hb (Nat.le_refl _)), hB45.trans (hb.mono hB45.size), by rw [HS.out, show s ++ v :: t = (s ++ [v]) ++ t from by simp]; exact okAll_prefix _ _ (HOK.out.trans hv), _, rfl⟩⟩
      have HGOOD : Aside0 (okV v = true → ∀ X' : World, Below X5.heap.size X5 X' → KeepUp w6.heap.size X4 X' ∧ RunJ w A c l mp bp (s ++ [v]) X') := ⟨fun hv X' hb => by
       have hz := HJ4.out
       have hsz := hg5.size
       have l1 := lt_of_blk_ hz.box
       have l2 := lt_of_blk_ hz.d1
       have l3 := lt_of_blk_ hz.d2
       refine ⟨HK5.out.trans (KeepUp.of_below hb (Nat.le_refl _)), hB45.trans (hb.mono hB45.size), HOK.out.trans hv, ?_, hM5.of_block (hb.block _ (Nat.lt_of_lt_of_le hz.map.lt hsz)), ?_, ?_, hz.lo, hz.hi⟩
       ·exact (hb.block _ (by omega)).trans ((hg5.block _ l1 (fun e => by have := Option.some.inj e; omega)).trans hz.box)
       ·exact (hb.block _ (by omega)).trans ((hg5.block _ l2 (fun e => by have := Option.some.inj e; omega)).trans hz.d1)
       ·exact (hb.block _ (by omega)).trans ((hg5.block _ l3 (fun e => by have := Option.some.inj e; omega)).trans hz.d2)⟩
      clear hVB5 hM5 hg5 hin h2 h3 hB45
      gi_wp2
      refine ⟨trivial, rfl, (show CallsIn (Fence.wide.inRound ly) 0 _ _ _ _ _ from callsIn_wide.2 (must_yes _ _)).mono ?_⟩
      rintro e X6 ⟨rfl, rfl⟩
      clear hl1 hl2 hup cm cm5 q0 q1 q2 q3 q4 q5 q6 q7
      obtain ⟨b3, hb3⟩ : ∃ b3, v.n.f3 = b3 := ⟨_, rfl⟩
      obtain ⟨g1, hg1⟩ : ∃ g1, v.n.f1 = g1 := ⟨_, rfl⟩
      have HUD : Aside0 (undoes v = (b3 || !decide (g1.toList = []))) := ⟨by rw [← hb3, ← hg1]; rfl⟩
      rw [hb3] at p3
      rw [hg1] at p1
      clear hb3 hg1
      cases b3
      ·by_cases h1 : g1.toList = []
       ·have HU : Aside0 (undoes v = false) := ⟨by rw [HUD.out, decide_eq_true h1]; rfl⟩
        gi_wp2
        refine ⟨trivial, rfl, (show CallsIn (Fence.wide.inRound ly) 0 _ _ _ _ _ from callsIn_wide.2 (must_no _ _)).mono ?_⟩
        rintro e X7 ⟨rfl, rfl⟩
        have HU2 : Aside0 (okV v = false) := ⟨by unfold okV; rw [HU.out]; rfl⟩
        exact ⟨rfl, (HBAD.out HU2.out _ ⟨#[]⟩ (Below.refl _ _)).1, (HBAD.out HU2.out _ _ (Below.refl _ _)).2⟩
       ·have HU : Aside0 (undoes v = true) := ⟨by rw [HUD.out, decide_eq_false h1]; rfl⟩
        have hx1 : g1.toList.isEmpty = false := by cases hh : g1.toList with | nil => exact absurd hh h1 | cons _ _ => rfl
        clear h1
        gi_wp2
        refine ⟨trivial, rfl, (show CallsIn (Fence.wide.inRound ly) 0 _ _ _ _ _ from callsIn_wide.2 (must_yes _ _)).mono ?_⟩
        rintro e X7 ⟨rfl, rfl⟩
        by_cases hd6 : v.d ≤ 6
        ·have hx6 : decide (v.d ≤ 6) = true := decide_eq_true hd6
         have HU2 : Aside0 (okV v = soundB v.n.f5) := ⟨by unfold okV; rw [HU.out, hx6]; rfl⟩
         gi_wp2
         refine ⟨trivial, rfl, (show CallsIn (Fence.wide.inRound ly) 0 _ _ _ _ _ from callsIn_wide.2 (must_yes _ _)).mono ?_⟩
         rintro e X8 ⟨rfl, rfl⟩
         clear hx6 hd6
         gi_wp2
         refine ⟨trivial, rfl, (show CallsIn (Fence.wide.inRound ly) 0 _ _ _ _ _ from callsIn_wide.2 (sound_walk A5' c5' v.n.f5 _ HC5.out HV5.out)).mono ?_⟩
         rintro e X9 ⟨hb, he⟩
         by_cases hs5 : soundB v.n.f5 = true
         ·rw [if_pos hs5] at he
          subst he
          have hh := HGOOD.out (HU2.out.trans hs5) _ hb
          have HH := Aside0.mk hh
          clear hh hb hs5
          gi_wp2
          exact HH.out
         ·rw [if_neg hs5] at he
          obtain ⟨why, rfl⟩ := he
          have hh := HBAD.out (by rw [HU2.out]; simpa using hs5) X9 why hb
          exact ⟨rfl, hh.1, hh.2⟩
        ·have hx6 : decide (v.d ≤ 6) = false := decide_eq_false hd6
         have HU2 : Aside0 (okV v = false) := ⟨by unfold okV; rw [HU.out, hx6]; rfl⟩
         gi_wp2
         refine ⟨trivial, rfl, (show CallsIn (Fence.wide.inRound ly) 0 _ _ _ _ _ from callsIn_wide.2 (must_no _ _)).mono ?_⟩
         rintro e X8 ⟨rfl, rfl⟩
         exact ⟨rfl, (HBAD.out HU2.out _ ⟨#[]⟩ (Below.refl _ _)).1, (HBAD.out HU2.out _ _ (Below.refl _ _)).2⟩
      ·have HU : Aside0 (undoes v = true) := ⟨by rw [HUD.out]; rfl⟩
       gi_wp2
       refine ⟨trivial, rfl, (show CallsIn (Fence.wide.inRound ly) 0 _ _ _ _ _ from callsIn_wide.2 (must_yes _ _)).mono ?_⟩
       rintro e X7 ⟨rfl, rfl⟩
       by_cases hd6 : v.d ≤ 6
       ·have hx6 : decide (v.d ≤ 6) = true := decide_eq_true hd6
        have HU2 : Aside0 (okV v = soundB v.n.f5) := ⟨by unfold okV; rw [HU.out, hx6]; rfl⟩
        gi_wp2
        refine ⟨trivial, rfl, (show CallsIn (Fence.wide.inRound ly) 0 _ _ _ _ _ from callsIn_wide.2 (must_yes _ _)).mono ?_⟩
        rintro e X8 ⟨rfl, rfl⟩
        clear hx6 hd6
        gi_wp2
        refine ⟨trivial, rfl, (show CallsIn (Fence.wide.inRound ly) 0 _ _ _ _ _ from callsIn_wide.2 (sound_walk A5' c5' v.n.f5 _ HC5.out HV5.out)).mono ?_⟩
        rintro e X9 ⟨hb, he⟩
        by_cases hs5 : soundB v.n.f5 = true
        ·rw [if_pos hs5] at he
         subst he
         have hh := HGOOD.out (HU2.out.trans hs5) _ hb
         have HH := Aside0.mk hh
         clear hh hb hs5
         gi_wp2
         exact HH.out
        ·rw [if_neg hs5] at he
         obtain ⟨why, rfl⟩ := he
         have hh := HBAD.out (by rw [HU2.out]; simpa using hs5) X9 why hb
         exact ⟨rfl, hh.1, hh.2⟩
       ·have hx6 : decide (v.d ≤ 6) = false := decide_eq_false hd6
        have HU2 : Aside0 (okV v = false) := ⟨by unfold okV; rw [HU.out, hx6]; rfl⟩
        gi_wp2
        refine ⟨trivial, rfl, (show CallsIn (Fence.wide.inRound ly) 0 _ _ _ _ _ from callsIn_wide.2 (must_no _ _)).mono ?_⟩
        rintro e X8 ⟨rfl, rfl⟩
        exact ⟨rfl, (HBAD.out HU2.out _ ⟨#[]⟩ (Below.refl _ _)).1, (HBAD.out HU2.out _ _ (Below.refl _ _)).2⟩
    case hdone =>
     intro d Wd hd hJd hmark
     refine leaves_marks (B := w6.heap.size) .returning (by simp) [d] Wd (Marks.cons (Marks.nil _ _) hd (by simp) hmark) (fun W' hW' => ?_)
     exact ⟨.tuple #[], results_none rfl _ _ _, hJd.b.trans (hW'.mono (by have h1 := HJ0.out.lo; have h2 := HJ0.out.hi; have h3 := HS6.out; omega)), by rw [HT3.out, hJd.ok]; exact ⟨_, rfl⟩⟩
    case hpanic =>
     intro d ch Wd hd hJd hmark
     refine leaves_marks (B := w6.heap.size) (.panicking ch) (by simp) [d] Wd (Marks.cons (Marks.nil _ _) hd (by simp) hmark) (fun W' hW' => ?_)
     obtain ⟨h1, h2, why, rfl⟩ := hJd
     exact HFW.out _ why _ (by rw [HT3.out, h2]) (h1.trans (hW'.mono (by have h1 := HJ0.out.lo; have h2 := HJ0.out.hi; have h3 := HS6.out; omega)))
   ·rw [if_neg hs] at he
    obtain ⟨why, rfl⟩ := he
    exact HFW.out _ why _ (by rw [HT2.out]; simp [hs]) HB4.out
  ·have hbf : bo = false := by rw [← HBO.out, hx1]; simpa using h64
   have hd64 : decide (r2 < 64) = false := decide_eq_false h64
   gi_wp2
   refine ⟨trivial, rfl, (callsIn_wide.2 (must_no _ _)).mono ?_⟩
   rintro e w3' ⟨rfl, rfl⟩
   exact HFW.out _ _ _ (HFA.out hbf) HB3.out
 ·have hx1 : (r1 == 0) = false := by simpa using hr1
  have hbf : bo = false := by rw [← HBO.out, hx1]; rfl
  clear hr1
  refine wpB_seq_k (fun K hK => ?_)
  gi_wp2
  refine ⟨trivial, rfl, (callsIn_wide.2 (syntax_Check.calls k nm A c l r1 _ HCA.out HL.out H1.out)).mono ?_⟩
  rintro e w2 ⟨rfl, hb⟩
  have HB2 := Aside0.mk (HB.out.trans (hb.mono (by simp)))
  clear hb
  gi_wp2_with (refine skip_w (by rfl) ?_)
  refine ⟨trivial, rfl, (callsIn_wide.2 (must_no _ _)).mono ?_⟩
  rintro e w3' ⟨rfl, rfl⟩
  exact HFW.out _ _ _ (HFA.out hbf) HB2.out
end Go.Proofs.YtloijngccppfgaaGreat.F
end

section
namespace Go.Proofs.YtloijngccppfgaaGreat.F
open Go.RowKit Go.Proofs.YtloijngccppfgaaGreatW.PrintWords Go.Proofs.YtloijngccppfgaaGreatW.PrintLast Go.Proofs.YtloijngccppfgaaGreatW.PrintMore
attribute [local go_sem] max2_int min2_int max_two min_two max_three min_three max_four min_four
set_option linter.unusedVariables false
set_option linter.unusedSimpArgs false
set_option maxHeartbeats 2000000 in
set_option maxRecDepth 100000 in
theorem guarded_idle (p : Addr) (w : World) :
  CallsD Tryz.prog 107 #[.pointer (some p)] .returning w fun e u' w' => e = .returned (.tuple #[]) ∧ u' = .returning ∧ w' = w := by
 refine callsD_of_wpS Tryz.func107 rfl fun c₀ cs hu => ?_
 apply wpS_seq
 apply wpS_region
 simp [wpOpsS, go_sem, recoverD, hu, Tryz.ntmps107, Exit.thenS]
 refine wpS_of_wp ?_
 go_wp2
 cases c₀
 simp_all [bodyPostS, results, Tryz.results107, go_sem]
theorem ta_fault (why : ByteArray) (w : World) : (Instr.typeAssert (.iface 167 (.string why)) 20 167 false).run Tryz.prog w = .ok (.string why) w := by kernel_rfl
set_option maxHeartbeats 4000000 in
set_option maxRecDepth 100000 in
theorem guarded_fault (why : ByteArray) (g : Nat) (x : Bool) (w : World) (hg : w.heap[g]? = some (.cells #[.bool x] 4 (0, 0))) :
  CallsD Tryz.prog 107 #[.pointer (some ⟨g, 0, none⟩)] (.panicking [{ v := faultV why, recovered := false }]) w fun e u' w' => e = .returned (.tuple #[]) ∧ u' = .panicking [{ v := faultV why, recovered := true }] ∧ w' = w.setCell ⟨g, 0, none⟩ (.bool false) := by
 have hz := blk_frozen hg 0
 have hc : w.cell? ⟨g, 0, none⟩ = some (.bool x) := (blk_cell hg 0).trans rfl
 clear hg
 refine callsD_of_wpS Tryz.func107 rfl fun c₀ cs hu => ?_
 apply wpS_seq
 apply wpS_region
 simp [wpOpsS, go_sem, recoverD, hu, Tryz.ntmps107, Exit.thenS, faultV]
 refine wpS_of_wp ?_
 clear hu
 have h1 := ta_fault
 go_wp2
 cases c₀
 simp_all [bodyPostS, results, Tryz.results107, go_sem]
theorem run_lit (g : Nat) (nm : ByteArray) (A : Option Addr) (c : Nat) (l : List S110) (w : World) (hg : w.heap[g]? = some (.cells #[.string nm, .slice A l.length c] 54 (0, 0))) (hC : k110.C w A l.length l) (hc : l.length ≤ c) (k : Nat) (r1 r2 : Int) (h1 : syntax_Check.f k nm l = some r1) (h2 : syntax_Count.f k nm l = some r2) :
  Calls Tryz.prog 80 #[.pointer (some ⟨g, 0, none⟩)] w (RunP (runB r1 r2 l) w) := by
 have q0 : w.cell? ⟨g, 0, none⟩ = some (.string nm) := (blk_cell hg 0).trans rfl
 have q1 : w.cell? ⟨g, 1, none⟩ = some (.slice A l.length c) := (blk_cell hg 1).trans rfl
 have HR := Aside0.mk (run_walk nm A c l w hC hc k r1 r2 h1 h2)
 clear hg hC hc h1 h2
 obtain ⟨o, ho⟩ : ∃ o, runB r1 r2 l = o := ⟨_, rfl⟩
 rw [ho] at HR ⊢
 clear ho
 cases o
 ·go_enter Tryz.func80, Tryz.ntmps80
  go_wp2_with (go_at_call 81; refine HR.out.mono ?_; rintro e w2 ⟨hb, he⟩; rw [if_neg (by simp)] at he; obtain ⟨why, rfl⟩ := he)
  exact ⟨rfl, hb, why, rfl⟩
 ·go_enter Tryz.func80, Tryz.ntmps80
  go_wp2_with (go_at_call 81; refine HR.out.mono ?_; rintro e w2 ⟨hb, he⟩; rw [if_pos rfl] at he; obtain ⟨v, rfl⟩ := he; have HB := Aside0.mk hb; clear hb)
  exact ⟨rfl, _, results_none rfl _ _ _, HB.out, _, rfl⟩
def GuardP (o : Bool) (w : World) (e : Ending) (w' : World) : Prop := Below w.heap.size w w' ∧ e = .returned (.bool o)
set_option maxHeartbeats 8000000 in
set_option maxRecDepth 100000 in
theorem guarded_walk (g : Nat) (nm : ByteArray) (A : Option Addr) (c : Nat) (l : List S110) (w : World) (hg : w.heap[g]? = some (.cells #[.string nm, .slice A l.length c] 54 (0, 0))) (hC : k110.C w A l.length l) (hc : l.length ≤ c) (k : Nat) (r1 r2 : Int) (h1 : syntax_Check.f k nm l = some r1) (h2 : syntax_Count.f k nm l = some r2) :
  Calls Tryz.prog 79 #[.func (.func 80) #[] #[.pointer (some ⟨g, 0, none⟩)]] w (GuardP (runB r1 r2 l) w) := by
 have hmf : ∀ (fn : Fn) (first cap : Array Value) (w : World), (Instr.makeFunc fn first cap).run Tryz.prog w = .ok (.func fn first cap) w := fun _ _ _ _ => rfl
 have HR := Aside0.mk (run_lit g nm A c l _ (blk_alloc hg (.cells #[.bool false] 4 (0, 0))) (Kd.C_alloc hC (.cells #[.bool false] 4 (0, 0))) hc k r1 r2 h1 h2)
 have HG := Aside0.mk (blk_new w (.cells #[.bool false] 4 (0, 0)))
 have HB0 := Aside0.mk ((Below.refl w.heap.size w).alloc (Nat.le_refl _) (.cells #[.bool false] 4 (0, 0)))
 clear hg hC hc h1 h2
 obtain ⟨o, ho⟩ : ∃ o, runB r1 r2 l = o := ⟨_, rfl⟩
 rw [ho] at HR ⊢
 clear ho
 cases o
 ·go_enter_defers Tryz.func79, Tryz.ntmps79
  go_wp2_with (go_at_call 80; refine HR.out.mono ?_; rintro e w2 ⟨hb, he⟩; rw [if_neg (by simp)] at he; obtain ⟨why, rfl⟩ := he)
  have HB2 := HB0.out.trans (hb.mono (by simp))
  have HG2 := blk_below HG.out hb
  refine leaves_cons (f := 107) (args := #[.pointer (some ⟨w.heap.size, 0, none⟩)]) (by simp) (by simp [go_sem]) ?_
  refine (guarded_fault why w.heap.size false _ HG2).mono ?_
  rintro e u' w'' ⟨rfl, rfl, rfl⟩
  have hG3 := blk_put HG2 0 (.bool false) rfl
  have hcl := (blk_cell hG3 0).trans rfl
  refine ⟨.bool false, by simp [results, Tryz.results79, go_sem, hcl], ?_⟩
  exact ⟨HB2.setCell (p := ⟨w.heap.size, 0, none⟩) (Nat.le_refl _) _, rfl⟩
 ·go_enter_defers Tryz.func79, Tryz.ntmps79
  go_wp2_with (go_at_call 80; refine HR.out.mono ?_; rintro e w2 ⟨hb, he⟩; rw [if_pos rfl] at he; obtain ⟨v, rfl⟩ := he; have HB2 := Aside0.mk (HB0.out.trans (hb.mono (by simp))); have HG2 := Aside0.mk (blk_below HG.out hb); have y0 : w2.cell? ⟨w.heap.size, 0, none⟩ = some (.bool false) := (blk_cell HG2.out 0).trans rfl; have y1 := blk_frozen HG2.out 0; clear hb)
  refine leaves_cons (f := 107) (args := #[.pointer (some ⟨w.heap.size, 0, none⟩)]) (by simp) (by simp [go_sem]) ?_
  refine (guarded_idle ⟨w.heap.size, 0, none⟩ _).mono ?_
  rintro e u' w'' ⟨rfl, rfl, rfl⟩
  have hG3 := blk_put HG2.out 0 (.bool true) rfl
  have hcl := (blk_cell hG3 0).trans rfl
  refine ⟨.bool true, by simp [results, Tryz.results79, go_sem, hcl], ?_⟩
  exact ⟨HB2.out.setCell (p := ⟨w.heap.size, 0, none⟩) (Nat.le_refl _) _, rfl⟩
set_option maxHeartbeats 8000000 in
set_option maxRecDepth 100000 in
theorem check_walk (nm : ByteArray) (A : Option Addr) (c : Nat) (l : List S110) (w : World) (hC : k110.C w A l.length l) (hc : l.length ≤ c) (k : Nat) (r1 r2 : Int) (h1 : syntax_Check.f k nm l = some r1) (h2 : syntax_Count.f k nm l = some r2) :
  Calls Tryz.prog 51 #[.agg #[.string nm, .slice A l.length c]] w fun e w' => e = .returned (.int .i64 (if runB r1 r2 l then 0 else 11)) ∧ Below w.heap.size w w' := by
 have hmf : ∀ (fn : Fn) (first cap : Array Value) (w : World), (Instr.makeFunc fn first cap).run Tryz.prog w = .ok (.func fn first cap) w := fun _ _ _ _ => rfl
 have HR := Aside0.mk (guarded_walk w.heap.size nm A c l _ (blk_new w (.cells #[.string nm, .slice A l.length c] 54 (0, 0))) (Kd.C_alloc hC (.cells #[.string nm, .slice A l.length c] 54 (0, 0))) hc k r1 r2 h1 h2)
 have HB0 := Aside0.mk ((Below.refl w.heap.size w).alloc (Nat.le_refl _) (.cells #[.string nm, .slice A l.length c] 54 (0, 0)))
 clear hC hc h1 h2
 obtain ⟨o, ho⟩ : ∃ o, runB r1 r2 l = o := ⟨_, rfl⟩
 rw [ho] at HR ⊢
 clear ho
 cases o
 all_goals
  go_enter Tryz.func51, Tryz.ntmps51
  go_wp2_with (go_at_call 79; refine HR.out.mono ?_; rintro e w2 ⟨hb, rfl⟩; have HB2 := Aside0.mk (HB0.out.trans (hb.mono (by simp))); clear hb)
  go_ret
  exact ⟨rfl, HB2.out⟩
end Go.Proofs.YtloijngccppfgaaGreat.F
end
