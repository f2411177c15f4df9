-- Texts of this seat's, joined.
import Derived.Test.YtokekdhmhfoliaaGreatZTraceParts5
import Derived.Test.YtokekdhmhfoliaaGreatZTraceParts1
import Derived.Test.YtokekdhmhfoliaaGreatZTraceParts3
import Derived.BigRegion
import Derived.Deep.RegionWith
import Derived.WalkSmall
import Derived.Deep.DeepCutAuto
import Derived.Deep.CutRange
import Derived.Test.YtokekdhmhfoliaaGreatProg
import Derived.Below
import Derived.Deep.Draws
import Derived.Deep.AppendLies
import Derived.Maps.AppendAt
import Derived.OwnWalk
import Derived.Laws.BytesArg
import Derived.Laws.MakeOwn
import Derived.Laws.OwnMore
import Derived.Deep.OwnRows
import Derived.Tactics
import Derived.Lib.ConvBytes
import Derived.Laws.Slices
import Derived.WalkKit
import Derived.KernelRfl
import Derived.RowKit3
import Derived.Deep.LoopGhost
import Derived.Deep.QuietTactic
import Derived.BigQuiet
import Derived.WideLaws
import Derived.Deep.CutBlock
import Derived.Deep.RegionHeld3
import Derived.Laws.Rows
import Derived.Lib.AppendStr
import Derived.ArgAppend
import Derived.Laws.IdiomCopy
import Derived.OrdersHeld
import Derived.Laws.BitsLemmas
import Derived.RowKit
import Derived.Deep.Slices
section
namespace Go.Proofs.YtokekdhmhfoliaaGreat.Pure
set_option linter.unusedVariables false
open Go.RowKit Go.Proofs.YtokekdhmhfoliaaGreat.F Go.Proofs.YtokekdhmhfoliaaGreatW.PrintWords Go.Proofs.YtokekdhmhfoliaaGreatW.PrintLast
theorem courses_app : ∀ (a b : List S70) (i : Int) (m : List (Int × Course)), coursesOf (a ++ b) i m = coursesOf b (i + a.length) (coursesOf a i m)
 | [], b, i, m => by simp [coursesOf]
 | x :: a, b, i, m => by
  show coursesOf (a ++ b) (i + 1) _ = _
  rw [courses_app a b]
  show coursesOf b (i + 1 + a.length) _ = coursesOf b (i + ((x :: a).length : Nat)) _
  congr 1
  rw [List.length_cons]
  omega
def cAt (m : List (Int × Course)) (k : Int) : Course := (mapLook m k).getD course0
def Stays (c d : Course) : Prop := (c.tried ≠ 0 → d.tried = c.tried) ∧ (c.undone ≠ 0 → d.undone = c.undone) ∧ (c.early = true → d.early = true) ∧ (c.late = true → d.late = true)
theorem Stays.refl (c : Course) : Stays c c := ⟨fun _ => rfl, fun _ => rfl, fun h => h, fun h => h⟩
theorem Stays.trans {a b c : Course} (h : Stays a b) (g : Stays b c) : Stays a c :=
 ⟨fun x => by have := h.1 x; rw [g.1 (by rw [this]; exact x), this], fun x => by have := h.2.1 x; rw [g.2.1 (by rw [this]; exact x), this], fun x => g.2.2.1 (h.2.2.1 x), fun x => g.2.2.2 (h.2.2.2 x)⟩
theorem stays_step (c : Course) (i : Int) (x : S70) : Stays c (courseStep c i x) := by
 unfold courseStep
 by_cases h : x.f0.f1 = false
 ·rw [if_pos h]
  by_cases g : x.f1 = true ∧ c.done = 0
  ·rw [if_pos g]; exact ⟨fun _ => rfl, fun _ => rfl, fun h => h, fun h => h⟩
  ·rw [if_neg g]; exact Stays.refl c
 ·rw [if_neg h]
  refine ⟨fun t => if_neg t, fun t => if_neg (fun g => t g.2), fun t => ?_, fun t => ?_⟩
  ·show (c.early || _) = true
   rw [t]; rfl
  ·show (c.late || _) = true
   rw [t]; rfl
def Tidy (c : Course) : Prop := c.undone ≠ 0 → c.tried ≠ 0
theorem tidy_step {c : Course} (h : Tidy c) (i : Int) (hi : 0 ≤ i) (x : S70) : Tidy (courseStep c i x) := by
 unfold courseStep
 by_cases g : x.f0.f1 = false
 ·rw [if_pos g]
  by_cases k : x.f1 = true ∧ c.done = 0
  ·rw [if_pos k]; exact h
  ·rw [if_neg k]; exact h
 ·rw [if_neg g]
  intro _
  show (if c.tried = 0 then i + 1 else c.tried) ≠ 0
  by_cases t : c.tried = 0
  ·rw [if_pos t]; omega
  ·rw [if_neg t]; exact t
theorem cAt_put (m : List (Int × Course)) (k j : Int) (v : Course) : cAt (mapPut m k v) j = if j = k then v else cAt m j := by
 unfold cAt
 by_cases h : j = k
 ·subst h
  rw [if_pos rfl, put_look]; rfl
 ·rw [if_neg h, S.look_put_ne m v h]
theorem courses_stay (j : Int) : ∀ (b : List S70) (i : Int) (m : List (Int × Course)), Stays (cAt m j) (cAt (coursesOf b i m) j)
 | [], _, m => Stays.refl _
 | x :: b, i, m => by
  show Stays _ (cAt (coursesOf b (i + 1) (mapPut m x.f0.f0 (courseStep (cAt m x.f0.f0) i x))) j)
  refine Stays.trans ?_ (courses_stay j b (i + 1) _)
  rw [cAt_put]
  by_cases h : j = x.f0.f0
  ·rw [if_pos h, h]; exact stays_step _ _ _
  ·rw [if_neg h]; exact Stays.refl _
theorem courses_tidy (j : Int) : ∀ (b : List S70) (i : Int) (m : List (Int × Course)), 0 ≤ i → (∀ j, Tidy (cAt m j)) → Tidy (cAt (coursesOf b i m) j)
 | [], _, m, _, h => h j
 | x :: b, i, m, hi, h => by
  show Tidy (cAt (coursesOf b (i + 1) (mapPut m x.f0.f0 (courseStep (cAt m x.f0.f0) i x))) j)
  refine courses_tidy j b (i + 1) _ (by omega) (fun q => ?_)
  rw [cAt_put]
  split
  ·exact tidy_step (h _) i hi x
  ·exact h q
theorem keys_put_sub {m : List (Int × Course)} {k q : Int} {v : Course} (h : q ∈ keysOf m) : q ∈ keysOf (mapPut m k v) := by
 rw [keysOf_put]
 split
 ·exact h
 ·exact List.mem_append_left _ h
theorem courses_keys {q : Int} : ∀ (b : List S70) (i : Int) (m : List (Int × Course)), q ∈ keysOf m → q ∈ keysOf (coursesOf b i m)
 | [], _, m, h => h
 | x :: b, i, m, h => courses_keys b (i + 1) _ (keys_put_sub h)
theorem order_parts (p : List S56) (l : List S70) (k : Nat) (h : orderB p (coursesOf l 0 []) = true) : orderB p (coursesOf (l.take k) 0 []) = true := by
 have happ : coursesOf l 0 [] = coursesOf (l.drop k) (0 + (l.take k).length) (coursesOf (l.take k) 0 []) := by
  rw [← courses_app, List.take_append_drop]
 generalize hm : coursesOf (l.take k) 0 [] = m at happ ⊢
 generalize (0 + ((l.take k).length : Int)) = i at happ
 have htidy : ∀ j, Tidy (cAt m j) := fun j => by rw [← hm]; exact courses_tidy j _ 0 [] (by omega) (fun j h => absurd rfl h)
 generalize hM : coursesOf l 0 [] = M at h happ
 have hst : ∀ j, Stays (cAt m j) (cAt M j) := fun j => by rw [happ]; exact courses_stay j _ _ _
 have hks : ∀ q, q ∈ keysOf m → q ∈ keysOf M := fun q hq => by rw [happ]; exact courses_keys _ _ _ hq
 unfold orderB at h ⊢
 rw [List.all_eq_true] at h ⊢
 intro q hq
 rw [F.mem_sorted] at hq
 have h1 := h q ((F.mem_sorted _ _).2 (hks q hq))
 obtain ⟨s1, s2, s3, s4⟩ := hst q
 rw [Bool.and_eq_true] at h1 ⊢
 obtain ⟨b1, b2⟩ := h1
 constructor
 ·unfold badItem at b1 ⊢
  simp only [Bool.not_eq_true', Bool.or_eq_false_iff] at b1 ⊢
  refine ⟨⟨b1.1.1, ?_⟩, ?_⟩
  ·cases e : (cAt m q).early
   ·exact e
   ·have := s3 e
    rw [show (cAt M q).early = false from b1.1.2] at this; cases this
  ·cases e : (cAt m q).late
   ·exact e
   ·have := s4 e
    rw [show (cAt M q).late = false from b1.2] at this; cases this
 ·rw [Bool.or_eq_true] at b2 ⊢
  by_cases hu : (cAt m q).undone = 0
  ·exact .inl (by simpa [cAt] using hu)
  ·right
   have hU := s2 hu
   have ht := htidy q hu
   have hT := s1 ht
   rcases b2 with b2 | b2
   ·have : (cAt M q).undone = 0 := by simpa [cAt] using b2
    rw [hU] at this; exact absurd this hu
   ·rw [List.all_eq_true] at b2 ⊢
    intro j hj
    rw [F.mem_sorted] at hj
    have h2 := b2 j ((F.mem_sorted _ _).2 (hks j hj))
    obtain ⟨-, t2, -⟩ := hst j
    unfold clashB at h2 ⊢
    by_cases hv : (cAt m j).undone = 0
    ·have e : (((mapLook m j).getD course0).undone) = 0 := hv
     rw [e]; simp
    ·have hV := t2 hv
     have e1 : (((mapLook M j).getD course0).undone) = (((mapLook m j).getD course0).undone) := hV
     have e2 : (((mapLook M q).getD course0).tried) = (((mapLook m q).getD course0).tried) := hT
     rw [e1, e2] at h2
     exact h2
end Go.Proofs.YtokekdhmhfoliaaGreat.Pure
end

section
namespace Go.Proofs.YtokekdhmhfoliaaGreat.S
open Go.RowKit Go.Proofs.YtokekdhmhfoliaaGreat.F Go.Proofs.YtokekdhmhfoliaaGreatW.PrintWords Go.Proofs.YtokekdhmhfoliaaGreatW.PrintLast
theorem rdE (l : List Eff) (i : Nat) (h : i < l.length) : rd_T70 l (i : Int) = l[i] := by unfold rd_T70; rw [Int.toNat_natCast, List.getD_eq_getElem?_getD, List.getElem?_eq_getElem h]; rfl
def ex3 : List Eff := [⟨⟨1, false, 0⟩, true⟩, ⟨⟨2, false, 0⟩, true⟩, ⟨⟨1, false, 0⟩, true⟩]
theorem ex_keys : keysOf (coursesOf ex3 0 []) = [1, 2] := by decide +kernel
theorem ex_sort : ([1, 2] : List Int).mergeSort (fun x y => decide (x ≤ y)) = [1, 2] := List.mergeSort_of_pairwise (by decide)
theorem ex_filter : ([1, 2] : List Int).filter (isLeft (coursesOf ex3 0 [])) = [1, 2] := by decide +kernel
theorem ex_left : trace_Left.f ex3 = some [1, 2] := by
 unfold trace_Left.f
 rw [if_pos (by decide +kernel)]
 unfold F.leftOf
 rw [ex_keys, ex_sort, ex_filter]
theorem ex_check : trace_Check.f ex3 = some 0 := by decide +kernel
theorem ex_again : trace_Again.f ex3 = some 1 := by decide +kernel
theorem ex_last : trace_Last.f ex3 = some [⟨⟨2, false, 0⟩, true⟩, ⟨⟨1, false, 0⟩, true⟩] := by decide +kernel
theorem ex_same : argosyref20_Same.f 12 [⟨⟨2, false, 0⟩, true⟩, ⟨⟨1, false, 0⟩, true⟩] [⟨⟨2, false, 0⟩, true⟩, ⟨⟨1, false, 0⟩, true⟩] = some true := by decide +kernel
theorem ex_same1 : argosyref01_Same.f 12 [1, 2] [1, 2] = some true := by decide +kernel
theorem ex_find : trace_Find.f ex3 2 false 0 = some 1 := by decide +kernel
theorem ex_find0 : trace_Find.f ex3 0 false 0 = some (-1) := by decide +kernel
theorem lives_12 : argosylaw20_lives.f 12 = some true := by
 show ((trace_Check.f ex3).bind fun t125 => (if t125 = 0 then ((trace_Again.f ex3).bind fun t126 => (if t126 = 1 then ((trace_Last.f ex3).bind fun t127 => ((argosyref20_Same.f 12 t127 [⟨⟨2, false, 0⟩, true⟩, ⟨⟨1, false, 0⟩, true⟩]).bind fun t141 => (if t141 = true then ((trace_Left.f ex3).bind fun t142 => ((argosyref01_Same.f 12 t142 (([1, 2] : List Int))).bind fun t148 => (if t148 = true then ((trace_Find.f ex3 2 false 0).bind fun t149 => (if t149 = 1 then ((trace_Find.f ex3 0 false 0).bind fun t150 => (some (t150 == (-1)))) else (some false))) else (some false)))) else (some false)))) else (some false))) else (some false))) = some true
 rw [ex_check, ex_again, ex_last, ex_left, ex_find, ex_find0]
 simp only [Option.bind_some, if_true, ex_same, ex_same1]
 rfl
theorem rev_end (L ys : List Eff) (i : Nat) (hy : ys.length = L.length) (hj : ∀ j, j < L.length → ys[j]? = if j < i ∨ L.length ≤ j + i then L[L.length - 1 - j]? else L[j]?) (hi : (L.length : Int) - 1 - i ≤ i) : ys = L.reverse := by
 apply List.ext_getElem?
 intro j
 by_cases h : j < L.length
 ·rw [hj j h, List.getElem?_reverse h]
  by_cases hc : j < i ∨ L.length ≤ j + i
  ·rw [if_pos hc]
  ·rw [if_neg hc]
   have : L.length - 1 - j = j := by omega
   rw [this]
 ·rw [List.getElem?_eq_none (by omega), List.getElem?_eq_none (by rw [List.length_reverse]; omega)]
theorem rev_loop (L : List Eff) (hL : L.length ≤ 1000000) : ∀ (d k i : Nat) (ys : List Eff), ys.length = L.length → (∀ j, j < L.length → ys[j]? = if j < i ∨ L.length ≤ j + i then L[L.length - 1 - j]? else L[j]?) → L.length ≤ 2 * i + d → i ≤ L.length → d < k →
  api_Effect.l0 k ys (i : Int) ((L.length : Int) - 1 - i) = some L.reverse := by
 intro d
 induction d with
 | zero =>
  intro k i ys hy hj hd hi hk
  obtain ⟨k, rfl⟩ : ∃ m, k = m + 1 := ⟨k - 1, by omega⟩
  simp only [api_Effect.l0]
  rw [if_neg (by omega)]
  congr 1
  exact rev_end L ys i hy hj (by omega)
 | succ d ih =>
  intro k i ys hy hj hd hi hk
  obtain ⟨k, rfl⟩ : ∃ m, k = m + 1 := ⟨k - 1, by omega⟩
  simp only [api_Effect.l0]
  by_cases h : (i : Int) < (L.length : Int) - 1 - i
  ·have h1 : i < ys.length := by omega
   have h2 : L.length - 1 - i < ys.length := by omega
   have e3 : (L.length : Int) - 1 - i = ((L.length - 1 - i : Nat) : Int) := by omega
   rw [if_pos h, if_pos (by omega), if_pos (by omega), if_pos (by omega), if_pos (by omega)]
   rw [e3, rdE ys _ h2, rdE ys _ h1, Int.toNat_natCast, Int.toNat_natCast]
   have w1 : wrap64 ((i : Int) + 1) = ((i + 1 : Nat) : Int) := w64_small (by omega) (by omega)
   have w2 : wrap64 (((L.length - 1 - i : Nat) : Int) - 1) = (L.length : Int) - 1 - (i + 1 : Nat) := by rw [w64_small (by omega) (by omega)]; omega
   rw [w1, w2]
   refine ih k (i + 1) _ (by simp [hy]) ?_ (by omega) (by omega) (by omega)
   intro j hjl
   have g1 := hj i (by omega)
   have g2 := hj (L.length - 1 - i) (by omega)
   rw [if_neg (by omega), List.getElem?_eq_getElem h1] at g1
   rw [if_neg (by omega), List.getElem?_eq_getElem h2] at g2
   by_cases e1 : j = L.length - 1 - i
   ·subst e1
    rw [if_pos (by omega), List.getElem?_set_self (by simp; omega)]
    have : L.length - 1 - (L.length - 1 - i) = i := by omega
    rw [this, ← g1]
   ·rw [List.getElem?_set_ne (fun e => e1 e.symm)]
    by_cases e2 : j = i
    ·subst e2
     rw [if_pos (by omega), List.getElem?_set_self (by omega), ← g2]
    ·rw [List.getElem?_set_ne (fun e => e2 e.symm), hj j hjl]
     by_cases e4 : j < i ∨ L.length ≤ j + i
     ·rw [if_pos e4, if_pos (by omega)]
     ·rw [if_neg e4, if_neg (by omega)]
  ·rw [if_neg h]
   congr 1
   exact rev_end L ys i hy hj (by omega)
theorem rev_eq (L : List Eff) (hL : L.length ≤ 1000000) (k : Nat) (hk : L.length < k) : api_Effect.f k L = some L.reverse := by
 unfold api_Effect.f
 have h := rev_loop L hL L.length k 0 L rfl (fun j hj => by rw [if_neg (by omega)]) (by omega) (by omega) hk
 have e : wrap64 ((L.length : Int) - 1) = (L.length : Int) - 1 - ((0 : Nat) : Int) := by
  unfold wrap64
  omega
 rw [e]
 exact h
theorem last_eq (l : List Eff) (h : l.length ≤ 1000000) : trace_Last.f l = some (lastE l) := by
 unfold trace_Last.f
 have hl : (lastsOf l).length ≤ l.length := by unfold lastsOf; have := lastsRun_len l.reverse []; rwa [List.length_reverse] at this
 rw [if_pos h, rev_eq _ (by omega) _ (by omega), lastsOf_eq l h]
end Go.Proofs.YtokekdhmhfoliaaGreat.S
end

section
namespace Go.Proofs.YtokekdhmhfoliaaGreat.Pure
set_option linter.unusedVariables false
open Go.RowKit Go.Proofs.YtokekdhmhfoliaaGreat.F Go.Proofs.YtokekdhmhfoliaaGreatW.PrintWords Go.Proofs.YtokekdhmhfoliaaGreatW.PrintLast
theorem small_ev (l : List S56) (d : Nat) : ∀ i : Nat, i + d = 70 → ∃ b, Ev (fun k => argosylaw20_small.l0 k (i : Int) l) b ∧ (b = true → l.length ≤ 70 ∧ ∀ j (h : j < l.length), i ≤ j → l[j].f7.length ≤ 100) := by
 induction d with
 | zero =>
  intro i hi
  refine ⟨decide ((l.length : Int) ≤ 70), ⟨2, fun k hk => ?_⟩, fun h => ?_⟩
  ·obtain ⟨k, rfl⟩ : ∃ m, k = m + 2 := ⟨k - 2, by omega⟩
   simp only [argosylaw20_small.l0, argosylaw20_small.j1]
   rw [decide_eq_false (by omega : ¬ (i : Int) < 70)]
   simp
  ·have := of_decide_eq_true h
   exact ⟨by omega, fun j h1 h2 => by omega⟩
 | succ d ih =>
  intro i hi
  by_cases hl : i < l.length
  ·obtain ⟨b, ⟨K, hK⟩, hb⟩ := ih (i + 1) (by omega)
   have hrd : rd_T56 l (i : Int) = l[i] := by unfold rd_T56; rw [Int.toNat_natCast, List.getD_eq_getElem?_getD, List.getElem?_eq_getElem hl]; rfl
   by_cases h1 : ((l[i].f0).size : Int) > 200 ∨ ((l[i].f1).size : Int) > 200 ∨ ((l[i].f7).length : Int) > 100
   ·refine ⟨false, ⟨2, fun k hk => ?_⟩, fun h => by cases h⟩
    obtain ⟨k, rfl⟩ : ∃ m, k = m + 2 := ⟨k - 2, by omega⟩
    simp only [argosylaw20_small.l0, argosylaw20_small.j1]
    rw [if_pos (by omega), decide_eq_true (by omega : (i : Int) < 70), if_pos rfl, if_pos (by omega), if_pos (by omega), hrd]
    by_cases h2 : ((l[i].f0).size : Int) > 200
    ·rw [if_pos h2]
    ·rw [if_neg h2]
     by_cases h3 : ((l[i].f1).size : Int) > 200
     ·rw [if_pos h3]
     ·rw [if_neg h3, if_pos (by omega)]
   ·refine ⟨b, ⟨K + 2, fun k hk => ?_⟩, fun h => ⟨(hb h).1, fun j h2 h3 => ?_⟩⟩
    ·obtain ⟨k, rfl⟩ : ∃ m, k = m + 2 := ⟨k - 2, by omega⟩
     simp only [argosylaw20_small.l0, argosylaw20_small.j1]
     rw [if_pos (by omega), decide_eq_true (by omega : (i : Int) < 70), if_pos rfl, if_pos (by omega), if_pos (by omega), hrd, if_neg (by omega), if_neg (by omega), if_neg (by omega), show wrap64 ((i : Int) + 1) = ((i + 1 : Nat) : Int) by unfold wrap64; omega]
     exact hK k (by omega)
    ·by_cases hj : j = i
     ·subst hj; omega
     ·exact (hb h).2 j h2 (by omega)
  ·refine ⟨decide ((l.length : Int) ≤ 70), ⟨2, fun k hk => ?_⟩, fun h => ?_⟩
   ·obtain ⟨k, rfl⟩ : ∃ m, k = m + 2 := ⟨k - 2, by omega⟩
    simp only [argosylaw20_small.l0, argosylaw20_small.j1]
    rw [if_neg (by omega)]
    simp
   ·have := of_decide_eq_true h
    exact ⟨by omega, fun j h1 h2 => by omega⟩
theorem small_plan {p : List S56} (hl : p.length ≤ 70 ∧ ∀ j (h : j < p.length), 0 ≤ j → p[j].f7.length ≤ 100) : (p.all fun x => decide (x.f7.length ≤ 1000000)) = true := by
 rw [List.all_eq_true]
 intro y hy
 obtain ⟨j, hj, rfl⟩ := List.getElem_of_mem hy
 have := hl.2 j hj (by omega)
 simp only [decide_eq_true_eq]
 omega
theorem small_f (p : List S56) : ∃ b K, (∀ k, K ≤ k → argosylaw20_small.f k p = some b) ∧ (b = true → (p.all fun x => decide (x.f7.length ≤ 1000000)) = true ∧ p.length ≤ 70) := by
 obtain ⟨b, ⟨K, hK⟩, hb⟩ := small_ev p 70 0 (by omega)
 exact ⟨b, K, fun k hk => hK k hk, fun h => ⟨small_plan (hb h), (hb h).1⟩⟩
end Go.Proofs.YtokekdhmhfoliaaGreat.Pure
end

section
namespace Go.Proofs.YtokekdhmhfoliaaGreat.F
open Go.RowKit Go.Proofs.YtokekdhmhfoliaaGreatW.PrintWords Go.Proofs.YtokekdhmhfoliaaGreatW.PrintLast Go.Proofs.YtokekdhmhfoliaaGreatW.PrintMore
attribute [local go_sem] max2_int min2_int max_two min_two max_three min_three max_four min_four
set_option linter.unusedVariables false
set_option linter.unusedSimpArgs false
def argosylaw20_TraceParts.f (k : Nat) (l0_0 : List S56) (l1 : List S70) (a2 : Int) : Option Bool := if ∀ x ∈ l1, (Lit.int .i64 x.f0.f0).wf = true then some true else none
open Go.Proofs.YtokekdhmhfoliaaGreat.Pure in
set_option maxHeartbeats 8000000 in
set_option maxRecDepth 100000 in
theorem argosylaw20_TraceParts.calls (k : Nat) (A0_0 : Option Addr) (c0_0 : Nat) (l0_0 : List S56) (A1 : Option Addr) (c1 : Nat) (l1 : List S70) (a2 : Int) (r : Bool) (w : World) (hr0_0 : Kd.C k56 w A0_0 l0_0.length l0_0) (hc0_0 : l0_0.length ≤ c0_0) (hr1 : Kd.C k70 w A1 l1.length l1) (hc1 : l1.length ≤ c1) (h : argosylaw20_TraceParts.f k l0_0 l1 a2 = some r) :
  Calls Tryz.prog 3 #[.agg #[.slice A0_0 l0_0.length c0_0], .slice A1 l1.length c1, .int .i64 a2] w fun e w' => e = .returned (.bool r) ∧ Below w.heap.size w w' := by
 unfold argosylaw20_TraceParts.f at h
 by_cases hwf : ∀ x ∈ l1, (Lit.int .i64 x.f0.f0).wf = true
 ·rw [if_pos hwf] at h
  obtain rfl := Option.some.inj h
  obtain ⟨b, K, hK, hb⟩ := small_f l0_0
  have HB0 := Aside0.mk (below_alloc (Below.refl w.heap.size w) (.cells #[.slice A0_0 l0_0.length c0_0] 24 (0, 0)))
  have HG0 := Aside0.mk (blk_new w (.cells #[.slice A0_0 l0_0.length c0_0] 24 (0, 0)))
  have HSM := Aside0.mk (fun (W : World) (hb : Below w.heap.size w W) => argosylaw20_small.calls K A0_0 c0_0 l0_0 b W (Kd.C_below hr0_0 hb) hc0_0 (hK K (Nat.le_refl _)))
  have HLV := Aside0.mk (fun (W : World) => argosylaw20_lives.calls 12 true W S.lives_12)
  clear h hK
  cases b with
  | false =>
   clear hr0_0 hc0_0 hr1 hc1 hb hwf
   go_enter Tryz.func3, Tryz.ntmps3
   go_wp2_with (first
    | (go_at_call 8; refine (HSM.out _ HB0.out).mono ?_; rintro e w2 ⟨rfl, hb⟩; have HB2 := Aside0.mk (HB0.out.trans (hb.mono HB0.out.size)); clear hb)
    | (go_at_call 9; refine (HLV.out _).mono ?_; rintro e w3 ⟨rfl, hb⟩; have HB3 := Aside0.mk (HB2.out.trans (hb.mono HB2.out.size)); clear hb))
   go_ret
   exact ⟨rfl, HB3.out⟩
  | true =>
   obtain ⟨hsm, h70⟩ := hb rfl
   clear hb
   by_cases hl : (l1.length : Int) > 100
   ·clear hr0_0 hc0_0 hr1 hc1 hsm h70 hwf
    go_enter Tryz.func3, Tryz.ntmps3
    go_wp2_with (first
     | (go_at_call 8; refine (HSM.out _ HB0.out).mono ?_; rintro e w2 ⟨rfl, hb⟩; have HB2 := Aside0.mk (HB0.out.trans (hb.mono HB0.out.size)); clear hb)
     | (go_at_call 9; refine (HLV.out _).mono ?_; rintro e w3 ⟨rfl, hb⟩; have HB3 := Aside0.mk (HB2.out.trans (hb.mono HB2.out.size)); clear hb))
    go_ret
    exact ⟨rfl, HB3.out⟩
   ·have hOF : ∀ n : Nat, n ≤ l1.length → trace_Order.f l0_0 (l1.take n) = some (orderI l0_0 (l1.take n)) := fun n hn => by
     unfold trace_Order.f
     rw [if_pos ⟨hsm, by rw [List.length_take]; omega, fun x hx => hwf x (List.mem_of_mem_take hx)⟩]
    have HOR := Aside0.mk (fun (n : Nat) (hn : n ≤ l1.length) (W : World) (hb : Below w.heap.size w W) => trace_Order.calls A0_0 c0_0 l0_0 A1 c1 (l1.take n) _ W (Kd.C_below hr0_0 hb) hc0_0 (by have h := Kd.C_take (Kd.C_below hr1 hb) hn; exact h) (by rw [List.length_take]; omega) (hOF n hn))
    have HO1 := Aside0.mk (fun (W : World) (hb : Below w.heap.size w W) => HOR.out l1.length (Nat.le_refl _) W hb)
    rw [List.take_length] at HO1
    have HPT := Aside0.mk (fun (n : Nat) (h : orderI l0_0 l1 = 0) => show orderI l0_0 (l1.take n) = 0 from by
     unfold orderI at h ⊢
     cases hR : rightB l0_0
     ·rw [hR] at h; simp at h
     ·rw [hR] at h
      cases hO : orderB l0_0 (coursesOf l1 0 [])
      ·rw [hO] at h; simp at h
      ·rw [order_parts l0_0 l1 n hO]; rfl)
    obtain ⟨o, ho⟩ : ∃ o, orderI l0_0 l1 = o := ⟨_, rfl⟩
    rw [ho] at HO1 HPT
    have hc1l := hc1
    clear hr0_0 hc0_0 hr1 hc1 hsm h70 hwf hOF ho
    by_cases h0 : o = 0
    ·subst h0
     go_enter Tryz.func3, Tryz.ntmps3
     go_upto_region 6 with (first
      | (go_at_call 8; refine (HSM.out _ HB0.out).mono ?_; rintro e w2 ⟨rfl, hb⟩; have HB2 := Aside0.mk (HB0.out.trans (hb.mono HB0.out.size)); have HG2 := Aside0.mk (blk_below HG0.out hb); clear hb; have x0 : w2.cell? ⟨w.heap.size, 0, none⟩ = some (.slice A0_0 l0_0.length c0_0) := (blk_cell HG2.out 0).trans rfl)
      | (go_at_call 10; refine (HO1.out _ HB2.out).mono ?_; rintro e w3 ⟨rfl, hb⟩; have HB3 := Aside0.mk (HB2.out.trans (hb.mono HB2.out.size)); have HG3 := Aside0.mk (blk_below HG2.out hb); clear hb x0; have x0 : w3.cell? ⟨w.heap.size, 0, none⟩ = some (.slice A0_0 l0_0.length c0_0) := (blk_cell HG3.out 0).trans rfl))
     have hU : 0 ≤ IntKind.u64.wrap a2 := by rw [IntKind.wrap_u64]; omega
     obtain ⟨n, hn, hnl⟩ : ∃ n : Nat, wrap64 ((IntKind.u64.wrap a2).tmod (↑l1.length + 1)) = n ∧ n ≤ l1.length := by
      have h1 := Int.tmod_nonneg (l1.length + 1 : Int) hU
      have h2 := Int.tmod_lt_of_pos (IntKind.u64.wrap a2) (show (0 : Int) < l1.length + 1 by omega)
      refine ⟨((IntKind.u64.wrap a2).tmod (↑l1.length + 1)).toNat, ?_, by omega⟩
      unfold wrap64
      omega
     rw [hn]
     have HOn := Aside0.mk (fun (W : World) (hb : Below w.heap.size w W) => HOR.out n hnl W hb)
     rw [HPT.out n (by trivial), show (l1.take n).length = n from by rw [List.length_take]; omega] at HOn
     have hn0 : (0 : Int) ≤ n := by omega
     have hn1 : (n : Int) ≤ (c1 : Int) := by omega
     clear hn hU
     go_region_with (first
      | (go_at_call 10; refine (HOn.out _ (below_drewN HB3.out 1)).mono ?_; rintro e w4 ⟨rfl, hb⟩; have HB4 := Aside0.mk ((below_drewN HB3.out 1).trans (hb.mono (below_drewN HB3.out 1).size)); clear hb)
      | (go_at_call 9; refine (HLV.out _).mono ?_; rintro e w5 ⟨rfl, hb⟩; have HB5 := Aside0.mk (HB4.out.trans (hb.mono HB4.out.size)); clear hb))
     all_goals
      go_wp2
      go_ret
      exact ⟨rfl, HB5.out⟩
    ·go_enter Tryz.func3, Tryz.ntmps3
     go_wp2_with (first
      | (go_at_call 8; refine (HSM.out _ HB0.out).mono ?_; rintro e w2 ⟨rfl, hb⟩; have HB2 := Aside0.mk (HB0.out.trans (hb.mono HB0.out.size)); have HG2 := Aside0.mk (blk_below HG0.out hb); clear hb; have x0 : w2.cell? ⟨w.heap.size, 0, none⟩ = some (.slice A0_0 l0_0.length c0_0) := (blk_cell HG2.out 0).trans rfl)
      | (go_at_call 10; refine (HO1.out _ HB2.out).mono ?_; rintro e w3 ⟨rfl, hb⟩; have HB3 := Aside0.mk (HB2.out.trans (hb.mono HB2.out.size)); clear hb)
      | (go_at_call 9; refine (HLV.out _).mono ?_; rintro e w4 ⟨rfl, hb⟩; have HB4 := Aside0.mk (HB3.out.trans (hb.mono HB3.out.size)); clear hb))
     go_ret
     exact ⟨rfl, HB4.out⟩
 ·rw [if_neg hwf] at h
  cases h
end Go.Proofs.YtokekdhmhfoliaaGreat.F
end

section
namespace Go.Proofs.YtokekdhmhfoliaaGreat.F
open Go.RowKit Go.Proofs.YtokekdhmhfoliaaGreatW.PrintWords Go.Proofs.YtokekdhmhfoliaaGreatW.PrintLast Go.Proofs.YtokekdhmhfoliaaGreatW.PrintMore
open Go.RowKit Go.Deep
section
variable {α β : Type}
structure Opens (P : Program) (t : TypeId) (d : Kd α) (V : α → Prop) : Prop where
 out : ∀ {H : Type} (enc : TypeId × Value → H) (w : World) (base : Nat) (spare : Nat → Bool) (held : Bool) (fuel : Nat) (cs : List Value) (r : DataW H × List MemPlace),
  DataW.trod enc P w base spare held fuel t cs = some r → ∃ x, d.K w x cs ∧ V x
theorem opens_int {P : Program} {t : TypeId} {k : IntKind} (ht : P.underlying t = some (.int k)) : Opens P t (Kd.int k) (fun n => (Lit.int k n).wf = true) := by
 constructor
 intro H enc w base spare held fuel cs r h
 obtain ⟨x, rfl, _, hw⟩ := DataW.trod_int ht h
 exact ⟨x, rfl, hw⟩
theorem opens_bool {P : Program} {t : TypeId} (ht : P.underlying t = some .bool) : Opens P t Kd.bool (fun _ => True) := by
 constructor
 intro H enc w base spare held fuel cs r h
 obtain ⟨x, rfl, _⟩ := DataW.trod_bool ht h
 exact ⟨x, rfl, trivial⟩
theorem opens_string {P : Program} {t : TypeId} (ht : P.underlying t = some .string) : Opens P t Kd.string (fun s => s.size ≤ maxLen) := by
 constructor
 intro H enc w base spare held fuel cs r h
 obtain ⟨x, rfl, _, hm⟩ := DataW.trod_string ht h
 exact ⟨x, rfl, hm⟩
theorem opens_iso {P : Program} {t : TypeId} {d : Kd α} {V : α → Prop} (f : β → α) (g : α → β) (hg : ∀ y, f (g y) = y) (h : Opens P t d V) : Opens P t (Kd.iso d f) (fun x => V (f x)) := by
 constructor
 intro H enc w base spare held fuel cs r hr
 obtain ⟨x, hk, hv⟩ := h.out enc w base spare held fuel cs r hr
 exact ⟨g x, by show d.K w (f (g x)) cs; rw [hg]; exact hk, by show V (f (g x)); rw [hg]; exact hv⟩
theorem add_add_ (a : Addr) (i j : Nat) : (a.add i).add j = a.add (i + j) := by
 unfold Addr.add
 by_cases hi : i = 0 <;> by_cases hj : j = 0 <;> simp [hi, hj, Nat.add_assoc]
theorem opens_slice {P : Program} {t e : TypeId} {d : Kd α} {V : α → Prop} (z : α) (ht : P.underlying t = some (.slice e)) (hc : P.cellsOf e = d.sz) (h : Opens P e d V) :
  Opens P t (Kd.slice e d) (fun xs => xs.length ≤ maxLen ∧ ∀ x ∈ xs, V x) := by
 constructor
 intro H enc w base spare held fuel cs r hr
 haveI : Inhabited α := ⟨z⟩
 rcases open_slice ht hr with ⟨rfl, _⟩ | ⟨a, len, cap, m, n, D, Pl, rfl, hb, hl, hm, hmm, _, hx⟩
 ·exact ⟨[], ⟨none, 0, rfl, Nat.le_refl _, Kd.C_nil d w⟩, Nat.zero_le _, fun x hx => by cases hx⟩
 ·have hlm : len ≤ m := by rw [hmm]; split <;> omega
  obtain ⟨f, hf⟩ := choose_lt (n := len) (p := fun i x => ∃ c, c.length = d.sz ∧ d.K w x c ∧ V x ∧ ∀ j u, c[j]? = some u → w.cell? (a.add (i * d.sz + j)) = some u) (fun i hi => by
   obtain ⟨cs', h1, h2⟩ := hx i (by omega)
   obtain ⟨x, hk, hv⟩ := h.out enc w base spare held n cs' _ h2
   obtain ⟨_, hl', hcell⟩ := World.cells?_some h1
   rw [hc] at hl' hcell
   refine ⟨x, cs', hl', hk, hv, fun j u hu => ?_⟩
   have hj : j < d.sz := by
    rcases Nat.lt_or_ge j d.sz with hj | hj
    ·exact hj
    ·rw [List.getElem?_eq_none (by omega)] at hu; cases hu
   have := hcell j hj
   rw [add_add_] at this
   rw [this, hu])
  have hlen : ((List.range len).map f).length = len := by simp
  refine ⟨(List.range len).map f, ⟨some a, cap, by rw [hlen], by rw [hlen]; exact hl, ?_⟩, by rw [hlen]; omega, ?_⟩
  ·rw [hlen]
   refine ⟨hlen, ?_, fun _ => ⟨a, rfl, fun j p hp => ?_⟩⟩
   ·unfold maxLen at hm; omega
   ·have hj : j < len := by
     have := (List.getElem?_eq_some_iff.1 hp).1
     rwa [hlen] at this
    have hpe : f j = p := by
     rw [List.getElem?_map, List.getElem?_range hj] at hp
     exact Option.some.inj hp
    obtain ⟨c, h1, h2, _, h4⟩ := hf j hj
    rw [hpe] at h2
    exact ⟨c, h1, h2, h4⟩
  ·intro x hx
   obtain ⟨j, hj, rfl⟩ := List.mem_map.1 hx
   obtain ⟨c, _, _, h3, _⟩ := hf j (List.mem_range.1 hj)
   exact h3
structure OpensF (P : Program) (fs : List Field) (off : Nat) (d : Kd α) (V : α → Prop) : Prop where
 out : ∀ {H : Type} (enc : TypeId × Value → H) (w : World) (base : Nat) (spare : Nat → Bool) (held : Bool) (fuel : Nat) (cs : List Value),
  cs.length = off + d.sz → (∀ f ∈ fs, ∃ r, DataW.trod enc P w base spare held fuel f.type ((cs.drop f.offset).take (P.cellsOf f.type)) = some r) → ∃ x, d.K w x (cs.drop off) ∧ V x
theorem opensF_one {P : Program} {f : Field} {off : Nat} {d : Kd α} {V : α → Prop} (ho : f.offset = off) (hc : P.cellsOf f.type = d.sz) (h : Opens P f.type d V) : OpensF P [f] off d V := by
 constructor
 intro H enc w base spare held fuel cs hl hr
 obtain ⟨r, hr⟩ := hr f (List.mem_singleton.2 rfl)
 rw [ho, hc, List.take_of_length_le (by rw [List.length_drop]; omega)] at hr
 exact h.out enc w base spare held fuel _ r hr
theorem opensF_cons {P : Program} {f : Field} {fs : List Field} {off : Nat} {d : Kd α} {d' : Kd β} {V : α → Prop} {V' : β → Prop} (ho : f.offset = off) (hc : P.cellsOf f.type = d.sz) (h : Opens P f.type d V) (h' : OpensF P fs (off + d.sz) d' V') :
  OpensF P (f :: fs) off (Kd.pair d d') (fun x => V x.1 ∧ V' x.2) := by
 constructor
 intro H enc w base spare held fuel cs hl hr
 have hl' : cs.length = off + (d.sz + d'.sz) := hl
 obtain ⟨r, hr1⟩ := hr f (List.mem_cons_self ..)
 rw [ho, hc] at hr1
 obtain ⟨x, hk, hv⟩ := h.out enc w base spare held fuel _ r hr1
 obtain ⟨y, hk', hv'⟩ := h'.out enc w base spare held fuel cs (by omega) (fun g hg => hr g (List.mem_cons_of_mem _ hg))
 refine ⟨(x, y), ⟨(cs.drop off).take d.sz, cs.drop (off + d.sz), ?_, hk, hk'⟩, hv, hv'⟩
 rw [← List.drop_drop, List.take_append_drop]
theorem opens_struct {P : Program} {t : TypeId} {fs : Array Field} {d : Kd α} {V : α → Prop} (ht : P.underlying t = some (.struct fs)) (hc : P.cellsOf t = d.sz) (h : OpensF P fs.toList 0 d V) : Opens P t d V := by
 constructor
 intro H enc w base spare held fuel cs r hr
 obtain ⟨xs, n, _, _, hl, hxl, hx⟩ := DataW.trod_struct ht hr
 obtain ⟨x, hk, hv⟩ := h.out enc w base spare held n cs (by omega) (fun f hf => by
  obtain ⟨i, hi, rfl⟩ := List.mem_iff_getElem.1 hf
  have hi' : i < fs.size := by simpa using hi
  have := hx i fs[i] (by simp [hi'])
  rw [List.getElem?_eq_getElem (by omega)] at this
  exact ⟨_, by simpa using this⟩)
 rw [List.drop_zero] at hk
 exact ⟨x, hk, hv⟩
end
end Go.Proofs.YtokekdhmhfoliaaGreat.F
end
