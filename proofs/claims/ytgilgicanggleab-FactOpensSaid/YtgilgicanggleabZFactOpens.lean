/- What is open ends by one event of each of its ends, and is not open then: for every plan and all facts. -/
import Derived.Test.YtgilgicanggleabZFactOpens6
import Derived.Test.YtgilgicanggleabRows
import Derived.WalkKit
import Derived.ProofKit
import Derived.OpenShut
import Derived.ShutString
import Derived.ChangeOld
import Derived.Below
import Derived.Deep.DeepHandedRow
import Derived.Lib.LaidTab
section
namespace Go.Proofs.Ytgilgicanggleab.Pure
set_option linter.unusedVariables false
open Go.RowKit Go.Proofs.Ytgilgicanggleab.F Go.Proofs.YtgilgicanggleabW.PrintWords Go.Proofs.YtgilgicanggleabW.PrintLast
def Hd (l : List S44) : Prop := ∃ x r, l = x :: r ∧ x.f2 = true
theorem Hd.add {l : List S44} (h : Hd l) (m : List S44) : Hd (l ++ m) := by
 obtain ⟨x, r, rfl, hx⟩ := h
 exact ⟨x, r ++ m, rfl, hx⟩
theorem Hd.after {l : List S44} (h : Hd l) (a k : Int) : Hd (addAfter l a k) := by
 obtain ⟨x, r, rfl, hx⟩ := h
 unfold addAfter
 cases hn : a.toNat with
 | zero => exact ⟨_, r, rfl, by unfold rd_T44; rw [hn]; exact hx⟩
 | succ n => exact ⟨x, r.set n _, rfl, hx⟩
theorem Hd.arcs (b : List S62) (ats : List Int) (a : Int) : ∀ (s : List ByteArray) (l : List S44), Hd l → Hd (arcsTo b ats a s l)
 | [], _, h => h
 | x :: s, l, h => by rw [arcsTo]; exact Hd.arcs b ats a s _ (h.after _ _)
theorem Hd.pass2 (b : List S62) (ats : List Int) : ∀ (n : List S62) (i : Nat) (l : List S44), Hd l → Hd (pass2 b ats i n l)
 | [], _, _, h => h
 | x :: n, i, l, h => by rw [F.pass2]; exact Hd.pass2 b ats n (i + 1) _ (Hd.arcs _ _ _ _ _ h)
mutual
theorem Hd.node (inn alt : Int) (out : List S44) (h : Hd out) : ∀ x : S62, Hd (flNode inn alt out x)
 | ⟨nm, un, af, sb, vi, al⟩ => by
  unfold flNode
  exact Hd.alts _ _ _ (h.add _) al
theorem Hd.nodes (inn alt : Int) (out : List S44) (nums : List Int) (h : Hd out) : ∀ l : List S62, Hd (flNodes inn alt out nums l).1
 | [] => by simpa [flNodes] using h
 | x :: l => by
  unfold flNodes
  exact Hd.nodes inn alt _ _ (Hd.node inn alt out h x) l
theorem Hd.body (inn alt : Int) (out : List S44) (h : Hd out) : ∀ b : SB65 S62, Hd (flBody inn alt out b)
 | ⟨l⟩ => by
  unfold flBody
  exact Hd.pass2 _ _ _ _ _ (Hd.nodes inn alt out [] h l)
theorem Hd.alts (inn alt : Int) (out : List S44) (h : Hd out) : ∀ l : List (SB65 S62), Hd (flAlts inn alt out l)
 | [] => by simpa [flAlts] using h
 | b :: l => by
  unfold flAlts
  exact Hd.alts inn (alt + 1) _ (Hd.body inn alt out h b) l
end
theorem right_root {p : List S44} (h : rightB p = true) : (rd_T44 p 0).f2 = true ∧ p.length ≤ 64 := by
 unfold rightB at h
 simp only [Bool.and_eq_true] at h
 obtain ⟨h1, -, h2⟩ := h
 unfold shapedB at h1
 simp only [Bool.and_eq_true, decide_eq_true_eq] at h1
 refine ⟨?_, h1.2.2⟩
 obtain ⟨x, r, he, hx⟩ := Hd.alts 0 0 [rootOf (nameP p) (sagaOf p)] ⟨_, [], rfl, rfl⟩ (sagaOf p)
 unfold makeL at h2
 rw [he] at h2
 cases p with
 | nil => simp at h1
 | cons y q =>
  unfold eqAll at h2
  rw [Bool.and_eq_true] at h2
  have h3 := h2.1
  unfold alikeB at h3
  simp only [Bool.and_eq_true, beq_iff_eq] at h3
  show y.f2 = true
  rw [h3.2.2.1, hx]
def openK (f : S52) (i : Nat) : List S40 := if f.f0 = 1 then [⟨(i : Int), false, 0⟩] else if f.f1 > f.f2 then (if f.f3 = true then [] else [⟨(i : Int), true, f.f2⟩]) else []
def opensL (l : List S52) : Nat → Nat → List S40
 | _, 0 => []
 | i, d + 1 => openK (rd_T52 l (i : Int)) i ++ opensL l (i + 1) d
theorem openK_len (f : S52) (i : Nat) : (openK f i).length ≤ 1 := by
 unfold openK
 split
 ·simp
 ·split
  ·split <;> simp
  ·simp
theorem opens_loop (l : List S52) (hl : l.length ≤ 1000) : ∀ (d i k : Nat) (acc : List S40), i + d = l.length → acc.length ≤ i → fact_Open.l0 (k + d + 1) acc l (l.length : Int) (i : Int) = some (acc ++ opensL l i d) := by
 intro d
 induction d with
 | zero =>
  intro i k acc hi ha
  unfold fact_Open.l0
  rw [if_neg (by omega)]
  simp [opensL]
 | succ d ih =>
  intro i k acc hi ha
  rw [show k + (d + 1) + 1 = (k + d + 1) + 1 from by omega]
  unfold fact_Open.l0 opensL openK
  have hw : wrap64 ((i : Int) + 1) = ((i + 1 : Nat) : Int) := by rw [w64f _ (by omega)]; omega
  rw [if_pos (by omega), if_pos (by omega), if_pos (by omega), hw]
  have ih0 := ih (i + 1) k acc (by omega) (by omega)
  by_cases h1 : (rd_T52 l (i : Int)).f0 = 1
  ·rw [if_pos h1, if_pos h1, if_pos (by omega), ih (i + 1) k _ (by omega) (by rw [List.length_append]; simp; omega), List.append_assoc]
  rw [if_neg h1, if_neg h1]
  by_cases h2 : (rd_T52 l (i : Int)).f1 > (rd_T52 l (i : Int)).f2
  ·rw [if_pos h2, if_pos h2]
   by_cases h3 : (rd_T52 l (i : Int)).f3 = true
   ·rw [if_pos h3, if_pos h3, ih0]; rfl
   ·rw [if_neg h3, if_neg h3, if_pos (by omega), ih (i + 1) k _ (by omega) (by rw [List.length_append]; simp; omega), List.append_assoc]
  ·rw [if_neg h2, if_neg h2, ih0]; rfl
def openF (p : List S44) (l : List S52) : List S40 := if factsB p l then opensL l 0 l.length else []
theorem check_up (p : List S44) (l : List S52) (hp : smallP p = true) (hl : l.length ≤ 100) (k : Nat) (hk : l.length + 3 ≤ k) : fact_Check.f k p l = some (if factsB p l then 0 else 2) := by
 obtain ⟨m, rfl⟩ : ∃ m, k = l.length + 2 + 1 + m := ⟨k - l.length - 3, by omega⟩
 clear hk
 induction m with
 | zero => exact fact_check_at p l hp (by omega)
 | succ m ih => exact fact_Check.mono _ _ _ _ ih
theorem open_f (p : List S44) (l : List S52) (hp : smallP p = true) (hl : l.length ≤ 100) (k : Nat) (hk : 110 ≤ k) : fact_Open.f k p l = some (openF p l) := by
 unfold fact_Open.f openF
 rw [check_up p l hp hl k (by omega), Option.bind_some]
 cases hF : factsB p l
 ·rfl
 ·obtain ⟨n, rfl⟩ : ∃ n, k = n + l.length + 1 := ⟨k - l.length - 1, by omega⟩
  rw [if_pos (by rfl), if_pos rfl]
  exact opens_loop l (by omega) l.length 0 n [] (by omega) (by simp)
theorem opens_mem (l : List S52) (x : S40) : ∀ (d i : Nat), x ∈ opensL l i d → ∃ n, i ≤ n ∧ n < i + d ∧ openK (rd_T52 l (n : Int)) n = [x] := by
 intro d
 induction d with
 | zero => intro i h; simp [opensL] at h
 | succ d ih =>
  intro i h
  unfold opensL at h
  rcases List.mem_append.1 h with h | h
  ·refine ⟨i, by omega, by omega, ?_⟩
   have hlen := openK_len (rd_T52 l (i : Int)) i
   match openK (rd_T52 l (i : Int)) i, h, hlen with
   | [y], h, _ => rw [List.mem_singleton.1 h]
  ·obtain ⟨n, h1, h2, h3⟩ := ih (i + 1) h
   exact ⟨n, by omega, by omega, h3⟩
theorem opens_far (l : List S52) (n : Nat) (x : S52) (hn : n < l.length) : ∀ (d i : Nat), (n < i ∨ i + d ≤ n) → opensL (l.set n x) i d = opensL l i d := by
 intro d
 induction d with
 | zero => intro i _; rfl
 | succ d ih =>
  intro i h
  unfold opensL
  rw [ih (i + 1) (by omega), rd_set _ _ _ _ hn, if_neg (by omega)]
theorem opens_less (l : List S52) (n : Nat) (x : S52) (hn : n < l.length) (h1 : (openK (rd_T52 l (n : Int)) n).length = 1) (h2 : openK x n = []) : ∀ (d i : Nat), i ≤ n → n < i + d → (opensL (l.set n x) i d).length + 1 = (opensL l i d).length := by
 intro d
 induction d with
 | zero => intro i _ _; omega
 | succ d ih =>
  intro i h3 h4
  unfold opensL
  rw [rd_set _ _ _ _ hn, List.length_append, List.length_append]
  by_cases e : n = i
  ·subst e
   rw [if_pos rfl, h1, h2, opens_far l n x hn d (n + 1) (by omega)]
   simp; omega
  ·rw [if_neg e]
   have := ih (i + 1) (by omega) (by omega)
   omega
def OneEnd (p : List S44) (l : List S52) (kd it t : Int) : Prop := ((applyL p l kd it t [1]).2 = 14 ∧ kd = 6 ∧ t = 3) ∨ ((applyL p l kd it t [1]).2 = 0 ∧ (openF p (applyL p l kd it t [1]).1).length + 1 = (openF p l).length)
theorem ends_well {p : List S44} {l : List S52} {n : Nat} {kd t : Int} {y : S52} (hF : factsB p l = true) (he : eventB kd n t [1] = true) (hn : n < l.length) (hs : (rd_T44 p (n : Int)).f2 = false) (hk : knownF (rd_T52 l (n : Int)) t kd = (y, true))
  (h1 : (openK (rd_T52 l (n : Int)) n).length = 1) (h2 : openK y n = []) : OneEnd p l kd n t := by
 have ha := apply_at (t := t) (k := kd) (it := (n : Int)) (s := [1]) hF he (by omega) hs (by rw [hk])
 rw [hk] at ha
 have hlaw := apply_law (p := p) (l := l) (k := kd) (it := (n : Int)) (t := t) (s := [1]) (by rw [ha])
 have hF2 := hlaw.1
 refine .inr ⟨by rw [ha], ?_⟩
 rw [ha] at hF2 ⊢
 simp only [Int.toNat_natCast] at hF2 ⊢
 unfold openF
 rw [if_pos hF, if_pos hF2, List.length_set]
 exact opens_less l n y hn h1 h2 l.length 0 (by omega) (by omega)
theorem stamp_one : stampB [1] = true := by decide
theorem open_law {p : List S44} {l : List S52} {x : S40} (hx : x ∈ openF p l) : (x.f1 = false → OneEnd p l 2 x.f0 x.f2 ∧ OneEnd p l 3 x.f0 x.f2) ∧ (x.f1 = true → OneEnd p l 5 x.f0 x.f2 ∧ OneEnd p l 6 x.f0 x.f2) := by
 unfold openF at hx
 by_cases hF : factsB p l = true
 ·rw [if_pos hF] at hx
  obtain ⟨n, -, hn, ho⟩ := opens_mem l x _ _ hx
  rw [Nat.zero_add] at hn
  obtain ⟨f1, f2, f3⟩ := (facts_iff p l).1 hF
  obtain ⟨hroot, h64⟩ := right_root f2
  have hok := f3 n hn
  unfold factOk at hok
  obtain ⟨⟨a, b, c, d⟩, hf⟩ : ∃ f, rd_T52 l (n : Int) = f := ⟨_, rfl⟩
  have hlen : (openK (rd_T52 l (n : Int)) n).length = 1 := by rw [ho]; rfl
  have hE := fun (kd t : Int) (y : S52) (he : eventB kd n t [1] = true) (hs : (rd_T44 p (n : Int)).f2 = false) (hk : knownF (rd_T52 l (n : Int)) t kd = (y, true)) (h2 : openK y n = []) => ends_well hF he hn hs hk hlen h2
  rw [hf] at hok ho hE
  simp only [Bool.and_eq_true, Bool.or_eq_true, Bool.not_eq_true'] at hok
  obtain ⟨hfine, hsub⟩ := hok
  rw [fine_iff] at hfine
  obtain ⟨g1, g2, g3, g4, g5, g6, g7⟩ := hfine
  have hs : (rd_T44 p (n : Int)).f2 = false := by
   rcases hsub with h | h
   ·exact h
   ·exfalso
    unfold zeroB at h
    simp at h
    obtain ⟨rfl, rfl, rfl, rfl⟩ := h
    simp [openK] at ho
  have hn0 : n ≠ 0 := by
   rintro rfl
   rw [show ((0 : Nat) : Int) = 0 from rfl, hroot] at hs
   cases hs
  have hit : itemOk (n : Int) = true := by unfold itemOk; simp; omega
  unfold openK at ho
  dsimp only at ho
  by_cases c1 : a = 1
  ·subst c1
   rw [if_pos rfl] at ho
   have e := (List.cons.inj ho).1
   subst e
   refine ⟨fun _ => ?_, fun h => by cases h⟩
   refine ⟨hE 2 0 ⟨2, 0, 0, false⟩ ?_ hs ?_ ?_, hE 3 0 ⟨3, 0, 0, false⟩ ?_ hs ?_ ?_⟩
   ·unfold eventB; rw [hit, stamp_one]; decide
   ·simp [knownF]
   ·simp [openK]
   ·unfold eventB; rw [hit, stamp_one]; decide
   ·simp [knownF]
   ·simp [openK]
  rw [if_neg c1] at ho
  by_cases c2 : b > c
  ·rw [if_pos c2] at ho
   cases d with
   | true => simp at ho
   | false =>
    rw [if_neg (by simp)] at ho
    have e := (List.cons.inj ho).1
    subst e
    have hb : b = c + 1 := by omega
    have w1 : wrap64 (c + 1) = c + 1 := w64f _ (by omega)
    refine ⟨fun h => (by cases h), fun _ => ⟨hE 5 c ⟨a, b, c, true⟩ ?_ hs ?_ ?_, ?_⟩⟩
    ·unfold eventB; rw [hit, stamp_one]; simp; omega
    ·simp [knownF, w1, hb]
    ·unfold openK; dsimp only; rw [if_neg c1, if_pos c2, if_pos rfl]
    ·by_cases c3 : c < 3
     ·refine hE 6 c ⟨a, b, c + 1, false⟩ ?_ hs ?_ ?_
      ·unfold eventB; rw [hit, stamp_one]; simp; omega
      ·simp [knownF, w1, hb, c3]
      ·unfold openK; dsimp only; rw [if_neg c1, if_neg (by omega)]
     ·refine .inl ⟨?_, rfl, by show c = 3; omega⟩
      show (applyL p l 6 (n : Int) c [1]).2 = 14
      have he : eventB 6 (n : Int) c [1] = true := by unfold eventB; rw [hit, stamp_one]; simp; omega
      have hx : applyB p l 6 (n : Int) c [1] = (14, l) := by
       unfold applyB
       rw [if_pos he, if_neg (by omega), if_neg (by rw [hs]; simp), hf, if_neg (by simp [knownF, c3])]
      unfold applyL
      rw [if_pos hF, hx]
      rfl
  ·rw [if_neg c2] at ho
   cases ho
 ·rw [if_neg hF] at hx
  cases hx
theorem opens_few (l : List S52) : ∀ (d i : Nat), (opensL l i d).length ≤ d := by
 intro d
 induction d with
 | zero => intro i; simp [opensL]
 | succ d ih =>
  intro i
  unfold opensL
  rw [List.length_append]
  have := openK_len (rd_T52 l (i : Int)) i
  have := ih (i + 1)
  omega
theorem openF_few (p : List S44) (l : List S52) : (openF p l).length ≤ l.length := by
 unfold openF
 split
 ·exact opens_few l _ _
 ·simp
theorem turn {p : List S44} {l : List S52} {o : List S40} (ho : o = openF p l) (hp : smallP p = true) (hl : l.length ≤ 100) (x6 : Int) (ends : List Int) (x9 it t : Int) (u : Bool) (h9 : 0 ≤ x9 ∧ x9 < 2 ∧ x9 < (ends.length : Int)) (hE : OneEnd p l (rd ends x9) it t) (k : Nat) (hk : 110 ≤ k) :
  argosylaw13_FactOpens.l1 (k + 1 + 1) l o x6 ends x9 p it u t = argosylaw13_FactOpens.l1 k l o x6 ends (wrap64 (x9 + 1)) p it u t := by
 rw [argosylaw13_FactOpens.l1]
 rw [if_pos h9.2.1, if_pos h9.1, if_pos h9.2.2, apply_f hp l hl, Option.bind_some]
 rcases hE with ⟨h1, h2, h3⟩ | ⟨h1, h2⟩
 ·rw [if_pos h1, if_pos h2, h3]
  simp only [argosylaw13_FactOpens.j4]
  rw [if_pos (by rfl)]
 ·rw [if_neg (by rw [h1]; decide), h1]
  simp only [argosylaw13_FactOpens.j4]
  have hlen := (apply_law h1).2.2.1
  have := openF_few p l
  rw [if_neg (by simp), if_pos trivial, open_f p _ hp (by omega) k hk, Option.bind_some, if_pos (by rw [ho, w64f _ (by omega)]; omega)]
theorem two_turns {p : List S44} {l : List S52} {o : List S40} (ho : o = openF p l) (hp : smallP p = true) (hl : l.length ≤ 100) (x6 : Int) (a b it t : Int) (u : Bool) (h1 : OneEnd p l a it t) (h2 : OneEnd p l b it t) (k : Nat) (hk : 110 ≤ k) :
  argosylaw13_FactOpens.l1 (k + 1 + 1 + 1 + 1 + 1) l o x6 [a, b] 0 p it u t = argosylaw13_FactOpens.l0 k l o (wrap64 (x6 + 1)) p := by
 rw [turn ho hp hl x6 [a, b] 0 it t u (by simp) (by exact h1) _ (by omega), show wrap64 (0 + 1) = 1 from by rw [w64f _ (by omega)]; rfl, turn ho hp hl x6 [a, b] 1 it t u (by simp) (by exact h2) _ (by omega), show wrap64 (1 + 1) = 2 from by rw [w64f _ (by omega)]; rfl]
 rw [argosylaw13_FactOpens.l1]
 rw [if_neg (by omega)]
theorem outer {p : List S44} {l : List S52} {o : List S40} (ho : o = openF p l) (hp : smallP p = true) (hl : l.length ≤ 100) : ∀ (d i k : Nat), i + d = o.length → 200 ≤ k → argosylaw13_FactOpens.l0 (k + 7 * d) l o (i : Int) p = some true := by
 have hf := openF_few p l
 rw [← ho] at hf
 intro d
 induction d with
 | zero =>
  intro i k hi hk
  obtain ⟨k, rfl⟩ : ∃ m, k = m + 1 := ⟨k - 1, by omega⟩
  rw [show k + 1 + 7 * 0 = k + 1 from by omega, argosylaw13_FactOpens.l0]
  rw [if_neg (by omega), lives_ev _ (by omega)]
  rfl
 | succ d ih =>
  intro i k hi hk
  have ih0 := ih (i + 1) k (by omega) hk
  rw [show k + 7 * (d + 1) = (k + 7 * d) + 1 + 1 + 1 + 1 + 1 + 1 + 1 from by omega, argosylaw13_FactOpens.l0]
  rw [if_pos (by omega), if_pos (by omega)]
  have hm : rd_T40 o (i : Int) ∈ openF p l := by
   rw [← ho]
   unfold rd_T40
   rw [Int.toNat_natCast, List.getD_eq_getElem?_getD, List.getElem?_eq_getElem (by omega)]
   exact List.getElem_mem _
  obtain ⟨l1, l2⟩ := open_law hm
  have hw : wrap64 ((i : Int) + 1) = ((i + 1 : Nat) : Int) := by rw [w64f _ (by omega)]; omega
  cases hb : (rd_T40 o (i : Int)).f1 with
  | false =>
   rw [if_neg (by simp), argosylaw13_FactOpens.j2, two_turns ho hp hl _ 2 3 _ _ _ (l1 hb).1 (l1 hb).2 _ (by omega), hw]
   exact ih0
  | true =>
   rw [if_pos rfl, argosylaw13_FactOpens.j2, two_turns ho hp hl _ 5 6 _ _ _ (l2 hb).1 (l2 hb).2 _ (by omega), hw]
   exact ih0
theorem j0_true (k : Nat) (hk : 81 ≤ k) (l : List S52) (p : List S44) : argosylaw13_FactOpens.j0 k l true p = some true := by
 obtain ⟨k, rfl⟩ : ∃ m, k = m + 1 := ⟨k - 1, by omega⟩
 rw [argosylaw13_FactOpens.j0, if_pos rfl, lives_ev _ (by omega)]
 rfl
theorem FactOpens : ∀ (x0 : S24) (x1 : List (S52)), ((x0.f0.length ≤ maxLen ∧ ∀ y ∈ x0.f0, (y.f0.size ≤ maxLen) ∧ (y.f1.size ≤ maxLen) ∧ (True) ∧ (True) ∧ ((Lit.int .i64 y.f4).wf = true) ∧ ((Lit.int .i64 y.f5).wf = true) ∧ ((Lit.int .i64 y.f6).wf = true) ∧ (y.f7.length ≤ maxLen ∧ ∀ z ∈ y.f7, (Lit.int .i64 z).wf = true))) → (x1.length ≤ maxLen ∧ ∀ y ∈ x1, ((Lit.int .i64 y.f0).wf = true) ∧ ((Lit.int .i64 y.f1).wf = true) ∧ ((Lit.int .i64 y.f2).wf = true) ∧ (True)) → ∃ k, argosylaw13_FactOpens.f k x0.f0 x1 = some true := by
 intro x0 x1 h0 h1
 obtain ⟨b, K, hs, hb⟩ := small_f x0.f0
 refine ⟨K + 1001, ?_⟩
 unfold argosylaw13_FactOpens.f
 rw [hs _ (by omega), Option.bind_some]
 cases b with
 | false =>
  rw [if_neg (by simp)]
  exact j0_true _ (by omega) _ _
 | true =>
  rw [if_pos rfl]
  by_cases e1 : (x1.length : Int) > 100
  ·rw [decide_eq_true e1]
   exact j0_true _ (by omega) _ _
  ·have hf := openF_few x0.f0 x1
   rw [decide_eq_false e1, show K + 1001 = (K + 1000) + 1 from rfl, argosylaw13_FactOpens.j0, if_neg (by simp), open_f _ _ (hb rfl).1 (by omega) _ (by omega), Option.bind_some]
   have := outer (o := openF x0.f0 x1) rfl (hb rfl).1 (by omega : x1.length ≤ 100) (openF x0.f0 x1).length 0 (K + 1000 - 7 * (openF x0.f0 x1).length) (by omega) (by omega)
   rw [show K + 1000 - 7 * (openF x0.f0 x1).length + 7 * (openF x0.f0 x1).length = K + 1000 from by omega] at this
   exact this
end Go.Proofs.Ytgilgicanggleab.Pure
end

section
namespace Go.Proofs.Ytgilgicanggleab.factOpens
open Go.ChangeShapes Go.WideShapes Go.ChangeAt Go.RowKit Go.Proofs.Ytgilgicanggleab.F Go.Proofs.YtgilgicanggleabW.PrintWords
open Go.ChangeMaps (open_string shut_string)
set_option linter.unusedVariables false
theorem own : ownKnob Try.prog.godebug = none := by kernel_rfl
theorem laidOut : laidOutB Try.prog = true := by kernel_rfl
theorem opens44 : Opens Try.prog 44 k44 (fun x => (x.f0.size ≤ maxLen) ∧ (x.f1.size ≤ maxLen) ∧ (True) ∧ (True) ∧ ((Lit.int .i64 x.f4).wf = true) ∧ ((Lit.int .i64 x.f5).wf = true) ∧ ((Lit.int .i64 x.f6).wf = true) ∧ (x.f7.length ≤ maxLen ∧ ∀ y ∈ x.f7, (Lit.int .i64 y).wf = true)) := by
 have h := opens_struct Try.underlying44 (by kernel_rfl) (opensF_cons rfl (by kernel_rfl) (opens_string Try.underlying9) (opensF_cons rfl (by kernel_rfl) (opens_string Try.underlying9) (opensF_cons rfl (by kernel_rfl) (opens_bool Try.underlying4) (opensF_cons rfl (by kernel_rfl) (opens_bool Try.underlying4) (opensF_cons rfl (by kernel_rfl) (opens_int Try.underlying3) (opensF_cons rfl (by kernel_rfl) (opens_int Try.underlying3) (opensF_cons rfl (by kernel_rfl) (opens_int Try.underlying3) (opensF_one rfl (by kernel_rfl) (opens_slice (0) Try.underlying27 (by kernel_rfl) (opens_int Try.underlying3))))))))))
 exact opens_iso (fun x : S44 => (x.f0, x.f1, x.f2, x.f3, x.f4, x.f5, x.f6, x.f7)) (fun y => ⟨y.1, y.2.1, y.2.2.1, y.2.2.2.1, y.2.2.2.2.1, y.2.2.2.2.2.1, y.2.2.2.2.2.2.1, y.2.2.2.2.2.2.2⟩) (fun _ => rfl) h
theorem opens24 : Opens Try.prog 24 k24 (fun x => (x.f0.length ≤ maxLen ∧ ∀ y ∈ x.f0, (y.f0.size ≤ maxLen) ∧ (y.f1.size ≤ maxLen) ∧ (True) ∧ (True) ∧ ((Lit.int .i64 y.f4).wf = true) ∧ ((Lit.int .i64 y.f5).wf = true) ∧ ((Lit.int .i64 y.f6).wf = true) ∧ (y.f7.length ≤ maxLen ∧ ∀ z ∈ y.f7, (Lit.int .i64 z).wf = true))) := by
 have h := opens_struct Try.underlying24 (by kernel_rfl) (opensF_one rfl (by kernel_rfl) (opens_slice (z44) Try.underlying22 (by kernel_rfl) opens44))
 exact opens_iso (fun x : S24 => (x.f0)) (fun y => ⟨y⟩) (fun _ => rfl) h
theorem opens52 : Opens Try.prog 52 k52 (fun x => ((Lit.int .i64 x.f0).wf = true) ∧ ((Lit.int .i64 x.f1).wf = true) ∧ ((Lit.int .i64 x.f2).wf = true) ∧ (True)) := by
 have h := opens_struct Try.underlying52 (by kernel_rfl) (opensF_cons rfl (by kernel_rfl) (opens_int Try.underlying50) (opensF_cons rfl (by kernel_rfl) (opens_int Try.underlying3) (opensF_cons rfl (by kernel_rfl) (opens_int Try.underlying3) (opensF_one rfl (by kernel_rfl) (opens_bool Try.underlying4)))))
 exact opens_iso (fun x : S52 => (x.f0, x.f1, x.f2, x.f3)) (fun y => ⟨y.1, y.2.1, y.2.2.1, y.2.2.2⟩) (fun _ => rfl) h
set_option maxRecDepth 100000 in
theorem contract (H : Type) (enc : TypeId × Value → H) (W : World) (base : Nat) (args : Array Value) (ds gs : List (DataW H)) (before : List MemPlace)
  (hval0 : ∀ (j : Nat) t v, Try.f4.params[j]? = some t → args[j]? = some v → Value.okWide Try.prog W .any base t v)
  (hW : DataW.Whole enc Try.prog Try.f4.params.toList Rows.factOpensSpec.vars false W args.toList ds gs before) :
  Calls Try.prog 4 args W fun e W' => ∃ v, e = .returned v ∧ Rows.factOpensSpec.post enc Try.prog Try.f4 false true false false W args v W' := by
 have hval : ∀ (j : Nat) t v, Try.f4.params[j]? = some t → args[j]? = some v → Value.okWide Try.prog W .any base t v := hval0
 have hW' := hW
 obtain ⟨p, q, hA0, hV, rfl, hfz, hnd⟩ := hW
 have hA : DataW.TrodAll enc Try.prog W 0 (fun _ => true) true Try.f4.params.toList args.toList ds p := hA0
 rw [Try.params4] at hA hval
 obtain ⟨v0, vs0, d0, ds0, p0, q0, hargs, rfl, rfl, h0, r0⟩ := trodAll_cons hA
 obtain ⟨v1, vs1, d1, ds1, p1, q1, rfl, rfl, rfl, h1, r1⟩ := trodAll_cons r0
 obtain ⟨rfl, rfl, rfl⟩ := trodAll_nil r1
 obtain rfl : args = #[v0, v1] := by cases args; simp_all
 obtain ⟨rfl, rfl⟩ := trodVars_none hV
 have k0 := h0
 have lt0 : ∀ x ∈ p0, x.block < W.heap.size := by obtain ⟨m, hm⟩ := k0; exact DataW.trod_lt m _ _ _ hm
 obtain ⟨cs0, rfl, _⟩ := okWide_struct Try.underlying24 (hval 0 24 v0 rfl rfl)
 obtain ⟨x0, hk0, hv0⟩ : ∃ x, k24.K W x cs0.toList ∧ ((x.f0.length ≤ maxLen ∧ ∀ y ∈ x.f0, (y.f0.size ≤ maxLen) ∧ (y.f1.size ≤ maxLen) ∧ (True) ∧ (True) ∧ ((Lit.int .i64 y.f4).wf = true) ∧ ((Lit.int .i64 y.f5).wf = true) ∧ ((Lit.int .i64 y.f6).wf = true) ∧ (y.f7.length ≤ maxLen ∧ ∀ z ∈ y.f7, (Lit.int .i64 z).wf = true))) := by obtain ⟨fuel, hf⟩ := h0; exact opens24.out enc W 0 _ _ fuel _ _ hf
 obtain ⟨A0_0, c0_0, e0, hc0_0, hC0_0⟩ := k24_open hk0
 obtain rfl := (Array.toList_inj.1 (e0.trans (List.toList_toArray).symm))
 have k1 := h1
 have lt1 : ∀ x ∈ p1, x.block < W.heap.size := by obtain ⟨m, hm⟩ := k1; exact DataW.trod_lt m _ _ _ hm
 obtain ⟨a1, len1, cap1, rfl⟩ := okWide_slice Try.underlying25 (hval 1 25 v1 rfl rfl)
 obtain ⟨x1, hk1, hv1⟩ : ∃ x, ((Kd.slice 52 k52)).K W x [.slice a1 len1 cap1] ∧ (x.length ≤ maxLen ∧ ∀ y ∈ x, ((Lit.int .i64 y.f0).wf = true) ∧ ((Lit.int .i64 y.f1).wf = true) ∧ ((Lit.int .i64 y.f2).wf = true) ∧ (True)) := by obtain ⟨fuel, hf⟩ := h1; exact (opens_slice (z52) Try.underlying25 (by kernel_rfl) opens52).out enc W 0 _ _ fuel _ _ hf
 obtain ⟨A1, c1, e1, hc1, hC1⟩ := hk1
 simp only [List.cons.injEq, Value.slice.injEq, and_true] at e1
 obtain ⟨rfl, rfl, rfl⟩ := e1
 obtain ⟨k, h⟩ := Pure.FactOpens x0 x1 hv0 hv1
 refine (F.argosylaw13_FactOpens.calls k _ _ x0.f0 _ _ x1 true W hC0_0 hc0_0 hC1 hc1 h).mono fun e W' ⟨he, bel0⟩ => ?_
 have bel : Below W.heap.size W W' := bel0
 subst he
 exact ⟨_, rfl, _, _, _, [], _, [], hW', trodAll_mk1 (shut_bool Try.underlying4 _), (trodAll_cons_mk (Below.trod laidOut (by kernel_rfl) (of_decide_eq_true (by kernel_rfl)) k0 bel lt0) (trodAll_cons_mk (Below.trod laidOut (by kernel_rfl) (of_decide_eq_true (by kernel_rfl)) k1 bel lt1) trodAll_mk0)), rfl, bel.frame _, fun h => by cases h⟩
set_option maxRecDepth 100000 in
theorem lifted (os : Os) (started : os.Started) (H : Type) (enc : TypeId × Value → H) :
  ReturnsInHanded {} Try.checked os 4 .any (Rows.factOpensSpec.pre6 enc Try.prog Try.f4 Rows.factOpensRow.domain false) (Rows.factOpensSpec.post enc Try.prog Try.f4 false true false false) := by
 refine returnsInHanded_of_change_sized (C := Try.checked) own started (by kernel_rfl) Try.func4
  (ChangeSpec.witness6 (enc := enc) (C := Try.checked) false ⟨#[], #[.agg #[.slice none 0 0], .slice none 0 0], []⟩ 8 (by kernel_rfl) (by kernel_rfl) (by kernel_rfl) (by kernel_rfl)) ?_
 intro W base args ds gs before hval hW _ _ _
 exact contract H enc W base args ds gs before hval hW
theorem said : Rows.FactOpensSaid :=
 OpenClaim.holds_of_wide 4 Try.f4 rfl rfl rfl rfl rfl rfl rfl ⟨rfl, rfl, rfl, rfl, rfl⟩ rfl rfl rfl rfl rfl (by kernel_rfl) Try.func4 (by kernel_rfl)
  (of_decide_eq_true (by kernel_rfl)) (by unfold Func.isWrapper; first | (rw [if_pos (by decide +kernel)]; kernel_rfl) | (rw [if_neg (by decide +kernel)]; exact ⟨rfl, rfl⟩))
  (fun os started H enc _ => lifted os started H enc)
end Go.Proofs.Ytgilgicanggleab.factOpens
namespace Go.Proofs.Ytgilgicanggleab
theorem factOpens_holds : Rows.FactOpensSaid := factOpens.said
end Go.Proofs.Ytgilgicanggleab
end
