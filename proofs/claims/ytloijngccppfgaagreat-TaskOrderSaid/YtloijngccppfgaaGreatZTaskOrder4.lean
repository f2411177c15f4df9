-- Texts of this seat's, joined.
import Derived.Test.YtloijngccppfgaaGreatZTaskOrder1
import Derived.Test.YtloijngccppfgaaGreatZTaskOrder2
import Derived.Test.YtloijngccppfgaaGreatZTaskOrder3
import Derived.Recover
import Derived.WalkSmall
import Derived.Shelf.Abstract
import Derived.BigRegion
import Derived.Deep.MidRow
import Derived.Deep.RegionWith
import Derived.Deep.RegionHeld2
import Derived.Deep.DeepCutAuto
import Derived.Deep.CutRange
import Derived.Lib.SliceRun
section
namespace Go.Proofs.YtloijngccppfgaaGreat.F
open Go.RowKit Go.Proofs.YtloijngccppfgaaGreatW.PrintWords Go.Proofs.YtloijngccppfgaaGreatW.PrintLast Go.Proofs.YtloijngccppfgaaGreatW.PrintMore
attribute [local go_sem] max2_int min2_int max_two min_two max_three min_three max_four min_four
set_option linter.unusedVariables false
set_option linter.unusedSimpArgs false
theorem info40_ : (Tryz.prog.info? 39).map (fun i => (i.zero, i.size, i.bytes)) = some (some (.agg #[.string ⟨#[]⟩, .string ⟨#[]⟩, .bool false, .bool false, .int .i64 0, .int .i64 0, .int .i64 0, .slice none 0 0]), 8, 88) := by kernel_rfl
theorem info3_ : (Tryz.prog.info? 3).map (fun i => (i.zero, i.size, i.bytes)) = some (some (.int .i64 0), 1, 8) := by kernel_rfl
def addAfter (out : List ItemK) (a k : Int) : List ItemK := out.set a.toNat ⟨(rd_T39 out a).f0, (rd_T39 out a).f1, (rd_T39 out a).f2, (rd_T39 out a).f3, (rd_T39 out a).f4, (rd_T39 out a).f5, (rd_T39 out a).f6, (rd_T39 out a).f7 ++ [k]⟩
def arcsTo (b : List NodeK) (ats : List Int) (a : Int) : List ByteArray → List ItemK → List ItemK
 | [], out => out
 | s :: r, out => arcsTo b ats a r (addAfter out a (rd ats (namedI b s)))
def pass2 (b : List NodeK) (ats : List Int) : Nat → List NodeK → List ItemK → List ItemK
 | _, [], out => out
 | i, x :: l, out => pass2 b ats (i + 1) l (arcsTo b ats (rd ats (i : Int)) x.f2 out)
mutual
def flNode (inn alt : Int) (out : List ItemK) : S112 → List ItemK
 | ⟨nm, un, af, sb, vi, al⟩ => flAlts (out.length : Int) 0 (out ++ [⟨nm, un, sb, vi, (al.length : Int), inn, alt, []⟩]) al
def flNodes (inn alt : Int) (out : List ItemK) (nums : List Int) : List S112 → List ItemK × List Int
 | [] => (out, nums)
 | x :: l => flNodes inn alt (flNode inn alt out x) (nums ++ [(out.length : Int)]) l
def flBody (inn alt : Int) (out : List ItemK) : SB110 S112 → List ItemK
 | ⟨l⟩ => pass2 l (flNodes inn alt out [] l).2 0 l (flNodes inn alt out [] l).1
def flAlts (inn alt : Int) (out : List ItemK) : List (SB110 S112) → List ItemK
 | [] => out
 | b :: l => flAlts inn (alt + 1) (flBody inn alt out b) l
end
mutual
def wNode : S112 → Nat
 | ⟨_, _, af, _, _, al⟩ => 1 + af.length + wAlts al
def wNodes : List S112 → Nat
 | [] => 0
 | x :: l => wNode x + wNodes l
def wBody : SB110 S112 → Nat
 | ⟨l⟩ => wNodes l
def wAlts : List (SB110 S112) → Nat
 | [] => 0
 | b :: l => wBody b + wAlts l
end
def aNodes (l : List NodeK) : Nat := (l.map fun x => 1 + wAlts x.f5).sum
def sAf (l : List NodeK) : Nat := (l.map fun x => x.f2.length).sum
theorem wNode_eq (x : NodeK) : wNode x = 1 + x.f2.length + wAlts x.f5 := by cases x; simp [wNode]
theorem wNodes_eq (l : List NodeK) : wNodes l = aNodes l + sAf l := by
 induction l with
 | nil => simp [wNodes, aNodes, sAf]
 | cons x l ih => rw [wNodes, ih, wNode_eq]; simp only [aNodes, sAf, List.map_cons, List.sum_cons]; omega
theorem wBody_eq (b : BodyK) : wBody b = wNodes b.f0 := by cases b; simp [wBody]
theorem aNodes_take (l : List NodeK) (q : Nat) (h : q < l.length) : aNodes (l.take (q + 1)) = aNodes (l.take q) + (1 + wAlts l[q].f5) := by
 unfold aNodes; rw [List.take_succ_eq_append_getElem h, List.map_append, List.sum_append]; simp only [List.map_cons, List.map_nil, List.sum_cons, List.sum_nil, Nat.add_zero]
theorem sAf_take (l : List NodeK) (q : Nat) (h : q < l.length) : sAf (l.take (q + 1)) = sAf (l.take q) + l[q].f2.length := by
 unfold sAf; rw [List.take_succ_eq_append_getElem h, List.map_append, List.sum_append]; simp only [List.map_cons, List.map_nil, List.sum_cons, List.sum_nil, Nat.add_zero]
theorem aNodes_le (l : List NodeK) (q : Nat) : aNodes (l.take q) ≤ aNodes l := by
 have e : aNodes l = aNodes (l.take q) + aNodes (l.drop q) := by
  unfold aNodes; rw [← List.sum_append, ← List.map_append, List.take_append_drop]
 omega
theorem sAf_le (l : List NodeK) (q : Nat) : sAf (l.take q) ≤ sAf l := by
 have e : sAf l = sAf (l.take q) + sAf (l.drop q) := by
  unfold sAf; rw [← List.sum_append, ← List.map_append, List.take_append_drop]
 omega
theorem wAlts_take (l : List BodyK) (q : Nat) (h : q < l.length) : wAlts (l.take (q + 1)) = wAlts (l.take q) + wNodes l[q].f0 := by
 induction l generalizing q with
 | nil => simp at h
 | cons b l ih =>
  cases q with
  | zero => simp [wAlts, wBody_eq]
  | succ q =>
   simp only [List.take_succ_cons, wAlts, List.getElem_cons_succ]
   rw [ih q (by simpa using h)]; omega
theorem wAlts_le (l : List BodyK) (q : Nat) : wAlts (l.take q) ≤ wAlts l := by
 induction l generalizing q with
 | nil => simp [wAlts]
 | cons b l ih =>
  cases q with
  | zero => simp [wAlts]
  | succ q => simp only [List.take_succ_cons, wAlts]; have := ih q; omega
theorem flNode_eq (inn alt : Int) (out : List ItemK) (x : NodeK) : flNode inn alt out x = flAlts (out.length : Int) 0 (out ++ [⟨x.f0, x.f1, x.f3, x.f4, (x.f5.length : Int), inn, alt, []⟩]) x.f5 := by cases x; simp [flNode]
theorem flBody_eq (inn alt : Int) (out : List ItemK) (b : BodyK) : flBody inn alt out b = pass2 b.f0 (flNodes inn alt out [] b.f0).2 0 b.f0 (flNodes inn alt out [] b.f0).1 := by cases b; simp [flBody]
def Bnd (N : Nat) (xs : List ItemK) : Prop := xs.length ≤ N ∧ ∀ it ∈ xs, it.f7.length ≤ N
theorem Bnd.mono {N M : Nat} {xs : List ItemK} (h : Bnd N xs) (hN : N ≤ M) : Bnd M xs := ⟨Nat.le_trans h.1 hN, fun it hi => Nat.le_trans (h.2 it hi) hN⟩
theorem Bnd.snoc {N : Nat} {xs : List ItemK} (h : Bnd N xs) {it : ItemK} (hi : it.f7 = []) : Bnd (N + 1) (xs ++ [it]) :=
 ⟨by rw [List.length_append]; have := h.1; simpa using this, fun y hy => by
  rcases List.mem_append.1 hy with hy | hy
  ·exact Nat.le_succ_of_le (h.2 y hy)
  ·rw [List.mem_singleton.1 hy, hi]; simp⟩
theorem Bnd.add {N : Nat} {xs : List ItemK} (h : Bnd N xs) {a k : Int} (ha : a.toNat < xs.length) : Bnd (N + 1) (addAfter xs a k) :=
 ⟨by unfold addAfter; rw [List.length_set]; exact Nat.le_succ_of_le h.1, fun y hy => by
  unfold addAfter at hy
  rcases List.mem_or_eq_of_mem_set hy with hy | rfl
  ·exact Nat.le_succ_of_le (h.2 y hy)
  ·have hm : rd_T39 xs a ∈ xs := by unfold rd_T39; rw [List.getD_eq_getElem?_getD, List.getElem?_eq_getElem ha]; exact List.getElem_mem ha
   have := h.2 _ hm
   simp only [List.length_append, List.length_singleton]
   omega⟩
theorem arcsN_some (b : List NodeK) (i : Int) : ∀ (r bef : List ByteArray) (out o : List S227), arcsN b i bef r out = some o → ∀ s ∈ r, 0 ≤ namedI b s
 | [], _, _, _, _, s, hs => by cases hs
 | t :: r, bef, out, o, h, s, hs => by
  unfold arcsN at h
  split at h
  ·rename_i hc
   simp only [Bool.and_eq_true, decide_eq_true_eq] at hc
   rcases List.mem_cons.1 hs with rfl | hs
   ·exact hc.1.1
   ·exact arcsN_some b i r _ _ _ h s hs
  ·cases h
theorem arcsL_some (b : List NodeK) : ∀ (l : List NodeK) (i : Int) (out o : List S227), arcsL b i l out = some o → ∀ x ∈ l, ∀ s ∈ x.f2, 0 ≤ namedI b s
 | [], _, _, _, _, x, hx => by cases hx
 | y :: l, i, out, o, h, x, hx => by
  unfold arcsL at h
  split at h
  ·cases h
  ·rename_i o2 ho
   rcases List.mem_cons.1 hx with rfl | hx
   ·exact arcsN_some b i _ _ _ _ ho
   ·exact arcsL_some b l _ _ _ h x hx
theorem idxF_lt {α : Type} (p : α → Bool) : ∀ (l : List α) (i : Int), idxF p l i < i + (l.length : Int) ∨ idxF p l i = -1
 | [], i => by simp [idxF]
 | x :: l, i => by
  unfold idxF
  split
  ·left; simp only [List.length_cons]; omega
  ·rcases idxF_lt p l (i + 1) with h | h
   ·left; simp only [List.length_cons]; omega
   ·right; exact h
theorem sound_named {l : List BodyK} (h : soundB l = true) {b : BodyK} (hb : b ∈ l) : b.f0.length ≤ 16 ∧ ∀ x ∈ b.f0, ∀ s ∈ x.f2, 0 ≤ namedI b.f0 s ∧ namedI b.f0 s < (b.f0.length : Int) := by
 unfold soundB at h
 rw [Bool.and_eq_true, List.all_eq_true] at h
 have h1 := h.2 b hb
 unfold bodySound at h1
 simp only [Bool.and_eq_true, decide_eq_true_eq] at h1
 refine ⟨h1.1.2, fun x hx s hs => ?_⟩
 have h2 := h1.2
 split at h2
 ·cases h2
 ·rename_i a ha
  have h3 := arcsL_some _ _ _ _ _ ha x hx s hs
  refine ⟨h3, ?_⟩
  unfold namedI at h3 ⊢
  rcases idxF_lt (isName s) b.f0 0 with h4 | h4
  ·omega
  ·omega
theorem itm_get {W : World} {base : Nat} {ok : Nat → Prop} {v : Value} {out : List ItemK} (HS : Kd.S k39 39 W base ok v out) {a : Nat} (ha : a < out.length) :
  ∃ (g cap : Nat) (oki : Nat → Prop) (v7 : Value) (cs : List Value), v = .slice (some ⟨g, 0, none⟩) out.length cap ∧ W.cell? ⟨g, a * 8 + 7, none⟩ = some v7 ∧ W.frozen? ⟨g, a * 8 + 7, none⟩ = false ∧ Kd.R (Kd.int .i64) 3 W base oki v7 (rd_T39 out (a : Int)).f7 ∧ (∀ k, oki k → ok k ∧ k ≠ g) ∧ ok g ∧ base ≤ g ∧
   cs = [.string (rd_T39 out (a : Int)).f0, .string (rd_T39 out (a : Int)).f1, .bool (rd_T39 out (a : Int)).f2, .bool (rd_T39 out (a : Int)).f3, .int .i64 (rd_T39 out (a : Int)).f4, .int .i64 (rd_T39 out (a : Int)).f5, .int .i64 (rd_T39 out (a : Int)).f6, v7] ∧
   Kd.H k39 39 W base ok (.slice (some ⟨g, 0, none⟩) out.length cap) out (a : Int) oki cs := by
 obtain ⟨g, cap, rfl, hbg, hglt, _⟩ := Kd.S_form HS (by omega)
 obtain ⟨oki, c, hcl, hM, hcc, hfr, hoki, hH⟩ := Kd.S_elem HS z39 (a : Int) (by omega) (by omega)
 have hrd : out.getD (a : Int).toNat z39 = rd_T39 out (a : Int) := rfl
 rw [hrd] at hM
 obtain ⟨v7, rfl, hR⟩ := k39_openM hM
 have h1 := hcc 7 v7 rfl
 have h2 := hfr 7
 rw [Int.toNat_natCast] at h1 h2
 refine ⟨g, cap, oki, v7, _, rfl, h1, h2, hR, hoki, (Kd.S_R HS).1 g (by simp [Value.ownBlock]), hbg, rfl, hH⟩
theorem itm_back {W w1 : World} {base g cap a n : Nat} {ok oki : Nat → Prop} {v7 v1 : Value} {out : List ItemK} {x : ItemK} {l : List Int} (ha : a < n)
  (hH : Kd.H k39 39 W base ok (.slice (some ⟨g, 0, none⟩) n cap) out (a : Int) oki [.string x.f0, .string x.f1, .bool x.f2, .bool x.f3, .int .i64 x.f4, .int .i64 x.f5, .int .i64 x.f6, v7]) (hg : W.grownBy w1 v7.ownBlock) (hve : ∀ k, v7.ownBlock = some k → oki k)
  (hfresh : ∀ k, W.heap.size ≤ k → ok k) (hR : Kd.R (Kd.int .i64) 3 w1 base (fun k => oki k ∨ W.heap.size ≤ k) v1 l) :
  Kd.S k39 39 (w1.setCell ⟨g, a * 8 + 7, none⟩ v1) base ok (.slice (some ⟨g, 0, none⟩) n cap) (out.set a ⟨x.f0, x.f1, x.f2, x.f3, x.f4, x.f5, x.f6, l⟩) ∧ w1.grownBy (w1.setCell ⟨g, a * 8 + 7, none⟩ v1) (some g) := by
 have h2 := Kd.H_widen hH
 have h3 := Kd.H_grown h2 hg (fun k hk => .inl (hve k hk))
 have h4 := Kd.S_seg0 h3 (by omega) (by omega) (seg := [v1]) (j := 7) (Nat.le_refl 8) (x' := (⟨x.f0, x.f1, x.f2, x.f3, x.f4, x.f5, x.f6, l⟩ : ItemK)) (okp := fun k => oki k ∨ ok k ∧ W.heap.size ≤ k) (k39_mkM _ _ _ _ (Kd.R_mono hR (fun k hk => hk.elim .inl (fun h => .inr ⟨hfresh k h, h⟩)))) (fun _ hk => hk)
 rw [Int.toNat_natCast] at h4
 simpa [show (k39).sz = 8 from rfl, World.setCells] using h4
theorem frozen_al {W : World} {a : Addr} {v : Value} {o : Obj} (h : W.cell? a = some v) (hf : W.frozen? a = false) : (W.alloc o).frozen? a = false := by
 have := Below.heap_alloc W o a.block (World.block_lt_of_cell? W a h)
 simpa [World.frozen?, this] using hf
theorem ats_set (nums : List Int) (m n q : Nat) (hn : nums.length = q) (hq : q < n) : (nums ++ List.replicate (n - q) (0 : Int)).set q (m : Int) = (nums ++ [(m : Int)]) ++ List.replicate (n - (q + 1)) 0 := by
 obtain ⟨d, rfl⟩ : ∃ d, n = q + 1 + d := ⟨n - (q + 1), by omega⟩
 rw [show q + 1 + d - q = d + 1 by omega, show q + 1 + d - (q + 1) = d by omega, List.replicate_succ, List.set_append_right _ _ (by omega), hn, Nat.sub_self]
 simp
theorem Q_drew_ {W : World} {base : Nat} {ok : Nat → Prop} {v : Value} {xs : List Int} (h : Kd.Q (Kd.int .i64) 3 W base ok v xs) : Kd.Q (Kd.int .i64) 3 W.drew base ok v xs := Kd.Q_below h (below_drew (Below.refl _ _))
theorem at_cell {W : World} {base g n cap q : Nat} {ok : Nat → Prop} {nums : List Int} {m : Int} {z : List Int} (h : Kd.Q (Kd.int .i64) 3 W base ok (.slice (some ⟨g, 0, none⟩) n cap) ((nums ++ [m]) ++ z)) (hn : nums.length = q) (hq : q < n) : W.drew.cell? ⟨g, q, none⟩ = some (.int .i64 m) := by
 have h1 := (Kd.Q_cell (0 : Int) (Q_drew_ h) (q : Int) (by omega) (by omega)).1
 rw [Int.toNat_natCast, Nat.zero_add] at h1
 rw [h1]
 simp [rdOf, ← hn]
def Stop_ (p : Prop) : Prop := p
theorem stop_ {p : Prop} (h : Stop_ p) : p := h
theorem frozen_below {W W2 : World} {a : Addr} {v : Value} (hb : Below W.heap.size W W2) (h : W.cell? a = some v) (hf : W.frozen? a = false) : W2.drew.frozen? a = false := by
 have := hb.block a.block (World.block_lt_of_cell? W a h)
 have h2 : W2.drew.heap[a.block]? = W.heap[a.block]? := this
 simpa [World.frozen?, h2] using hf
theorem at_form {W : World} {base g N : Nat} {v : Value} {xs : List Int} (h : Kd.R (Kd.int .i64) 3 W base (fun k => k = g) v xs) (hb : ∃ b, v.ownBlock = some b ∧ N ≤ b) : ∃ c, v = .slice (some ⟨g, 0, none⟩) xs.length c := by
 obtain ⟨A, c, rfl⟩ := Kd.R_slice h
 obtain ⟨b, hb, _⟩ := hb
 cases A with
 | none => simp [Value.ownBlock] at hb
 | some a =>
  obtain ⟨g', rfl⟩ := Kd.R_head h
  have : g' = g := h.1 g' (by simp [Value.ownBlock])
  subst this
  exact ⟨c, rfl⟩
theorem addAfter_length (out : List ItemK) (a k : Int) : (addAfter out a k).length = out.length := by simp [addAfter]
theorem arcsTo_length (b : List NodeK) (ats : List Int) (a : Int) : ∀ (r : List ByteArray) (out : List ItemK), (arcsTo b ats a r out).length = out.length
 | [], _ => rfl
 | s :: r, out => by rw [arcsTo, arcsTo_length b ats a r, addAfter_length]
theorem pass2_length (b : List NodeK) (ats : List Int) : ∀ (l : List NodeK) (i : Nat) (out : List ItemK), (pass2 b ats i l out).length = out.length
 | [], _, _ => rfl
 | x :: l, i, out => by rw [pass2, pass2_length b ats l, arcsTo_length]
mutual
theorem flNode_len (inn alt : Int) (out : List ItemK) : ∀ x : S112, out.length < (flNode inn alt out x).length
 | ⟨nm, un, af, sb, vi, al⟩ => by
  unfold flNode
  have := flAlts_len (out.length : Int) 0 (out ++ [⟨nm, un, sb, vi, (al.length : Int), inn, alt, []⟩]) al
  rw [List.length_append] at this
  simp only [List.length_singleton] at this
  omega
theorem flNodes_len (inn alt : Int) (out : List ItemK) (nums : List Int) : ∀ l : List S112, out.length ≤ (flNodes inn alt out nums l).1.length
 | [] => by simp [flNodes]
 | x :: l => by
  unfold flNodes
  have h1 := flNode_len inn alt out x
  have h2 := flNodes_len inn alt (flNode inn alt out x) (nums ++ [(out.length : Int)]) l
  omega
theorem flBody_len (inn alt : Int) (out : List ItemK) : ∀ b : SB110 S112, out.length ≤ (flBody inn alt out b).length
 | ⟨l⟩ => by
  unfold flBody
  rw [pass2_length]
  exact flNodes_len inn alt out [] l
theorem flAlts_len (inn alt : Int) (out : List ItemK) : ∀ l : List (SB110 S112), out.length ≤ (flAlts inn alt out l).length
 | [] => by simp [flAlts]
 | b :: l => by
  unfold flAlts
  have h1 := flBody_len inn alt out b
  have h2 := flAlts_len inn (alt + 1) (flBody inn alt out b) l
  omega
end
def FlatP (w0 w : World) (ok : Nat → Prop) (N : Nat) (r : List ItemK) (e : Ending) (w' : World) : Prop := Below w0.heap.size w0 w' ∧ Kept w w' ok ∧ Bnd N r ∧ ∃ v, e = .returned v ∧ Kd.S k39 39 w' w0.heap.size (fun k => ok k ∨ w.heap.size ≤ k) v r
def FlatC (l : List BodyK) : Prop := ∀ (d : Int) (w0 w : World) (A : Option Addr) (c : Nat) (ok : Nat → Prop) (v : Value) (xs : List ItemK) (inn : Int) (N : Nat), Kd.C k110 w0 A l.length l → l.length ≤ c → soundB l = true → (∀ u ∈ visAlts d l, soundB u.n.f5 = true) →
 Below w0.heap.size w0 w → Kd.S k39 39 w w0.heap.size ok v xs → Bnd N xs → N + wAlts l ≤ 1000000 → Calls Tryz.prog 52 #[v, .int .i64 inn, .slice A l.length c] w (FlatP w0 w ok (N + wAlts l) (flAlts inn 0 xs l))
theorem flAlts_drop (inn alt : Int) (out : List ItemK) (l : List BodyK) (i : Nat) (h : i < l.length) : flAlts inn alt out (l.drop i) = flAlts inn (alt + 1) (flBody inn alt out l[i]) (l.drop (i + 1)) := by rw [List.drop_eq_getElem_cons h]; simp [flAlts]
theorem flNodes_drop (inn alt : Int) (out : List ItemK) (nums : List Int) (l : List NodeK) (i : Nat) (h : i < l.length) : flNodes inn alt out nums (l.drop i) = flNodes inn alt (flNode inn alt out l[i]) (nums ++ [(out.length : Int)]) (l.drop (i + 1)) := by rw [List.drop_eq_getElem_cons h]; simp [flNodes]
theorem vis_child {d : Int} {l : List BodyK} {i : Nat} (h : i < l.length) {q : Nat} (hq : q < l[i].f0.length) {P : Vis → Prop} (hall : ∀ u ∈ visAlts d l, P u) : P ⟨l[i].f0[q], l[i], d⟩ ∧ ∀ u ∈ visAlts (wrap64 (d + 1)) l[i].f0[q].f5, P u := by
 rw [visAlts_split d l i h] at hall
 have h1 : ∀ u ∈ visNodes l[i] d l[i].f0, P u := fun u hu => hall u (List.mem_append_right _ (List.mem_append_left _ hu))
 rw [visNodes_split l[i] d l[i].f0 q hq] at h1
 exact ⟨h1 _ (List.mem_append_right _ List.mem_cons_self), fun u hu => h1 u (List.mem_append_right _ (List.mem_cons_of_mem _ (List.mem_append_left _ hu)))⟩
set_option maxHeartbeats 16000000 in
set_option maxRecDepth 100000 in
theorem flat_walk (l : List BodyK) (ih : ∀ b ∈ l, ∀ x ∈ b.f0, FlatC x.f5) : FlatC l := by
 intro d w0 w A c ok v xs inn N hC hc hs hall hB hS hN hW
 have IH := Aside0.mk ih
 have HC := Aside0.mk hC
 have HLC := Aside0.mk hc
 have HSB := Aside0.mk hs
 have HALL := Aside0.mk hall
 have HB0 := Aside0.mk hB
 have HS0 := Aside0.mk hS
 have HN0 := Aside0.mk hN
 have HW0 := Aside0.mk hW
 have HM := Aside0.mk (Kd.C_max hC)
 obtain ⟨A0, c0, rfl⟩ := Kd.S_slice hS
 clear ih hC hc hs hall hB hS hN hW
 go_enter Tryz.func52, Tryz.ntmps52
 go_wp2
 go_loopg [0, 19] l.length (fun kq v0 v19 w' => ∃ (i : Nat) (out : List ItemK), i + kq = l.length ∧ v19 = .int .i64 i ∧ Aside0 (Below w0.heap.size w0 w') ∧ Aside0 (Kept w w' ok) ∧ Aside0 (Bnd (N + wAlts (l.take i)) out) ∧ Aside0 (flAlts inn 0 xs l = flAlts inn (i : Int) out (l.drop i)) ∧ Aside0 (Kd.S k39 39 w' w0.heap.size (fun k => ok k ∨ w.heap.size ≤ k) v0 out))
 case atStart => exact ⟨0, xs, by omega, rfl, HB0, ⟨Kept.refl _ _⟩, ⟨by simpa [wAlts] using HN0.out⟩, ⟨rfl⟩, ⟨Kd.S_mono HS0.out (fun _ hk => .inl hk)⟩⟩
 case round =>
  obtain ⟨wo, hwo⟩ : ∃ x, x = wr := ⟨_, rfl⟩
  subst hwo
  obtain ⟨i, out, hi, rfl, HB, HK, HN, HI, HS⟩ := hrel
  have hm := HM.out
  cases gk with
  | zero =>
   obtain rfl : i = l.length := by omega
   obtain ⟨A1, c1, rfl⟩ := Kd.S_slice HS.out
   have HE : Aside0 (flAlts inn 0 xs l = out) := ⟨by rw [HI.out, List.drop_eq_nil_of_le (Nat.le_refl _)]; simp [flAlts]⟩
   have HN' : Aside0 (Bnd (N + wAlts l) out) := ⟨by have := HN.out; rwa [List.take_length] at this⟩
   go_wp2
   go_ret
   refine ⟨HB.out, HK.out, ?_, _, rfl, ?_⟩
   ·rw [HE.out]; exact HN'.out
   ·rw [HE.out]; exact HS.out
  | succ k =>
   have hlt : i < l.length := by omega
   obtain ⟨A1, c1, rfl⟩ := Kd.S_slice HS.out
   obtain ⟨ad, A2, c2, e0, x0, l2, g2⟩ := at_T110 HC.out (i : Int) (by omega) (by omega)
   subst e0
   rw [Int.toNat_natCast] at x0
   replace x0 := (HB.out.cell (World.block_lt_of_cell? w0 _ x0)).trans x0
   have hrd : rd_T110 l (i : Int) = l[i] := by unfold rd_T110; rw [Int.toNat_natCast, List.getD_eq_getElem?_getD, List.getElem?_eq_getElem hlt]; rfl
   rw [hrd] at x0 l2 g2
   have HNB := Aside0.mk (sound_named HSB.out (List.getElem_mem hlt))
   have HIHB : Aside0 (∀ x ∈ l[i].f0, FlatC x.f5) := ⟨fun x hx => IH.out l[i] (List.getElem_mem hlt) x hx⟩
   have HCH : Aside0 (∀ x ∈ l[i].f0, soundB x.f5 = true ∧ ∀ u ∈ visAlts (wrap64 (d + 1)) x.f5, soundB u.n.f5 = true) := ⟨fun x hx => by obtain ⟨q, hq, rfl⟩ := List.getElem_of_mem hx; exact vis_child (P := fun u => soundB u.n.f5 = true) hlt hq HALL.out⟩
   have HWT : Aside0 (wAlts (l.take (i + 1)) = wAlts (l.take i) + wNodes l[i].f0) := ⟨wAlts_take l i hlt⟩
   have HWL : Aside0 (N + wAlts (l.take (i + 1)) ≤ 1000000) := ⟨Nat.le_trans (Nat.add_le_add_left (wAlts_le l (i + 1)) N) HW0.out⟩
   have HD : Aside0 (flAlts inn (i : Int) out (l.drop i) = flAlts inn ((i : Int) + 1) (pass2 l[i].f0 (flNodes inn i out [] l[i].f0).2 0 l[i].f0 (flNodes inn i out [] l[i].f0).1) (l.drop (i + 1))) := ⟨by rw [flAlts_drop inn i out l i hlt, flBody_eq]⟩
   obtain ⟨⟨b⟩, hbx⟩ : ∃ x, l[i] = x := ⟨_, rfl⟩
   simp only [hbx] at x0 l2 g2 HNB HIHB HCH HWT HD
   have HI2 := Aside0.mk hi
   have HNX : Aside0 (Value.int .i64 (wrap64 ((i : Int) + 1)) = .int .i64 ((i + 1 : Nat) : Int)) := ⟨by rw [show wrap64 ((i : Int) + 1) = ((i + 1 : Nat) : Int) from by unfold wrap64; omega]⟩
   have hlt' : (i : Int) < (l.length : Int) := by omega
   have h0 : (0 : Int) ≤ i := by omega
   have HCB := Aside0.mk g2
   have HLB := Aside0.mk l2
   have hb16 := HNB.out.1
   clear hrd hbx hi g2 l2
   have HGB := Aside0.mk (blk_new wo (.cells #[.slice A2 b.length c2] 110 (0, 0)))
   have HBB := Aside0.mk (HB.out.alloc HB.out.size (.cells #[.slice A2 b.length c2] 110 (0, 0)))
   have HKB := Aside0.mk (HK.out.alloc (.cells #[.slice A2 b.length c2] 110 (0, 0)))
   have HSB2 := Aside0.mk (Kd.S_alloc HS.out (.cells #[.slice A2 b.length c2] 110 (0, 0)))
   go_wp2_with ((with_reducible refine gate_dst (N := 27) rfl ?_); refine Kd.R_make (Kd.int .i64) (w0 := wo.alloc (.cells #[.slice A2 b.length c2] 110 (0, 0))) w0.heap.size 3 rfl (N := 27) rfl 28 _ _ rfl (b.length : Int) rfl rfl Tryz.underlying28 (.int .i64 0) 8 info3_ rfl (by decide) (by omega) (0 : Int) (ok := fun k => k = wo.heap.size + 1) (okp := fun _ => False) rfl (fun _ hk => hk.elim) (by simp) (by omega) (by omega) (Below.refl _ _) HBB.out.size ?_; intro vA wA hA hbA hgA hkA; obtain ⟨cA, rfl⟩ := at_form hA hkA; have HQA := Aside0.mk (Kd.Q_of_R hA); have HBA := Aside0.mk (HBB.out.trans hbA); have HKA := Aside0.mk (Kept.of_grown hgA HKB.out (fun k hk => by cases hk)); have HSA := Aside0.mk (Kd.S_mono (Kd.S_grown (Kd.S_bound HSB2.out) hgA (fun k _ => by simp)) (fun k hk => (⟨hk.1, by have h1 := hk.2.2.1; simp at h1; omega⟩ : (ok k ∨ w.heap.size ≤ k) ∧ k ≠ wo.heap.size + 1))); have HGA := Aside0.mk (blk_grown HGB.out hgA (by simp)); have c0 : wA.cell? ⟨wo.heap.size, 0, none⟩ = some (.slice A2 b.length c2) := (blk_cell HGA.out 0).trans rfl; clear hA hbA hgA hkA)
   rw [show (List.replicate ((b.length : Int)).toNat (0 : Int)).length = b.length from by simp] at HQA
   have HSZ : Aside0 (w.heap.size ≤ wo.heap.size) := ⟨HK.out.1⟩
   clear c0
   go_loopg [0, 31] b.length (fun kq v0 v31 w' => ∃ (q : Nat) (o2 : List ItemK) (nums : List Int), q + kq = b.length ∧ v31 = .int .i64 q ∧ Aside0 (nums.length = q) ∧ Aside0 (∀ m ∈ nums, 0 ≤ m ∧ m < (o2.length : Int)) ∧ Aside0 (flNodes inn i out [] b = flNodes inn i o2 nums (b.drop q)) ∧ Aside0 (Below w0.heap.size w0 w') ∧ Aside0 (Kept w w' ok) ∧
    Aside0 (Kd.S k39 39 w' w0.heap.size (fun k => (ok k ∨ w.heap.size ≤ k) ∧ k ≠ wo.heap.size + 1) v0 o2) ∧ Aside0 (Kd.Q (Kd.int .i64) 3 w' w0.heap.size (fun k => k = wo.heap.size + 1) (.slice (some ⟨wo.heap.size + 1, 0, none⟩) b.length cA) (nums ++ List.replicate (b.length - q) 0)) ∧
    Aside0 (w'.heap[wo.heap.size]? = some (.cells #[.slice A2 b.length c2] 110 (0, 0))) ∧ Aside0 (Bnd (N + wAlts (l.take i) + aNodes (b.take q)) o2))
   case atStart => exact ⟨0, out, [], by omega, rfl, ⟨rfl⟩, ⟨fun m hm => by cases hm⟩, ⟨rfl⟩, HBA, HKA, HSA, by simpa using HQA, HGA, ⟨by simpa [aNodes] using HN.out⟩⟩
   case round =>
    obtain ⟨w1, hw1⟩ : ∃ x, x = wr := ⟨_, rfl⟩
    subst hw1
    obtain ⟨q, o2, nums, hq, rfl, HNL, HNM, HI3, HB1, HK1, HS1, HQ1, HG1, HN1⟩ := hrel
    obtain ⟨A3, c3, rfl⟩ := Kd.S_slice HS1.out
    cases gk with
    | zero =>
     obtain rfl : q = b.length := by omega
     have HFE : Aside0 (flNodes inn i out [] b = (o2, nums)) := ⟨by rw [HI3.out, List.drop_eq_nil_of_le (Nat.le_refl _)]; simp [flNodes]⟩
     rw [Nat.sub_self, List.replicate_zero, List.append_nil] at HQ1
     have HN1' : Aside0 (Bnd (N + wAlts (l.take i) + aNodes b) o2) := ⟨by have := HN1.out; rwa [List.take_length] at this⟩
     have c0 : w1.cell? ⟨wo.heap.size, 0, none⟩ = some (.slice A2 b.length c2) := (blk_cell HG1.out 0).trans rfl
     go_wp2
     clear c0
     go_loopg [70] b.length (fun kq v70 w' => ∃ (q : Nat) (o3 : List ItemK), q + kq = b.length ∧ v70 = .int .i64 q ∧ Aside0 (o3.length = o2.length) ∧ Aside0 (pass2 b nums 0 b o2 = pass2 b nums q (b.drop q) o3) ∧ Aside0 (Below w0.heap.size w0 w') ∧ Aside0 (Kept w w' ok) ∧
      Aside0 (Kd.S k39 39 w' w0.heap.size (fun k => (ok k ∨ w.heap.size ≤ k) ∧ k ≠ wo.heap.size + 1) (.slice A3 o2.length c3) o3) ∧ Aside0 (Kd.Q (Kd.int .i64) 3 w' w0.heap.size (fun k => k = wo.heap.size + 1) (.slice (some ⟨wo.heap.size + 1, 0, none⟩) b.length cA) nums) ∧
      Aside0 (w'.heap[wo.heap.size]? = some (.cells #[.slice A2 b.length c2] 110 (0, 0))) ∧ Aside0 (Bnd (N + wAlts (l.take i) + aNodes b + sAf (b.take q)) o3))
     case atStart => exact ⟨0, o2, by omega, rfl, ⟨rfl⟩, ⟨rfl⟩, HB1, HK1, HS1, HQ1, HG1, ⟨by simpa [sAf] using HN1'.out⟩⟩
     case round =>
      obtain ⟨w2, hw2⟩ : ∃ x, x = wr := ⟨_, rfl⟩
      subst hw2
      obtain ⟨q, o3, hq, rfl, HO3, HP3, HB2, HK2, HS2, HQ2, HG2, HN2⟩ := hrel
      cases gk with
      | zero =>
       obtain rfl : q = b.length := by omega
       have HE3 : Aside0 (pass2 b nums 0 b o2 = o3) := ⟨by rw [HP3.out, List.drop_eq_nil_of_le (Nat.le_refl _)]; rfl⟩
       go_wp2
       go_roundg k
       case measure => omega
       case rel => exact ⟨i + 1, o3, by have := HI2.out; omega, by first | exact HNX.out | go_num, HB2, HK2, ⟨HN2.out.mono (by have h1 := HWT.out; have h2 := wNodes_eq b; rw [List.take_length]; omega)⟩, ⟨by rw [HI.out, HD.out, HFE.out, HE3.out]; rfl⟩, ⟨Kd.S_mono HS2.out (fun _ hk => hk.1)⟩⟩
      | succ k2 =>
       have hltq : q < b.length := by omega
       obtain ⟨adn, Af, cf, Aal, cal, en, y0, y1, y2, y3, y4, y5, lf, gf, lal, gal⟩ := at_T112 HCB.out (q : Int) (by omega) (by omega)
       subst en
       rw [Int.toNat_natCast] at y0 y1 y2 y3 y4 y5
       replace y0 := (HB2.out.cell (World.block_lt_of_cell? w0 _ y0)).trans y0
       replace y1 := (HB2.out.cell (World.block_lt_of_cell? w0 _ y1)).trans y1
       replace y2 := (HB2.out.cell (World.block_lt_of_cell? w0 _ y2)).trans y2
       replace y3 := (HB2.out.cell (World.block_lt_of_cell? w0 _ y3)).trans y3
       replace y4 := (HB2.out.cell (World.block_lt_of_cell? w0 _ y4)).trans y4
       replace y5 := (HB2.out.cell (World.block_lt_of_cell? w0 _ y5)).trans y5
       have hrq : rd_T112 b (q : Int) = b[q] := by unfold rd_T112; rw [Int.toNat_natCast, List.getD_eq_getElem?_getD, List.getElem?_eq_getElem hltq]; rfl
       rw [hrq] at y0 y1 y2 y3 y4 y5 lf gf lal gal
       have HSN : Aside0 (∀ s ∈ b[q].f2, 0 ≤ namedI b s ∧ namedI b s < (b.length : Int)) := ⟨HNB.out.2 _ (List.getElem_mem hltq)⟩
       have HPD : Aside0 (pass2 b nums q (b.drop q) o3 = pass2 b nums (q + 1) (b.drop (q + 1)) (arcsTo b nums (rd nums (q : Int)) b[q].f2 o3)) := ⟨by rw [List.drop_eq_getElem_cons hltq]; rfl⟩
       have HST : Aside0 (sAf (b.take (q + 1)) = sAf (b.take q) + b[q].f2.length) := ⟨sAf_take b q hltq⟩
       have HLIM : Aside0 (N + wAlts (l.take i) + aNodes b + sAf (b.take (q + 1)) ≤ 1000000) := ⟨by have h1 := sAf_le b (q + 1); have h2 := wNodes_eq b; have h3 := HWT.out; have h4 := HWL.out; omega⟩
       have HRD : Aside0 (0 ≤ rd nums (q : Int) ∧ rd nums (q : Int) < (o2.length : Int)) := ⟨by have := HNM.out (nums[q]'(by have := HNL.out; omega)) (List.getElem_mem _); unfold rd; rw [Int.toNat_natCast, List.getD_eq_getElem?_getD, List.getElem?_eq_getElem (by have := HNL.out; omega)]; exact this⟩
       obtain ⟨⟨nm, un, af, sb, vi, al⟩, hxx⟩ : ∃ x, b[q] = x := ⟨_, rfl⟩
       simp only [hxx] at y0 y1 y2 y3 y4 y5 lf gf lal gal HSN HPD HST
       have HAFC := Aside0.mk gf
       have HLF := Aside0.mk lf
       have hmf := Kd.C_max gf
       have hq0 : (0 : Int) ≤ (q : Int) := by omega
       have hq1 : (q : Int) < (b.length : Int) := by omega
       have HQN := Aside0.mk hq
       have HNX2 : Aside0 (Value.int .i64 (wrap64 ((q : Int) + 1)) = .int .i64 ((q + 1 : Nat) : Int)) := ⟨by rw [show wrap64 ((q : Int) + 1) = ((q + 1 : Nat) : Int) from by unfold wrap64; omega]⟩
       obtain ⟨an, han⟩ : ∃ an : Nat, rd nums (q : Int) = (an : Int) := ⟨(rd nums (q : Int)).toNat, by have := HRD.out; omega⟩
       have HAN := Aside0.mk han
       have HANL : Aside0 (an < o2.length) := ⟨by have h1 := HRD.out.2; rw [han] at h1; omega⟩
       have HB3 := Aside0.mk (HB2.out.alloc HB2.out.size (.cells #[.string nm, .string un, .slice Af af.length cf, .bool sb, .bool vi, .slice Aal al.length cal] 112 (0, 0)))
       have HK3 := Aside0.mk (HK2.out.alloc (.cells #[.string nm, .string un, .slice Af af.length cf, .bool sb, .bool vi, .slice Aal al.length cal] 112 (0, 0)))
       have HS3 := Aside0.mk (Kd.S_alloc HS2.out (.cells #[.string nm, .string un, .slice Af af.length cf, .bool sb, .bool vi, .slice Aal al.length cal] 112 (0, 0)))
       have HQ3 := Aside0.mk (Kd.Q_below HQ2.out ((Below.refl _ _).alloc (Nat.le_refl _) (.cells #[.string nm, .string un, .slice Af af.length cf, .bool sb, .bool vi, .slice Aal al.length cal] 112 (0, 0))))
       have HG3 := Aside0.mk (blk_alloc HG2.out (.cells #[.string nm, .string un, .slice Af af.length cf, .bool sb, .bool vi, .slice Aal al.length cal] 112 (0, 0)))
       clear hrq hxx gf lf gal lal hq han
       go_wp2
       go_loopg [78] af.length (fun kq v78 w' => ∃ (r : Nat) (o4 : List ItemK), r + kq = af.length ∧ v78 = .int .i64 r ∧ Aside0 (o4.length = o2.length) ∧ Aside0 (arcsTo b nums (rd nums (q : Int)) af o3 = arcsTo b nums (rd nums (q : Int)) (af.drop r) o4) ∧ Aside0 (Below w0.heap.size w0 w') ∧ Aside0 (Kept w w' ok) ∧
        Aside0 (Kd.S k39 39 w' w0.heap.size (fun k => (ok k ∨ w.heap.size ≤ k) ∧ k ≠ wo.heap.size + 1) (.slice A3 o2.length c3) o4) ∧ Aside0 (Kd.Q (Kd.int .i64) 3 w' w0.heap.size (fun k => k = wo.heap.size + 1) (.slice (some ⟨wo.heap.size + 1, 0, none⟩) b.length cA) nums) ∧
        Aside0 (w'.heap[wo.heap.size]? = some (.cells #[.slice (some adn) b.length c2] 110 (0, 0))) ∧ Aside0 (Bnd (N + wAlts (l.take i) + aNodes b + sAf (b.take q) + r) o4))
       case atStart => exact ⟨0, o3, by omega, rfl, HO3, ⟨rfl⟩, HB3, HK3, HS3, HQ3, HG3, HN2⟩
       case round =>
        obtain ⟨w3, hw3⟩ : ∃ x, x = wr := ⟨_, rfl⟩
        subst hw3
        obtain ⟨r, o4, hr, rfl, HO4, HP4, HB4, HK4, HS4, HQ4, HG4, HN4⟩ := hrel
        cases gk with
        | zero =>
         obtain rfl : r = af.length := by omega
         have HE4 : Aside0 (arcsTo b nums (rd nums (q : Int)) af o3 = o4) := ⟨by rw [HP4.out, List.drop_eq_nil_of_le (Nat.le_refl _)]; rfl⟩
         go_wp2
         go_roundg k2
         case measure => omega
         case rel => exact ⟨q + 1, o4, by have := HQN.out; omega, by first | exact HNX2.out | go_num, HO4, ⟨by rw [HP3.out, HPD.out, HE4.out]⟩, HB4, HK4, HS4, HQ4, HG4, ⟨HN4.out.mono (by have := HST.out; omega)⟩⟩
        | succ k3 =>
         have hltr : r < af.length := by omega
         obtain ⟨gO, cO, oki, v7, cs7, ev, hc7, hf7, hR7, hoki, hokg, hglt, rfl, hH7⟩ := itm_get HS4.out (a := an) (by have h1 := HANL.out; have h2 := HO4.out; omega)
         rw [HO4.out] at ev hH7
         injection ev with e1 e2 e3
         subst e1
         subst e3
         clear e2
         obtain ⟨A7, c7, rfl⟩ := Kd.R_slice hR7
         obtain ⟨ads, es, z0⟩ := Kd.at_string HAFC.out (r : Int) (by omega) (by omega)
         subst es
         rw [Int.toNat_natCast] at z0
         replace z0 := (HB4.out.cell (World.block_lt_of_cell? w0 _ z0)).trans z0
         have hrs : rdOf ByteArray.empty af (r : Int) = af[r] := by unfold rdOf; rw [Int.toNat_natCast, List.getD_eq_getElem?_getD, List.getElem?_eq_getElem hltr]; rfl
         rw [hrs] at z0
         have HPE : Aside0 (arcsTo b nums (rd nums (q : Int)) (af.drop r) o4 = arcsTo b nums (rd nums (q : Int)) (af.drop (r + 1)) (addAfter o4 (rd nums (q : Int)) (rd nums (namedI b af[r])))) := ⟨by rw [List.drop_eq_getElem_cons hltr]; rfl⟩
         have HSI := Aside0.mk (HSN.out _ (List.getElem_mem hltr))
         obtain ⟨s, hss⟩ : ∃ s, af[r] = s := ⟨_, rfl⟩
         rw [hss] at z0 HPE HSI
         obtain ⟨kn, hkn⟩ : ∃ kn : Nat, namedI b s = (kn : Int) := ⟨(namedI b s).toNat, by have := HSI.out; omega⟩
         have HKN := Aside0.mk hkn
         have HKNL : Aside0 (kn < b.length) := ⟨by have h1 := HSI.out.2; rw [hkn] at h1; omega⟩
         have HNM4 := Aside0.mk (fun (W : World) (h : Kd.C k112 W (some adn) b.length b) => named_walk (some adn) c2 b s W h)
         rw [hkn] at HNM4
         have HR7 := Aside0.mk hR7
         have HOKI := Aside0.mk hoki
         have HOKG := Aside0.mk hokg
         have HBGO := Aside0.mk hglt
         have HH7 := Aside0.mk hH7
         have HC7 := Aside0.mk hc7
         have HF7 := Aside0.mk hf7
         have HRN := Aside0.mk hr
         have hr0 : (0 : Int) ≤ (r : Int) := by omega
         have hr1 : (r : Int) < (af.length : Int) := by omega
         have hk0 : (0 : Int) ≤ (kn : Int) := by omega
         have hk1 : (kn : Int) < (b.length : Int) := by have := HKNL.out; omega
         have ha0 : (0 : Int) ≤ (an : Int) := by omega
         have ha1 : (an : Int) < (o2.length : Int) := by have h1 := HANL.out; omega
         have c0 : w3.cell? ⟨wo.heap.size, 0, none⟩ = some (.slice (some adn) b.length c2) := (blk_cell HG4.out 0).trans rfl
         have HNX3 : Aside0 (Value.int .i64 (wrap64 ((r : Int) + 1)) = .int .i64 ((r + 1 : Nat) : Int)) := ⟨by rw [show wrap64 ((r : Int) + 1) = ((r + 1 : Nat) : Int) from by unfold wrap64; omega]⟩
         clear hrs hss hkn hR7 hoki hokg hH7 hc7 hf7 hglt hr
         go_wp2_with (go_at_call 82; (with_reducible refine (HNM4.out _ (Kd.C_below HCB.out HB4.out)).mono ?_); rintro e w4 ⟨rfl, hb4⟩; have HB5 := Aside0.mk hb4; clear hb4 c0 z0)
         have HB6 := Aside0.mk (HB4.out.trans (HB5.out.mono HB4.out.size))
         have HQ6 := Aside0.mk (Kd.Q_below HQ4.out HB5.out)
         have HCO5 : Aside0 (w4.drew.cell? ⟨gO, an * 8 + 7, none⟩ = some (.slice A7 (rd_T39 o4 (an : Int)).f7.length c7)) := ⟨(HB5.out.cell (World.block_lt_of_cell? _ _ HC7.out)).trans HC7.out⟩
         have HFO5 : Aside0 (w4.drew.frozen? ⟨gO, an * 8 + 7, none⟩ = false) := ⟨frozen_below HB5.out HC7.out HF7.out⟩
         have HCA5 : Aside0 (w4.drew.cell? ⟨wo.heap.size + 1, q, none⟩ = some (.int .i64 an)) := ⟨by have h := (Kd.Q_cell (0 : Int) (Q_drew_ HQ6.out) (q : Int) (by omega) (by omega)).1; rw [Int.toNat_natCast, Nat.zero_add] at h; rw [h, show rdOf (0 : Int) nums (q : Int) = (an : Int) from HAN.out]⟩
         have HCK5 : Aside0 (w4.drew.cell? ⟨wo.heap.size + 1, kn, none⟩ = some (.int .i64 (rd nums (kn : Int)))) := ⟨by have h := (Kd.Q_cell (0 : Int) (Q_drew_ HQ6.out) (kn : Int) (by omega) (by omega)).1; rw [Int.toNat_natCast, Nat.zero_add] at h; rw [h]; rfl⟩
         have HL7 : Aside0 (((rd_T39 o4 (an : Int)).f7.length + 1) * 8 ≤ 140737488355328) := ⟨by have h1 := HN4.out.2 (rd_T39 o4 (an : Int)) (by unfold rd_T39; rw [Int.toNat_natCast, List.getD_eq_getElem?_getD, List.getElem?_eq_getElem (by have h1 := HANL.out; have h2 := HO4.out; omega)]; exact List.getElem_mem _); have h2 := HLIM.out; have h3 := HST.out; have h4 := HRN.out; omega⟩
         --MARK19
         refine start_ (n := 22) (S := fun w' => w'.cell? ⟨wo.heap.size + 1, q, none⟩ = some (.int .i64 an) ∧ w'.cell? ⟨wo.heap.size + 1, kn, none⟩ = some (.int .i64 (rd nums (kn : Int))) ∧ w'.cell? ⟨gO, an * 8 + 7, none⟩ = some (.slice A7 (rd_T39 o4 (an : Int)).f7.length c7)) (ds := [21]) #[false, false, false, false, false, false, false, false, false, false, false, false, false, false, false, false, false, false, false, false, false, false] (by kernel_rfl) rfl rfl ⟨HCA5.out, HCK5.out, HCO5.out⟩ (fun hHeld => ?_)
         refine pure_ (i := 0) (N := some 85) (v := ?_) (a' := ?_) #[true, false, false, false, false, false, false, false, false, false, false, false, false, false, false, false, false, false, false, false, false, false] rfl rfl (by kernel_rfl) (fun _ _ _ h => h) (Or.inl ⟨by rfl, ?_⟩) ?_ ?_
         rotate_left
         ·intro w'
          go_simp
          with_reducible rfl
         rotate_left
         ·simp only [Act.put, List.setIfInBounds_toArray, List.set_cons_zero, List.set_cons_succ, i64_w, i32_w]
          rfl
         refine pure_ (i := 1) (N := some 86) (v := ?_) (a' := ?_) #[true, true, false, false, false, false, false, false, false, false, false, false, false, false, false, false, false, false, false, false, false, false] rfl rfl (by kernel_rfl) (fun _ _ _ h => h) (Or.inl ⟨by rfl, ?_⟩) ?_ ?_
         rotate_left
         ·intro w'
          go_simp
          with_reducible rfl
         rotate_left
         ·simp only [Act.put, List.setIfInBounds_toArray, List.set_cons_zero, List.set_cons_succ, i64_w, i32_w]
          rfl
         refine pure_ (i := 2) (N := some 87) (v := ?_) (a' := ?_) #[true, true, true, false, false, false, false, false, false, false, false, false, false, false, false, false, false, false, false, false, false, false] rfl rfl (by kernel_rfl) (fun _ _ _ h => h) (Or.inl ⟨by rfl, ?_⟩) ?_ ?_
         rotate_left
         ·intro w'
          go_simp
          with_reducible rfl
         rotate_left
         ·simp only [Act.put, List.setIfInBounds_toArray, List.set_cons_zero, List.set_cons_succ, i64_w, i32_w]
          rfl
         refine pure_ (i := 3) (N := some 88) (v := ?_) (a' := ?_) #[true, true, true, true, false, false, false, false, false, false, false, false, false, false, false, false, false, false, false, false, false, false] rfl rfl (by kernel_rfl) (fun _ _ _ h => h) (Or.inl ⟨by rfl, ?_⟩) ?_ ?_
         rotate_left
         ·intro w'
          go_simp
          with_reducible rfl
         rotate_left
         ·simp only [Act.put, List.setIfInBounds_toArray, List.set_cons_zero, List.set_cons_succ, i64_w, i32_w]
          rfl
         refine pure_ (i := 5) (N := some 90) (v := ?_) (a' := ?_) #[true, true, true, true, false, true, false, false, false, false, false, false, false, false, false, false, false, false, false, false, false, false] rfl rfl (by kernel_rfl) (fun _ _ _ h => h) (Or.inl ⟨by rfl, ?_⟩) ?_ ?_
         rotate_left
         ·intro w'
          go_simp
          with_reducible rfl
         rotate_left
         ·simp only [Act.put, List.setIfInBounds_toArray, List.set_cons_zero, List.set_cons_succ, i64_w, i32_w]
          rfl
         refine pure_ (i := 6) (N := some 91) (v := ?_) (a' := ?_) #[true, true, true, true, false, true, true, false, false, false, false, false, false, false, false, false, false, false, false, false, false, false] rfl rfl (by kernel_rfl) (fun _ _ _ h => h) (Or.inl ⟨by rfl, ?_⟩) ?_ ?_
         rotate_left
         ·intro w'
          go_simp
          with_reducible rfl
         rotate_left
         ·simp only [Act.put, List.setIfInBounds_toArray, List.set_cons_zero, List.set_cons_succ, i64_w, i32_w]
          rfl
         refine pure_ (i := 7) (N := some 92) (v := ?_) (a' := ?_) #[true, true, true, true, false, true, true, true, false, false, false, false, false, false, false, false, false, false, false, false, false, false] rfl rfl (by kernel_rfl) (fun _ _ _ h => h) (Or.inl ⟨by rfl, ?_⟩) ?_ ?_
         rotate_left
         ·intro w'
          go_simp
          with_reducible rfl
         rotate_left
         ·simp only [Act.put, List.setIfInBounds_toArray, List.set_cons_zero, List.set_cons_succ, i64_w, i32_w]
          rfl
         refine pure_ (i := 8) (N := some 93) (v := ?_) (a' := ?_) #[true, true, true, true, false, true, true, true, true, false, false, false, false, false, false, false, false, false, false, false, false, false] rfl rfl (by kernel_rfl) (fun _ _ _ h => h) (Or.inl ⟨by rfl, ?_⟩) ?_ ?_
         rotate_left
         ·intro w'
          go_simp
          with_reducible rfl
         rotate_left
         ·simp only [Act.put, List.setIfInBounds_toArray, List.set_cons_zero, List.set_cons_succ, i64_w, i32_w]
          rfl
         refine pure_ (i := 13) (N := some 98) (v := ?_) (a' := ?_) #[true, true, true, true, false, true, true, true, true, false, false, false, false, true, false, false, false, false, false, false, false, false] rfl rfl (by kernel_rfl) (fun _ _ _ h => h) (Or.inl ⟨by rfl, ?_⟩) ?_ ?_
         rotate_left
         ·intro w'
          go_simp
          with_reducible rfl
         rotate_left
         ·simp only [Act.put, List.setIfInBounds_toArray, List.set_cons_zero, List.set_cons_succ, i64_w, i32_w]
          rfl
         refine pure_ (i := 14) (N := some 99) (v := ?_) (a' := ?_) #[true, true, true, true, false, true, true, true, true, false, false, false, false, true, true, false, false, false, false, false, false, false] rfl rfl (by kernel_rfl) (fun _ _ _ h => h) (Or.inl ⟨by rfl, ?_⟩) ?_ ?_
         rotate_left
         ·intro w'
          go_simp
          with_reducible rfl
         rotate_left
         ·simp only [Act.put, List.setIfInBounds_toArray, List.set_cons_zero, List.set_cons_succ, i64_w, i32_w]
          rfl
         refine pure_ (i := 15) (N := some 100) (v := ?_) (a' := ?_) #[true, true, true, true, false, true, true, true, true, false, false, false, false, true, true, true, false, false, false, false, false, false] rfl rfl (by kernel_rfl) (fun _ _ _ h => h) (Or.inl ⟨by rfl, ?_⟩) ?_ ?_
         rotate_left
         ·intro w'
          go_simp
          with_reducible rfl
         rotate_left
         ·simp only [Act.put, List.setIfInBounds_toArray, List.set_cons_zero, List.set_cons_succ, i64_w, i32_w]
          rfl
         refine take_ (i := 4) (N := some 89) (v := ?_) (a' := ?_) #[true, true, true, true, true, true, true, true, true, false, false, false, false, true, true, true, false, false, false, false, false, false] rfl rfl (by kernel_rfl) (fun _ _ _ h => h) (Or.inl ⟨by rfl, ?_⟩) hHeld ?_ ?_
         rotate_left
         ·rintro w' ⟨s0, s1, s2⟩
          go_simp
          with_reducible rfl
         rotate_left
         ·simp only [Act.put, List.setIfInBounds_toArray, List.set_cons_zero, List.set_cons_succ, i64_w, i32_w]
          rfl
         refine take_ (i := 9) (N := some 94) (v := ?_) (a' := ?_) #[true, true, true, true, true, true, true, true, true, true, false, false, false, true, true, true, false, false, false, false, false, false] rfl rfl (by kernel_rfl) (fun _ _ _ h => h) (Or.inl ⟨by rfl, ?_⟩) hHeld ?_ ?_
         rotate_left
         ·rintro w' ⟨s0, s1, s2⟩
          go_simp
          with_reducible rfl
         rotate_left
         ·simp only [Act.put, List.setIfInBounds_toArray, List.set_cons_zero, List.set_cons_succ, i64_w, i32_w]
          rfl
         refine pure_ (i := 10) (N := some 95) (v := ?_) (a' := ?_) #[true, true, true, true, true, true, true, true, true, true, true, false, false, true, true, true, false, false, false, false, false, false] rfl rfl (by kernel_rfl) (fun _ _ _ h => h) (Or.inl ⟨by rfl, ?_⟩) ?_ ?_
         rotate_left
         ·intro w'
          go_simp
          with_reducible rfl
         rotate_left
         ·simp only [Act.put, List.setIfInBounds_toArray, List.set_cons_zero, List.set_cons_succ, i64_w, i32_w]
          rfl
         refine pure_ (i := 11) (N := some 96) (v := ?_) (a' := ?_) #[true, true, true, true, true, true, true, true, true, true, true, true, false, true, true, true, false, false, false, false, false, false] rfl rfl (by kernel_rfl) (fun _ _ _ h => h) (Or.inl ⟨by rfl, ?_⟩) ?_ ?_
         rotate_left
         ·intro w'
          go_simp
          with_reducible rfl
         rotate_left
         ·simp only [Act.put, List.setIfInBounds_toArray, List.set_cons_zero, List.set_cons_succ, i64_w, i32_w]
          rfl
         refine take_ (i := 12) (N := some 97) (v := ?_) (a' := ?_) #[true, true, true, true, true, true, true, true, true, true, true, true, true, true, true, true, false, false, false, false, false, false] rfl rfl (by kernel_rfl) (fun _ _ _ h => h) (Or.inl ⟨by rfl, ?_⟩) hHeld ?_ ?_
         rotate_left
         ·rintro w' ⟨s0, s1, s2⟩
          go_simp
          with_reducible rfl
         rotate_left
         ·simp only [Act.put, List.setIfInBounds_toArray, List.set_cons_zero, List.set_cons_succ, i64_w, i32_w]
          rfl
         refine take_ (i := 16) (N := some 101) (v := ?_) (a' := ?_) #[true, true, true, true, true, true, true, true, true, true, true, true, true, true, true, true, true, false, false, false, false, false] rfl rfl (by kernel_rfl) (fun _ _ _ h => h) (Or.inl ⟨by rfl, ?_⟩) hHeld ?_ ?_
         rotate_left
         ·rintro w' ⟨s0, s1, s2⟩
          go_simp
          with_reducible rfl
         rotate_left
         ·simp only [Act.put, List.setIfInBounds_toArray, List.set_cons_zero, List.set_cons_succ, i64_w, i32_w]
          rfl
         refine one_ (i := 17) (N := some 102) #[true, true, true, true, true, true, true, true, true, true, true, true, true, true, true, true, true, true, false, false, false, false] rfl rfl (by kernel_rfl) (by decide) (fun K hK => ?_)
         refine value_ (w1 := ?_) (v := ?_) (by rfl) rfl ?_ ?_
         rotate_left 2
         ·go_simp
          constructor
          ·rfl
          ·rfl
         refine hK.out _ _ ⟨(cell_al hHeld.1), (cell_al hHeld.2.1), (cell_al hHeld.2.2)⟩ (fun hHeld => ?_)
         clear hK K
         refine norm_ (a' := ?_) ?_ ?_
         rotate_left
         ·show Act.put _ (some 102) _ = _
          simp only [Act.put, List.setIfInBounds_toArray, List.set_cons_zero, List.set_cons_succ, i64_w, i32_w]
          rfl
         refine one_ (i := 18) (N := some 103) #[true, true, true, true, true, true, true, true, true, true, true, true, true, true, true, true, true, true, true, false, false, false] rfl rfl (by kernel_rfl) (by decide) (fun K hK => ?_)
         refine Kd.R_append_step (Kd.int .i64) (w0 := w4.drew) w0.heap.size (by rfl) (.tmp 97) (.tmp 102) 28 3 (.int .i64 0) 8 rfl Tryz.underlying28 info3_ rfl (by decide) (by omega) (.slice A7 (rd_T39 o4 (an : Int)).f7.length c7) (rd_T39 o4 (an : Int)).f7 (rd nums (kn : Int)) [.int .i64 (rd nums (kn : Int))] (fun k => oki k ∨ w4.drew.heap.size ≤ k) (fun _ => False) rfl rfl rfl (fun _ hk => hk.elim) (fun k hk => .inr hk) (Kd.R_drew (Kd.R_mono (Kd.R_below HR7.out HB5.out) (fun _ hk => .inl hk))) (Below.refl _ _) HB6.out.size HL7.out ?_
         intro v1 w9 hR9 hb9 hg9 hat9
         obtain ⟨A9, c9, e9⟩ := Kd.R_slice hR9
         rw [List.length_append] at e9
         have e8 : v1 = .slice A9 ((rd_T39 o4 (an : Int)).f7.length + 1) c9 := e9
         subst e8
         clear e9
         have HB9 := Aside0.mk hb9
         have HR9 := Aside0.mk hR9
         have HG9 := Aside0.mk hg9
         have HNA : Aside0 (some (wo.heap.size + 1) ≠ (Value.slice A7 (rd_T39 o4 (an : Int)).f7.length c7).ownBlock) := ⟨fun e => (HOKI.out _ (HR7.out.1 _ e.symm)).1.2 rfl⟩
         have HNO : Aside0 (some gO ≠ (Value.slice A7 (rd_T39 o4 (an : Int)).f7.length c7).ownBlock) := ⟨fun e => (HOKI.out _ (HR7.out.1 _ e.symm)).2 rfl⟩
         have q9 := cell_grown hg9 HCO5.out HNO.out
         have f9 := frozen_grown hg9 HCO5.out HFO5.out HNO.out
         clear hb9 hg9 hat9 hR9
         refine hK.out _ _ ⟨(cell_grown HG9.out HCA5.out HNA.out), (cell_grown HG9.out HCK5.out HNA.out), q9⟩ (fun hHeld => ?_)
         clear hK K
         refine norm_ (a' := ?_) ?_ ?_
         rotate_left
         ·show Act.put _ (some 103) _ = _
          simp only [Act.put, List.setIfInBounds_toArray, List.set_cons_zero, List.set_cons_succ, i64_w, i32_w]
          rfl
         refine pure_ (i := 19) (N := some 104) (v := ?_) (a' := ?_) #[true, true, true, true, true, true, true, true, true, true, true, true, true, true, true, true, true, true, true, true, false, false] rfl rfl (by kernel_rfl) (fun _ _ _ h => h) (Or.inl ⟨by rfl, ?_⟩) ?_ ?_
         rotate_left
         ·intro w'
          go_simp
          with_reducible rfl
         rotate_left
         ·simp only [Act.put, List.setIfInBounds_toArray, List.set_cons_zero, List.set_cons_succ, i64_w, i32_w]
          rfl
         refine pure_ (i := 20) (N := some 105) (v := ?_) (a' := ?_) #[true, true, true, true, true, true, true, true, true, true, true, true, true, true, true, true, true, true, true, true, true, false] rfl rfl (by kernel_rfl) (fun _ _ _ h => h) (Or.inl ⟨by rfl, ?_⟩) ?_ ?_
         rotate_left
         ·intro w'
          go_simp
          with_reducible rfl
         rotate_left
         ·simp only [Act.put, List.setIfInBounds_toArray, List.set_cons_zero, List.set_cons_succ, i64_w, i32_w]
          rfl
         refine last_ (i := 21) (N := none) #[true, true, true, true, true, true, true, true, true, true, true, true, true, true, true, true, true, true, true, true, true, true] rfl rfl (by kernel_rfl) (by decide) (fun K hK => ?_)
         refine skip_ (w1 := ?_) (by rfl) rfl ?_ ?_
         rotate_left
         ·go_simp
          rfl
         refine hK.out _ _ ?_
         clear hK K
         refine done_ (by kernel_rfl) ?_
         --END19
         go_wp2
         go_roundg k3
         case measure => omega
         case rel =>
          have hga : wo.heap.size + 1 < w4.heap.size := World.block_lt_of_cell? _ _ HCA5.out
          have hgb : some wo.heap.size ≠ (Value.slice (some ⟨gO, 0, none⟩) o2.length c3).ownBlock := Kd.S_ne HS4.out HG4.out (by decide)
          have hgb2 : wo.heap.size ≠ gO := fun e => hgb (by rw [e]; rfl)
          refine ⟨r + 1, addAfter o4 (an : Int) (rd nums (kn : Int)), by have := HRN.out; omega, by first | exact HNX3.out | go_num, ⟨by rw [addAfter_length]; exact HO4.out⟩, ⟨by rw [HP4.out, HPE.out, HAN.out, HKN.out]⟩, ⟨?_⟩, ⟨?_⟩, ⟨?_⟩, ⟨?_⟩, ⟨?_⟩, ⟨HN4.out.add (by rw [Int.toNat_natCast]; have h1 := HANL.out; have h2 := HO4.out; omega)⟩⟩
          ·exact (HB6.out.drew.trans HB9.out).setCell (p := ⟨gO, an * 8 + 7, none⟩) HBGO.out _
          ·exact (Kept.of_grown HG9.out (HK4.out.below HB5.out).drew (fun k hk => (HOKI.out k (HR7.out.1 k hk)).1.1)).setCell (p := ⟨gO, an * 8 + 7, none⟩) HOKG.out.1 _
          ·have hS := (itm_back (a := an) HANL.out (Kd.H_drew (Kd.H_below HH7.out HB5.out)) HG9.out HR7.out.1 (fun k hk => ⟨.inr (Nat.le_trans (HK4.out.below HB5.out).1 hk), by have h1 : w4.heap.size ≤ k := hk; omega⟩) HR9.out).1
           unfold addAfter
           rw [Int.toNat_natCast]
           exact hS
          ·exact Kd.Q_far (p := ⟨gO, an * 8 + 7, none⟩) (Kd.Q_step (Q_drew_ HQ6.out) (fun k hk hlt => HG9.out.block k hlt (fun e => HNA.out (by rw [← e, hk])))) (fun k hk => by show k ≠ gO; rw [hk]; intro e; exact HOKG.out.2 e.symm) _
          ·exact (Below.heap_setCell _ _ _ _ hgb2).trans (blk_grown (blk_drew (blk_below HG4.out HB5.out)) HG9.out (Kd.R_ne HR7.out HG4.out (by decide)))
    | succ k2 =>
     have hltq : q < b.length := by omega
     obtain ⟨adn, Af, cf, Aal, cal, en, y0, y1, y2, y3, y4, y5, lf, gf, lal, gal⟩ := at_T112 HCB.out (q : Int) (by omega) (by omega)
     subst en
     rw [Int.toNat_natCast] at y0 y1 y2 y3 y4 y5
     replace y0 := (HB1.out.cell (World.block_lt_of_cell? w0 _ y0)).trans y0
     replace y1 := (HB1.out.cell (World.block_lt_of_cell? w0 _ y1)).trans y1
     replace y2 := (HB1.out.cell (World.block_lt_of_cell? w0 _ y2)).trans y2
     replace y3 := (HB1.out.cell (World.block_lt_of_cell? w0 _ y3)).trans y3
     replace y4 := (HB1.out.cell (World.block_lt_of_cell? w0 _ y4)).trans y4
     replace y5 := (HB1.out.cell (World.block_lt_of_cell? w0 _ y5)).trans y5
     have hrq : rd_T112 b (q : Int) = b[q] := by unfold rd_T112; rw [Int.toNat_natCast, List.getD_eq_getElem?_getD, List.getElem?_eq_getElem hltq]; rfl
     rw [hrq] at y0 y1 y2 y3 y4 y5 lf gf lal gal
     have hbm := List.getElem_mem hltq
     have HXI := Aside0.mk (HIHB.out _ hbm)
     have HXC := Aside0.mk (HCH.out _ hbm)
     have HFN : Aside0 (flNodes inn i o2 nums (b.drop q) = flNodes inn i (flAlts (o2.length : Int) 0 (o2 ++ [⟨b[q].f0, b[q].f1, b[q].f3, b[q].f4, (b[q].f5.length : Int), inn, i, []⟩]) b[q].f5) (nums ++ [(o2.length : Int)]) (b.drop (q + 1))) := ⟨by rw [flNodes_drop inn i o2 nums b q hltq, flNode_eq]⟩
     have HAT : Aside0 (aNodes (b.take (q + 1)) = aNodes (b.take q) + (1 + wAlts b[q].f5)) := ⟨aNodes_take b q hltq⟩
     have HLIM : Aside0 (N + wAlts (l.take i) + aNodes (b.take (q + 1)) ≤ 1000000) := ⟨by have h1 := aNodes_le b (q + 1); have h2 := wNodes_eq b; have h3 := HWT.out; have h4 := HWL.out; omega⟩
     obtain ⟨⟨nm, un, af, sb, vi, al⟩, hxx⟩ : ∃ x, b[q] = x := ⟨_, rfl⟩
     simp only [hxx] at y0 y1 y2 y3 y4 y5 lf gf lal gal HXI HXC HFN HAT
     have HALC := Aside0.mk gal
     have HALL5 := Aside0.mk lal
     have hq0 : (0 : Int) ≤ (q : Int) := by omega
     have hq1 : (q : Int) < (b.length : Int) := by omega
     have HQN := Aside0.mk hq
     have hQc := Kd.Q_cell (0 : Int) HQ1.out (q : Int) (by omega) (by omega)
     rw [Int.toNat_natCast, Nat.zero_add] at hQc
     have hc1 := cell_al (o := (.cells #[.string nm, .string un, .slice Af af.length cf, .bool sb, .bool vi, .slice Aal al.length cal] 112 (0, 0))) hQc.1
     have hf1 := frozen_al (o := (.cells #[.string nm, .string un, .slice Af af.length cf, .bool sb, .bool vi, .slice Aal al.length cal] 112 (0, 0))) hQc.1 hQc.2
     have hlA : wo.heap.size + 1 < w1.heap.size := World.block_lt_of_cell? _ _ hQc.1
     have HLA := Aside0.mk hlA
     clear hrq hbm hxx gf lf gal lal hq hQc
     have HNX2 : Aside0 (Value.int .i64 (wrap64 ((q : Int) + 1)) = .int .i64 ((q + 1 : Nat) : Int)) := ⟨by rw [show wrap64 ((q : Int) + 1) = ((q + 1 : Nat) : Int) from by unfold wrap64; omega]⟩
     have HLO : Aside0 ((o2.length + 1) * 88 ≤ 140737488355328) := ⟨by have h1 := HN1.out.1; have h2 := HLIM.out; have h3 := HAT.out; omega⟩
     go_wp2_with (first
      | ((with_reducible refine gate_store (t := 3) (p := 40) rfl ?_); refine stop_ ?_))
     unfold Stop_
     refine store_event (t := 3) (p := 40) (v := ?vo) (w1 := ((w1.alloc (.cells #[.string nm, .string un, .slice Af af.length cf, .bool sb, .bool vi, .slice Aal al.length cal] 112)).setCell ⟨wo.heap.size + 1, q, none⟩ (.int .i64 o2.length))) ?hg ?ho ?hn ?hr ?_; (case ho => rfl); (case hg => rfl); (case hn => rfl); (case hr => first | (go_simp; done) | (go_simp; rfl)); intro w2 hw
     have HB2 : Aside0 (Below w0.heap.size w0 w2) := ⟨by rw [hw]; exact (HB1.out.alloc HB1.out.size _).setCell (p := ⟨wo.heap.size + 1, q, none⟩) (by have := HB.out.size; show w0.heap.size ≤ wo.heap.size + 1; omega) _⟩
     have HK2 : Aside0 (Kept w w2 ok) := ⟨by rw [hw]; exact (HK1.out.alloc _).setCell (p := ⟨wo.heap.size + 1, q, none⟩) (.inr (by have := HSZ.out; show w.heap.size ≤ wo.heap.size + 1; omega)) _⟩
     have HS2 : Aside0 (Kd.S k39 39 w2 w0.heap.size (fun k => (ok k ∨ w.heap.size ≤ k) ∧ k ≠ wo.heap.size + 1) (.slice A3 o2.length c3) o2) := ⟨by rw [hw]; exact Kd.S_far (p := ⟨wo.heap.size + 1, q, none⟩) (Kd.S_alloc HS1.out _) (fun _ hk => hk.2) _⟩
     have HQ2 : Aside0 (Kd.Q (Kd.int .i64) 3 w2 w0.heap.size (fun k => k = wo.heap.size + 1) (.slice (some ⟨wo.heap.size + 1, 0, none⟩) b.length cA) ((nums ++ [(o2.length : Int)]) ++ List.replicate (b.length - (q + 1)) 0)) := ⟨by rw [hw, ← ats_set nums o2.length b.length q HNL.out (by have := HQN.out; omega)]; have hp := (Kd.Q_putg (Kd.Q_below HQ1.out ((Below.refl _ _).alloc (Nat.le_refl _) (.cells #[.string nm, .string un, .slice Af af.length cf, .bool sb, .bool vi, .slice Aal al.length cal] 112 (0, 0)))) (q : Int) (by omega) (by have := HQN.out; omega) (o2.length : Int)).1; rw [Int.toNat_natCast, Nat.zero_add] at hp; exact hp⟩
     have HG2 : Aside0 (w2.heap[wo.heap.size]? = some (.cells #[.slice (some adn) b.length c2] 110 (0, 0))) := ⟨by rw [hw]; exact (Below.heap_setCell _ _ _ _ (by show wo.heap.size ≠ wo.heap.size + 1; omega)).trans (blk_alloc HG1.out _)⟩
     have HN2 : Aside0 (w2.heap[w1.heap.size]? = some (.cells #[.string nm, .string un, .slice Af af.length cf, .bool sb, .bool vi, .slice Aal al.length cal] 112 (0, 0))) := ⟨by rw [hw]; exact (Below.heap_setCell _ _ _ _ (by have := HLA.out; show w1.heap.size ≠ wo.heap.size + 1; omega)).trans (blk_new w1 _)⟩
     have HSZ2 : Aside0 (wo.heap.size + 1 < w2.heap.size) := ⟨by rw [hw]; have := HLA.out; simp [World.setCell]; omega⟩
     have n0 := (blk_cell HN2.out 0).trans rfl
     have n1 := (blk_cell HN2.out 1).trans rfl
     have n3 := (blk_cell HN2.out 3).trans rfl
     have n4 := (blk_cell HN2.out 4).trans rfl
     have n5 := (blk_cell HN2.out 5).trans rfl
     clear hw hc1 hf1
     go_wp2_with ((with_reducible refine gate_builtin (b := .append) (xs := #[.tmp 41, .tmp 56]) rfl ?_); at_builtin; refine stop_ ?_)
     unfold Stop_
     refine Kd.S_append k39 (w0 := w2) w0.heap.size rfl (.tmp 41) (.tmp 56) 22 39 (.agg #[.string ⟨#[]⟩, .string ⟨#[]⟩, .bool false, .bool false, .int .i64 0, .int .i64 0, .int .i64 0, .slice none 0 0]) 88 rfl Tryz.underlying22 info40_ rfl (by decide) (by omega) (.slice A3 o2.length c3) o2 ⟨nm, un, sb, vi, (al.length : Int), inn, i, []⟩ [.string nm, .string un, .bool sb, .bool vi, .int .i64 al.length, .int .i64 inn, .int .i64 i, .slice none 0 0] (fun k => (ok k ∨ w.heap.size ≤ k) ∧ k ≠ wo.heap.size + 1) (fun _ => False) rfl rfl (k39_mkM _ _ _ _ (Kd.R_nil _ _ _ _ _)) (fun _ hk => hk.elim) (fun k hk => ⟨.inr (Nat.le_trans HK2.out.1 hk), by have := HSZ2.out; omega⟩) (Kd.S_mono HS2.out (fun _ hk => ⟨hk, fun h => h⟩)) (Below.refl _ _) HB2.out.size HLO.out ?_
     intro v3 w3 hS3 hb3 hg3 hat3
     have HS3 := Aside0.mk hS3
     have HB3 := Aside0.mk (HB2.out.trans hb3)
     have HK3 := Aside0.mk (Kept.of_grown hg3 HK2.out (fun k hk => ((Kd.S_R HS2.out).1 k hk).1))
     have HG3 := Aside0.mk (blk_grown HG2.out hg3 (Kd.S_ne HS2.out HG2.out (by decide)))
     have HN3 := Aside0.mk (blk_grown HN2.out hg3 (Kd.S_ne HS2.out HN2.out (by decide)))
     have HQ3 := Aside0.mk (Kd.Q_step HQ2.out (fun k hk hlt => hg3.block k hlt (fun e => ((Kd.S_R HS2.out).1 k e.symm).2 hk)))
     have HSZ3 : Aside0 (w.heap.size ≤ w3.heap.size) := ⟨HK3.out.1⟩
     have HLA3 : Aside0 (wo.heap.size + 1 < w3.heap.size) := ⟨Nat.lt_of_lt_of_le HSZ2.out hb3.size⟩
     clear hS3 hb3 hg3 hat3 n0 n1 n3 n4 n5
     go_wp2
     obtain ⟨A4, c4, e4⟩ := Kd.S_slice HS3.out
     rw [List.length_append] at e4
     have e5 : v3 = .slice A4 (o2.length + 1) c4 := e4
     subst e5
     clear e4
     --MARK10
     refine start_ (n := 9) (S := fun w' => w'.cell? ⟨wo.heap.size + 1, q, none⟩ = some (.int .i64 o2.length) ∧ w'.cell? ⟨w1.heap.size, 5, none⟩ = some (.slice Aal al.length cal)) (ds := [7]) #[false, false, false, false, false, false, false, false, false] (by kernel_rfl) rfl rfl ⟨(at_cell HQ3.out HNL.out (by have := HQN.out; omega)), ((blk_cell (blk_drew HN3.out) 5).trans rfl)⟩ (fun hHeld => ?_)
     refine pure_ (i := 0) (N := some 58) (v := ?_) (a' := ?_) #[true, false, false, false, false, false, false, false, false] rfl rfl (by kernel_rfl) (fun _ _ _ h => h) (Or.inl ⟨by rfl, ?_⟩) ?_ ?_
     rotate_left
     ·intro w'
      go_simp
      with_reducible rfl
     rotate_left
     ·simp only [Act.put, List.setIfInBounds_toArray, List.set_cons_zero, List.set_cons_succ, i64_w, i32_w]
      rfl
     refine pure_ (i := 1) (N := some 59) (v := ?_) (a' := ?_) #[true, true, false, false, false, false, false, false, false] rfl rfl (by kernel_rfl) (fun _ _ _ h => h) (Or.inl ⟨by rfl, ?_⟩) ?_ ?_
     rotate_left
     ·intro w'
      go_simp
      with_reducible rfl
     rotate_left
     ·simp only [Act.put, List.setIfInBounds_toArray, List.set_cons_zero, List.set_cons_succ, i64_w, i32_w]
      rfl
     refine pure_ (i := 2) (N := some 60) (v := ?_) (a' := ?_) #[true, true, true, false, false, false, false, false, false] rfl rfl (by kernel_rfl) (fun _ _ _ h => h) (Or.inl ⟨by rfl, ?_⟩) ?_ ?_
     rotate_left
     ·intro w'
      go_simp
      with_reducible rfl
     rotate_left
     ·simp only [Act.put, List.setIfInBounds_toArray, List.set_cons_zero, List.set_cons_succ, i64_w, i32_w]
      rfl
     refine pure_ (i := 3) (N := some 61) (v := ?_) (a' := ?_) #[true, true, true, true, false, false, false, false, false] rfl rfl (by kernel_rfl) (fun _ _ _ h => h) (Or.inl ⟨by rfl, ?_⟩) ?_ ?_
     rotate_left
     ·intro w'
      go_simp
      with_reducible rfl
     rotate_left
     ·simp only [Act.put, List.setIfInBounds_toArray, List.set_cons_zero, List.set_cons_succ, i64_w, i32_w]
      rfl
     refine pure_ (i := 5) (N := some 63) (v := ?_) (a' := ?_) #[true, true, true, true, false, true, false, false, false] rfl rfl (by kernel_rfl) (fun _ _ _ h => h) (Or.inl ⟨by rfl, ?_⟩) ?_ ?_
     rotate_left
     ·intro w'
      go_simp
      with_reducible rfl
     rotate_left
     ·simp only [Act.put, List.setIfInBounds_toArray, List.set_cons_zero, List.set_cons_succ, i64_w, i32_w]
      rfl
     refine take_ (i := 4) (N := some 62) (v := ?_) (a' := ?_) #[true, true, true, true, true, true, false, false, false] rfl rfl (by kernel_rfl) (fun _ _ _ h => h) (Or.inl ⟨by rfl, ?_⟩) hHeld ?_ ?_
     rotate_left
     ·rintro w' ⟨s0, s1⟩
      go_simp
      with_reducible rfl
     rotate_left
     ·simp only [Act.put, List.setIfInBounds_toArray, List.set_cons_zero, List.set_cons_succ, i64_w, i32_w]
      rfl
     refine take_ (i := 6) (N := some 64) (v := ?_) (a' := ?_) #[true, true, true, true, true, true, true, false, false] rfl rfl (by kernel_rfl) (fun _ _ _ h => h) (Or.inl ⟨by rfl, ?_⟩) hHeld ?_ ?_
     rotate_left
     ·rintro w' ⟨s0, s1⟩
      go_simp
      with_reducible rfl
     rotate_left
     ·simp only [Act.put, List.setIfInBounds_toArray, List.set_cons_zero, List.set_cons_succ, i64_w, i32_w]
      rfl
     refine last_ (i := 7) (N := some 65) #[true, true, true, true, true, true, true, true, false] rfl rfl (by kernel_rfl) (by decide) (fun K hK => ?_)
     refine goes_ Tryz.func52 (by kernel_rfl) rfl #[.slice A4 (o2.length + 1) c4, .int .i64 o2.length, .slice Aal al.length cal] (by rfl) rfl rfl (by first | rfl | (simp only [List.map_toArray, List.map_cons, List.map_nil]; rfl)) ?_
     refine (HXI.out (wrap64 (d + 1)) w0 w3.drew Aal cal (fun k => ((ok k ∨ w.heap.size ≤ k) ∧ k ≠ wo.heap.size + 1) ∧ k ≠ wo.heap.size) _ (o2 ++ [⟨nm, un, sb, vi, (al.length : Int), inn, (i : Int), []⟩]) (o2.length : Int) (N + wAlts (l.take i) + aNodes (b.take q) + 1) HALC.out HALL5.out HXC.out.1 HXC.out.2 HB3.out.drew (Kd.S_drew (Kd.S_types HS3.out HG3.out (by decide))) (HN1.out.snoc rfl) (by have h1 := HLIM.out; have h2 := HAT.out; omega)).mono ?_
     rintro e w4 ⟨hb4, hk4, hn4, v4, rfl, hS4⟩
     refine ⟨_, rfl, ?_⟩
     have HB4 := Aside0.mk hb4
     have HK4 := Aside0.mk (HK3.out.drew.then_ hk4 (fun _ hk => hk.1.1))
     have HG4 := Aside0.mk (blk_kept (blk_drew HG3.out) hk4 (fun h => h.2 rfl))
     have HQ4 := Aside0.mk (Kd.Q_kept (Q_drew_ HQ3.out) hk4 (fun k hk h => h.1.2 hk))
     have HS4 : Aside0 (Kd.S k39 39 w4 w0.heap.size (fun k => (ok k ∨ w.heap.size ≤ k) ∧ k ≠ wo.heap.size + 1) v4 _) := ⟨Kd.S_mono hS4 (fun k hk => hk.elim (fun h => h.1) (fun h => ⟨.inr (Nat.le_trans HSZ3.out h), fun e => by have h1 := blk_lt HG3.out; have h2 : w3.heap.size ≤ k := h; have h3 := HLA3.out; omega⟩))⟩
     have HN4 := Aside0.mk hn4
     clear hb4 hk4 hn4 hS4
     refine hK.out _ _ ?_
     clear hK K
     refine norm_ (a' := ?_) ?_ ?_
     rotate_left
     ·show Act.put _ (some 65) _ = _
      simp only [Act.put, List.setIfInBounds_toArray, List.set_cons_zero, List.set_cons_succ, i64_w, i32_w]
      rfl
     refine pure_ (i := 8) (N := some 0) (v := ?_) (a' := ?_) #[true, true, true, true, true, true, true, true, true] rfl rfl (by kernel_rfl) (fun _ _ _ h => h) (Or.inl ⟨by rfl, ?_⟩) ?_ ?_
     rotate_left
     ·intro w'
      go_simp
      with_reducible rfl
     rotate_left
     ·simp only [Act.put, List.setIfInBounds_toArray, List.set_cons_zero, List.set_cons_succ, i64_w, i32_w]
      rfl
     refine done_ (by kernel_rfl) ?_
     --END10
     go_wp2
     go_roundg k2
     case measure => omega
     case rel =>
      refine ⟨q + 1, _, nums ++ [(o2.length : Int)], by have := HQN.out; omega, by first | exact HNX2.out | go_num, ⟨by rw [List.length_append, HNL.out]; rfl⟩, ⟨fun m hm => ?_⟩, ⟨by rw [HI3.out, HFN.out]⟩, HB4, HK4, HS4, ⟨HQ4.out⟩, HG4, ⟨HN4.out.mono (by have := HAT.out; omega)⟩⟩
      have h1 := flAlts_len (o2.length : Int) 0 (o2 ++ [⟨nm, un, sb, vi, (al.length : Int), inn, (i : Int), []⟩]) al
      rw [List.length_append] at h1
      simp only [List.length_singleton] at h1
      rcases List.mem_append.1 hm with hm | hm
      ·have := HNM.out m hm; omega
      ·rw [List.mem_singleton.1 hm]; omega
theorem flat_all (n : Nat) : ∀ l : List S110, SizeOf.sizeOf l < n → FlatC l := by
 induction n with
 | zero => intro l h; exact absurd h (Nat.not_lt_zero _)
 | succ n ih =>
  intro l h
  refine flat_walk l (fun b hb x hx => ih _ ?_)
  have h1 := List.sizeOf_lt_of_mem hb
  have h2 : SizeOf.sizeOf x < SizeOf.sizeOf b := by
   have := List.sizeOf_lt_of_mem hx
   cases b
   simp only [SB110.mk.sizeOf_spec] at *
   omega
  have h3 : SizeOf.sizeOf x.f5 < SizeOf.sizeOf x := by
   cases x
   simp only [S112.mk.sizeOf_spec]
   omega
  omega
theorem flat_call (l : List S110) : FlatC l := flat_all (SizeOf.sizeOf l + 1) l (by omega)
end Go.Proofs.YtloijngccppfgaaGreat.F
end

section
namespace Go.Proofs.YtloijngccppfgaaGreat.F
open Go.RowKit Go.Proofs.YtloijngccppfgaaGreatW.PrintWords Go.Proofs.YtloijngccppfgaaGreatW.PrintLast Go.Proofs.YtloijngccppfgaaGreatW.PrintMore
attribute [local go_sem] max2_int min2_int max_two min_two max_three min_three max_four min_four
set_option linter.unusedVariables false
set_option linter.unusedSimpArgs false
mutual
def dNode (a : Int) : S112 → Int
 | ⟨_, _, _, sb, _, al⟩ => if sb then mx a (wrap64 (dAlts 0 al + 1)) else a
def dNodes (a : Int) : List S112 → Int
 | [] => a
 | x :: l => dNodes (dNode a x) l
def dBody (a : Int) : SB110 S112 → Int
 | ⟨l⟩ => dNodes a l
def dAlts (a : Int) : List (SB110 S112) → Int
 | [] => a
 | b :: l => dAlts (dBody a b) l
end
def depthI (l : List BodyK) : Int := wrap64 (dAlts 0 l + 1)
mutual
def cNode (a : Int) : S112 → Int
 | ⟨_, _, _, _, _, al⟩ => wrap64 (a + cAlts 0 al)
def cNodes (a : Int) : List S112 → Int
 | [] => a
 | x :: l => cNodes (cNode a x) l
def cBody (a : Int) : SB110 S112 → Int
 | ⟨l⟩ => cNodes (wrap64 (a + (l.length : Int))) l
def cAlts (a : Int) : List (SB110 S112) → Int
 | [] => a
 | b :: l => cAlts (cBody a b) l
end
def countI (l : List BodyK) : Int := cAlts 0 l
theorem dNode_eq (a : Int) (x : NodeK) : dNode a x = if x.f3 then mx a (depthI x.f5) else a := by cases x; simp [dNode, depthI]
theorem cNode_eq (a : Int) (x : NodeK) : cNode a x = wrap64 (a + countI x.f5) := by cases x; simp [cNode, countI]
theorem dBody_eq (a : Int) (b : BodyK) : dBody a b = dNodes a b.f0 := by cases b; simp [dBody]
theorem cBody_eq (a : Int) (b : BodyK) : cBody a b = cNodes (wrap64 (a + (b.f0.length : Int))) b.f0 := by cases b; simp [cBody]
mutual
def lenNode : S112 → Prop
 | ⟨_, _, _, _, _, al⟩ => al.length ≤ 9223372036854775807 ∧ lenAlts al
def lenNodes : List S112 → Prop
 | [] => True
 | x :: l => lenNode x ∧ lenNodes l
def lenBody : SB110 S112 → Prop
 | ⟨l⟩ => l.length ≤ 9223372036854775807 ∧ lenNodes l
def lenAlts : List (SB110 S112) → Prop
 | [] => True
 | b :: l => lenBody b ∧ lenAlts l
end
theorem lenNode_eq (x : NodeK) : lenNode x ↔ x.f5.length ≤ 9223372036854775807 ∧ lenAlts x.f5 := by cases x; simp [lenNode]
theorem lenBody_eq (b : BodyK) : lenBody b ↔ b.f0.length ≤ 9223372036854775807 ∧ lenNodes b.f0 := by cases b; simp [lenBody]
theorem lenNodes_iff : ∀ l : List NodeK, lenNodes l ↔ ∀ x ∈ l, lenNode x
 | [] => by simp [lenNodes]
 | x :: l => by simp [lenNodes, lenNodes_iff l]
theorem lenAlts_iff : ∀ l : List BodyK, lenAlts l ↔ ∀ b ∈ l, lenBody b
 | [] => by simp [lenAlts]
 | x :: l => by simp [lenAlts, lenAlts_iff l]
theorem size_child {l : List BodyK} {b : BodyK} {x : NodeK} (hb : b ∈ l) (hx : x ∈ b.f0) : SizeOf.sizeOf x.f5 < SizeOf.sizeOf l := by
 have h1 := List.sizeOf_lt_of_mem hb
 have h2 : SizeOf.sizeOf x < SizeOf.sizeOf b := by
  have := List.sizeOf_lt_of_mem hx
  cases b
  simp only [SB110.mk.sizeOf_spec] at *
  omega
 have h3 : SizeOf.sizeOf x.f5 < SizeOf.sizeOf x := by
  cases x
  simp only [S112.mk.sizeOf_spec]
  omega
 omega
theorem len_of_C (n : Nat) : ∀ (l : List BodyK) (w : World) (A : Option Addr), SizeOf.sizeOf l < n → k110.C w A l.length l → lenAlts l := by
 induction n with
 | zero => intro l w A h; exact absurd h (Nat.not_lt_zero _)
 | succ n ih =>
  intro l w A h hC
  rw [lenAlts_iff]
  intro b hb
  obtain ⟨i, hi, rfl⟩ := List.getElem_of_mem hb
  obtain ⟨ad, A2, c2, _, _, l2, g2⟩ := at_T110 hC (i : Int) (by omega) (by omega)
  have hrd : rd_T110 l (i : Int) = l[i] := by unfold rd_T110; rw [Int.toNat_natCast, List.getD_eq_getElem?_getD, List.getElem?_eq_getElem hi]; rfl
  rw [hrd] at g2
  rw [lenBody_eq]
  refine ⟨Kd.C_max g2, ?_⟩
  rw [lenNodes_iff]
  intro x hx
  have hsz := size_child hb hx
  obtain ⟨q, hq, rfl⟩ := List.getElem_of_mem hx
  obtain ⟨_, _, _, A5, c5, _, _, _, _, _, _, _, _, _, l5, g5⟩ := at_T112 g2 (q : Int) (by omega) (by omega)
  have hrq : rd_T112 l[i].f0 (q : Int) = l[i].f0[q] := by unfold rd_T112; rw [Int.toNat_natCast, List.getD_eq_getElem?_getD, List.getElem?_eq_getElem hq]; rfl
  rw [hrq] at g5
  rw [lenNode_eq]
  exact ⟨Kd.C_max g5, ih _ w A5 (by omega) g5⟩
theorem rd_body {l : List BodyK} {i : Nat} (hi : i < l.length) : rd_T110 l (i : Int) = l[i] := by unfold rd_T110; rw [Int.toNat_natCast, List.getD_eq_getElem?_getD, List.getElem?_eq_getElem hi]; rfl
theorem rd_node {l : List NodeK} {i : Nat} (hi : i < l.length) : rd_T112 l (i : Int) = l[i] := by unfold rd_T112; rw [Int.toNat_natCast, List.getD_eq_getElem?_getD, List.getElem?_eq_getElem hi]; rfl
theorem w64_next {i n : Nat} (h : i < n) (hn : n ≤ 9223372036854775807) : wrap64 ((i : Int) + 1) = ((i + 1 : Nat) : Int) := by unfold wrap64; omega
theorem count_l1 (l : List BodyK) (hl : l.length ≤ 9223372036854775807) (i : Nat) (hi : i < l.length) (b : List NodeK) (hb : b.length ≤ 9223372036854775807) (hev : ∀ x ∈ b, ∀ nm, Ev (fun k => syntax_Count.f k nm x.f5) (countI x.f5))
  (r : Int → Int) (h0 : ∀ a, Ev (fun k => syntax_Count.l0 k a l (l.length : Int) ((i + 1 : Nat) : Int)) (r a)) (d : Nat) : ∀ (q : Nat) (a : Int), q + d = b.length → Ev (fun k => syntax_Count.l1 k a l (l.length : Int) (i : Int) b (b.length : Int) (q : Int)) (r (cNodes a (b.drop q))) := by
 induction d with
 | zero =>
  intro q a hq
  rw [List.drop_eq_nil_of_le (by omega)]
  refine Ev.step (f := fun k => syntax_Count.l0 k a l (l.length : Int) ((i + 1 : Nat) : Int)) (fun k => ?_) (by simpa [cNodes] using h0 a)
  simp only [syntax_Count.l1]
  rw [if_neg (by omega), w64_next hi hl]
 | succ d ih =>
  intro q a hq
  have hlt : q < b.length := by omega
  rw [List.drop_eq_getElem_cons hlt, cNodes, cNode_eq]
  have hc := hev _ (List.getElem_mem hlt) (⟨#[]⟩ : ByteArray)
  refine Ev.step (f := fun k => (syntax_Count.f k (⟨#[]⟩ : ByteArray) b[q].f5).bind fun t => syntax_Count.l1 k (wrap64 (a + t)) l (l.length : Int) (i : Int) b (b.length : Int) ((q + 1 : Nat) : Int)) (fun k => ?_) (Ev.bind hc (ih (q + 1) _ (by omega)))
  simp only [syntax_Count.l1]
  rw [if_pos (by omega), if_pos (by omega), if_pos (by omega), rd_node hlt, w64_next hlt hb]
theorem count_l0 (l : List BodyK) (hl : l.length ≤ 9223372036854775807) (hb : ∀ b ∈ l, b.f0.length ≤ 9223372036854775807) (hev : ∀ b ∈ l, ∀ x ∈ b.f0, ∀ nm, Ev (fun k => syntax_Count.f k nm x.f5) (countI x.f5)) (d : Nat) :
  ∀ (i : Nat) (a : Int), i + d = l.length → Ev (fun k => syntax_Count.l0 k a l (l.length : Int) (i : Int)) (cAlts a (l.drop i)) := by
 induction d with
 | zero =>
  intro i a hi
  rw [List.drop_eq_nil_of_le (by omega)]
  refine Ev.step (f := fun _ => some a) (fun k => ?_) (by simpa [cAlts] using Ev.now a)
  simp only [syntax_Count.l0]
  rw [if_neg (by omega)]
 | succ d ih =>
  intro i a hi
  have hlt : i < l.length := by omega
  have hm := List.getElem_mem hlt
  rw [List.drop_eq_getElem_cons hlt, cAlts, cBody_eq]
  have h1 := count_l1 l hl i hlt l[i].f0 (hb _ hm) (hev _ hm) (fun a => cAlts a (l.drop (i + 1))) (fun a => ih (i + 1) a (by omega)) l[i].f0.length 0 (wrap64 (a + (l[i].f0.length : Int))) (by omega)
  rw [List.drop_zero] at h1
  refine Ev.step (fun k => ?_) h1
  simp only [syntax_Count.l0]
  rw [if_pos (by omega), if_pos (by omega), if_pos (by omega), rd_body hlt]
  rfl
theorem count_ev (n : Nat) : ∀ (l : List BodyK) (nm : ByteArray), SizeOf.sizeOf l < n → l.length ≤ 9223372036854775807 → lenAlts l → Ev (fun k => syntax_Count.f k nm l) (countI l) := by
 induction n with
 | zero => intro l nm h; exact absurd h (Nat.not_lt_zero _)
 | succ n ih =>
  intro l nm h hl hlen
  rw [lenAlts_iff] at hlen
  have h1 := count_l0 l hl (fun b hb => ((lenBody_eq b).1 (hlen b hb)).1) (fun b hb x hx nm => by
   have h2 := (lenNodes_iff _).1 ((lenBody_eq b).1 (hlen b hb)).2 x hx
   rw [lenNode_eq] at h2
   exact ih x.f5 nm (by have := size_child hb hx; omega) h2.1 h2.2) l.length 0 0 (by omega)
  rw [List.drop_zero] at h1
  refine Ev.step (fun k => ?_) h1
  simp only [syntax_Count.f]
  rfl
theorem depth_l1 (l : List BodyK) (hl : l.length ≤ 9223372036854775807) (i : Nat) (hi : i < l.length) (b : List NodeK) (hb : b.length ≤ 9223372036854775807) (hev : ∀ x ∈ b, ∀ nm, Ev (fun k => syntax_Depth.f k nm x.f5) (depthI x.f5))
  (r : Int → Int) (h0 : ∀ a, Ev (fun k => syntax_Depth.l0 k a l (l.length : Int) ((i + 1 : Nat) : Int)) (r a)) (d : Nat) : ∀ (q : Nat) (a : Int), q + d = b.length → Ev (fun k => syntax_Depth.l1 k a l (l.length : Int) (i : Int) b (b.length : Int) (q : Int)) (r (dNodes a (b.drop q))) := by
 induction d with
 | zero =>
  intro q a hq
  rw [List.drop_eq_nil_of_le (by omega)]
  refine Ev.step (f := fun k => syntax_Depth.l0 k a l (l.length : Int) ((i + 1 : Nat) : Int)) (fun k => ?_) (by simpa [dNodes] using h0 a)
  simp only [syntax_Depth.l1]
  rw [if_neg (by omega), w64_next hi hl]
 | succ d ih =>
  intro q a hq
  have hlt : q < b.length := by omega
  rw [List.drop_eq_getElem_cons hlt, dNodes, dNode_eq]
  have hc := hev _ (List.getElem_mem hlt) (⟨#[]⟩ : ByteArray)
  by_cases hs : b[q].f3 = true
  ·rw [if_pos hs]
   refine Ev.step (f := fun k => (syntax_Depth.f k (⟨#[]⟩ : ByteArray) b[q].f5).bind fun t => syntax_Depth.l1 k (mx a t) l (l.length : Int) (i : Int) b (b.length : Int) ((q + 1 : Nat) : Int)) (fun k => ?_) (Ev.bind hc (ih (q + 1) _ (by omega)))
   simp only [syntax_Depth.l1]
   rw [if_pos (by omega), if_pos (by omega), if_pos (by omega), rd_node hlt, if_pos hs, w64_next hlt hb]
  ·rw [if_neg hs]
   refine Ev.step (fun k => ?_) (ih (q + 1) a (by omega))
   simp only [syntax_Depth.l1]
   rw [if_pos (by omega), if_pos (by omega), if_pos (by omega), rd_node hlt, if_neg hs, w64_next hlt hb]
theorem depth_l0 (l : List BodyK) (hl : l.length ≤ 9223372036854775807) (hb : ∀ b ∈ l, b.f0.length ≤ 9223372036854775807) (hev : ∀ b ∈ l, ∀ x ∈ b.f0, ∀ nm, Ev (fun k => syntax_Depth.f k nm x.f5) (depthI x.f5)) (d : Nat) :
  ∀ (i : Nat) (a : Int), i + d = l.length → Ev (fun k => syntax_Depth.l0 k a l (l.length : Int) (i : Int)) (wrap64 (dAlts a (l.drop i) + 1)) := by
 induction d with
 | zero =>
  intro i a hi
  rw [List.drop_eq_nil_of_le (by omega)]
  refine Ev.step (f := fun _ => some (wrap64 (a + 1))) (fun k => ?_) (by simpa [dAlts] using Ev.now (wrap64 (a + 1)))
  simp only [syntax_Depth.l0]
  rw [if_neg (by omega)]
 | succ d ih =>
  intro i a hi
  have hlt : i < l.length := by omega
  have hm := List.getElem_mem hlt
  rw [List.drop_eq_getElem_cons hlt, dAlts, dBody_eq]
  have h1 := depth_l1 l hl i hlt l[i].f0 (hb _ hm) (hev _ hm) (fun a => wrap64 (dAlts a (l.drop (i + 1)) + 1)) (fun a => ih (i + 1) a (by omega)) l[i].f0.length 0 a (by omega)
  rw [List.drop_zero] at h1
  refine Ev.step (fun k => ?_) h1
  simp only [syntax_Depth.l0]
  rw [if_pos (by omega), if_pos (by omega), if_pos (by omega), rd_body hlt]
  rfl
theorem depth_ev (n : Nat) : ∀ (l : List BodyK) (nm : ByteArray), SizeOf.sizeOf l < n → l.length ≤ 9223372036854775807 → lenAlts l → Ev (fun k => syntax_Depth.f k nm l) (depthI l) := by
 induction n with
 | zero => intro l nm h; exact absurd h (Nat.not_lt_zero _)
 | succ n ih =>
  intro l nm h hl hlen
  rw [lenAlts_iff] at hlen
  have h1 := depth_l0 l hl (fun b hb => ((lenBody_eq b).1 (hlen b hb)).1) (fun b hb x hx nm => by
   have h2 := (lenNodes_iff _).1 ((lenBody_eq b).1 (hlen b hb)).2 x hx
   rw [lenNode_eq] at h2
   exact ih x.f5 nm (by have := size_child hb hx; omega) h2.1 h2.2) l.length 0 0 (by omega)
  rw [List.drop_zero] at h1
  refine Ev.step (fun k => ?_) h1
  simp only [syntax_Depth.f]
  rfl
def checkI (nm : ByteArray) (l : List BodyK) : Int := if okName nm then (if depthI l > 70 then 2 else if countI l > 1000 then 2 else if bodiesOk l then 0 else 2) else 2
theorem check_ev (nm : ByteArray) (l : List BodyK) (hl : l.length ≤ 9223372036854775807) (hlen : lenAlts l) : Ev (fun k => syntax_Check.f k nm l) (checkI nm l) := by
 obtain ⟨k1, h1⟩ := count_ev (SizeOf.sizeOf l + 1) l nm (by omega) hl hlen
 obtain ⟨k2, h2⟩ := depth_ev (SizeOf.sizeOf l + 1) l nm (by omega) hl hlen
 refine ⟨max k1 k2, fun k hk => ?_⟩
 simp only [syntax_Check.f, names_of, Option.bind_some, h1 k (by omega), h2 k (by omega), syntax_bodies.f]
 unfold checkI
 repeat' split
 all_goals rfl
def checkB (nm : ByteArray) (l : List BodyK) : Bool := runB (checkI nm l) (countI l) l
theorem checkB_walk (nm : ByteArray) (A : Option Addr) (c : Nat) (l : List BodyK) (w : World) (hC : k110.C w A l.length l) (hc : l.length ≤ c) :
  Calls Tryz.prog 51 #[.agg #[.string nm, .slice A l.length c]] w fun e w' => e = .returned (.int .i64 (if checkB nm l then 0 else 11)) ∧ Below w.heap.size w w' := by
 have hlen := len_of_C (SizeOf.sizeOf l + 1) l w A (by omega) hC
 obtain ⟨k1, h1⟩ := count_ev (SizeOf.sizeOf l + 1) l nm (by omega) (Kd.C_max hC) hlen
 obtain ⟨k2, h2⟩ := check_ev nm l (Kd.C_max hC) hlen
 exact check_walk nm A c l w hC hc (max k1 k2) _ _ (h2 _ (by omega)) (h1 _ (by omega))
theorem arcsN_good (b : List NodeK) (i : Int) : ∀ (r bef : List ByteArray) (out o : List S227), arcsN b i bef r out = some o → goodPre b bef → goodPre b (bef ++ r)
 | [], bef, _, _, _, h => by simpa using h
 | t :: r, bef, out, o, h, hp => by
  unfold arcsN at h
  split at h
  ·rename_i hc
   simp only [Bool.and_eq_true, decide_eq_true_eq, Bool.not_eq_true'] at hc
   have := arcsN_good b i r _ _ _ h (goodPre_snoc hp hc.1.1 hc.2)
   simpa using this
  ·cases h
theorem arcsL_good (b : List NodeK) : ∀ (l : List NodeK) (i : Int) (out o : List S227), arcsL b i l out = some o → ∀ x ∈ l, x.f2.length ≤ b.length
 | [], _, _, _, _, x, hx => by cases hx
 | y :: l, i, out, o, h, x, hx => by
  unfold arcsL at h
  split at h
  ·cases h
  ·rename_i o2 ho
   rcases List.mem_cons.1 hx with rfl | hx
   ·have := goodPre_len (arcsN_good b i _ _ _ _ ho ⟨by simp, fun s hs => by simp at hs⟩)
    simpa using this
   ·exact arcsL_good b l _ _ _ h x hx
theorem sound_after {l : List BodyK} (h : soundB l = true) {b : BodyK} (hb : b ∈ l) {x : NodeK} (hx : x ∈ b.f0) : x.f2.length ≤ 16 := by
 have h16 := (sound_named h hb).1
 unfold soundB at h
 rw [Bool.and_eq_true, List.all_eq_true] at h
 have h1 := h.2 b hb
 unfold bodySound at h1
 simp only [Bool.and_eq_true] at h1
 have h2 := h1.2
 split at h2
 ·cases h2
 ·rename_i a ha
  exact Nat.le_trans (arcsL_good _ _ _ _ _ ha x hx) h16
theorem visNodes_len (b : BodyK) (d : Int) (m : Nat) : ∀ l : List NodeK, (∀ x ∈ l, (visAlts (wrap64 (d + 1)) x.f5).length ≤ m) → (visNodes b d l).length ≤ l.length * (1 + m)
 | [], _ => by simp [visNodes]
 | x :: l, h => by
  rw [visNodes, visNode_eq, List.length_append, List.length_cons, List.length_cons, Nat.succ_mul]
  have h1 := h x List.mem_cons_self
  have h2 := visNodes_len b d m l (fun y hy => h y (List.mem_cons_of_mem _ hy))
  omega
theorem visBody_eq (d : Int) (b : BodyK) : visBody d b = visNodes b d b.f0 := by cases b; simp [visBody]
theorem visAlts_len (d : Int) (m : Nat) : ∀ l : List BodyK, (∀ b ∈ l, b.f0.length ≤ 16 ∧ ∀ x ∈ b.f0, (visAlts (wrap64 (d + 1)) x.f5).length ≤ m) → (visAlts d l).length ≤ l.length * (16 * (1 + m))
 | [], _ => by simp [visAlts]
 | b :: l, h => by
  rw [visAlts, visBody_eq, List.length_append, List.length_cons, Nat.succ_mul]
  have h1 := h b List.mem_cons_self
  have h2 := visAlts_len d m l (fun y hy => h y (List.mem_cons_of_mem _ hy))
  have h3 := visNodes_len b d m b.f0 h1.2
  have h4 : b.f0.length * (1 + m) ≤ 16 * (1 + m) := Nat.mul_le_mul_right _ h1.1
  omega
def gCap : Nat → Nat
 | 0 => 0
 | n + 1 => 64 * (1 + gCap n)
theorem soundB_len {l : List BodyK} (h : soundB l = true) : l.length ≤ 4 := by
 unfold soundB at h
 rw [Bool.and_eq_true, decide_eq_true_eq] at h
 exact h.1
theorem vis_mem {d : Int} {l : List BodyK} {b : BodyK} {x : NodeK} (hb : b ∈ l) (hx : x ∈ b.f0) {P : Vis → Prop} (hall : ∀ u ∈ visAlts d l, P u) : P ⟨x, b, d⟩ ∧ ∀ u ∈ visAlts (wrap64 (d + 1)) x.f5, P u := by
 obtain ⟨i, hi, rfl⟩ := List.getElem_of_mem hb
 obtain ⟨q, hq, rfl⟩ := List.getElem_of_mem hx
 exact vis_child hi hq hall
theorem vis_cap (n : Nat) : ∀ (l : List BodyK) (d : Int), 1 ≤ d → 7 - d ≤ (n : Int) → soundB l = true → (∀ u ∈ visAlts d l, u.d ≤ 6 ∧ soundB u.n.f5 = true) → (visAlts d l).length ≤ gCap n := by
 induction n with
 | zero =>
  intro l d h1 h2 hs hall
  have h3 := visAlts_len d 0 l (fun b hb => ⟨(sound_named hs hb).1, fun x hx => by
   have := (vis_mem hb hx hall).1.1
   simp only at this
   omega⟩)
  have h4 : ∀ b ∈ l, b.f0 = [] := fun b hb => by
   cases hf : b.f0 with
   | nil => rfl
   | cons x r =>
    have := (vis_mem (x := x) hb (by rw [hf]; exact List.mem_cons_self) hall).1.1
    simp only at this
    omega
  have h5 : ∀ l : List BodyK, (∀ b ∈ l, b.f0 = []) → visAlts d l = [] := by
   intro l hl
   induction l with
   | nil => rfl
   | cons b l ih => rw [visAlts, visBody_eq, hl b List.mem_cons_self, ih (fun y hy => hl y (List.mem_cons_of_mem _ hy))]; rfl
  rw [h5 l h4]
  simp [gCap]
 | succ n ih =>
  intro l d h1 h2 hs hall
  have h3 := visAlts_len d (gCap n) l (fun b hb => ⟨(sound_named hs hb).1, fun x hx => by
   obtain ⟨h5, h6⟩ := vis_mem hb hx hall
   have h7 : wrap64 (d + 1) = d + 1 := by have := h5.1; simp only at this; unfold wrap64; omega
   rw [h7] at h6 ⊢
   exact ih x.f5 (d + 1) (by omega) (by omega) h5.2 h6⟩)
  have h4 : l.length * (16 * (1 + gCap n)) ≤ 4 * (16 * (1 + gCap n)) := Nat.mul_le_mul_right _ (soundB_len hs)
  simp only [gCap]
  omega
theorem cNodes_len (b : BodyK) (d : Int) : ∀ (l : List NodeK) (a : Int), (∀ x ∈ l, ∀ d, countI x.f5 = wrap64 ((visAlts d x.f5).length : Int)) → wrap64 a = a → cNodes a l = wrap64 (a + (((visNodes b d l).length : Int) - (l.length : Int)))
 | [], a, _, ha => by simp [cNodes, visNodes, ha]
 | x :: l, a, h, ha => by
  rw [cNodes, cNode_eq, h x List.mem_cons_self (wrap64 (d + 1)), cNodes_len b d l _ (fun y hy => h y (List.mem_cons_of_mem _ hy)) (by unfold wrap64; omega)]
  rw [visNodes, visNode_eq, List.length_append, List.length_cons, List.length_cons]
  unfold wrap64
  omega
theorem cAlts_len (d : Int) : ∀ (l : List BodyK) (a : Int), (∀ b ∈ l, ∀ x ∈ b.f0, ∀ d, countI x.f5 = wrap64 ((visAlts d x.f5).length : Int)) → wrap64 a = a → cAlts a l = wrap64 (a + ((visAlts d l).length : Int))
 | [], a, _, ha => by simp [cAlts, visAlts, ha]
 | b :: l, a, h, ha => by
  rw [cAlts, cBody_eq, cNodes_len b d b.f0 _ (h b List.mem_cons_self) (by unfold wrap64; omega), cAlts_len d l _ (fun y hy => h y (List.mem_cons_of_mem _ hy)) (by unfold wrap64; omega)]
  rw [visAlts, visBody_eq, List.length_append]
  unfold wrap64
  omega
theorem count_vis (n : Nat) : ∀ (l : List BodyK) (d : Int), SizeOf.sizeOf l < n → countI l = wrap64 ((visAlts d l).length : Int) := by
 induction n with
 | zero => intro l d h; exact absurd h (Nat.not_lt_zero _)
 | succ n ih =>
  intro l d h
  unfold countI
  rw [cAlts_len d l 0 (fun b hb x hx d => ih x.f5 d (by have := size_child hb hx; omega)) (by unfold wrap64; omega), Int.zero_add]
theorem wNodes_len (b : BodyK) (d : Int) : ∀ l : List NodeK, (∀ x ∈ l, x.f2.length ≤ 16 ∧ wAlts x.f5 ≤ 17 * (visAlts (wrap64 (d + 1)) x.f5).length) → wNodes l ≤ 17 * (visNodes b d l).length
 | [], _ => by simp [wNodes]
 | x :: l, h => by
  rw [wNodes, wNode_eq, visNodes, visNode_eq, List.length_append, List.length_cons]
  have h1 := h x List.mem_cons_self
  have h2 := wNodes_len b d l (fun y hy => h y (List.mem_cons_of_mem _ hy))
  omega
theorem wAlts_len (d : Int) : ∀ l : List BodyK, (∀ b ∈ l, ∀ x ∈ b.f0, x.f2.length ≤ 16 ∧ wAlts x.f5 ≤ 17 * (visAlts (wrap64 (d + 1)) x.f5).length) → wAlts l ≤ 17 * (visAlts d l).length
 | [], _ => by simp [wAlts]
 | b :: l, h => by
  rw [wAlts, wBody_eq, visAlts, visBody_eq, List.length_append]
  have h1 := wNodes_len b d b.f0 (h b List.mem_cons_self)
  have h2 := wAlts_len d l (fun y hy => h y (List.mem_cons_of_mem _ hy))
  omega
theorem wAlts_vis (n : Nat) : ∀ (l : List BodyK) (d : Int), SizeOf.sizeOf l < n → soundB l = true → (∀ u ∈ visAlts d l, soundB u.n.f5 = true) → wAlts l ≤ 17 * (visAlts d l).length := by
 induction n with
 | zero => intro l d h; exact absurd h (Nat.not_lt_zero _)
 | succ n ih =>
  intro l d h hs hall
  refine wAlts_len d l (fun b hb x hx => ⟨sound_after hs hb hx, ?_⟩)
  obtain ⟨h1, h2⟩ := vis_mem (P := fun u => soundB u.n.f5 = true) hb hx hall
  exact ih x.f5 _ (by have := size_child hb hx; omega) h1 h2
theorem check_small {nm : ByteArray} {l : List BodyK} (h : checkB nm l = true) : soundB l = true ∧ (∀ u ∈ visAlts 1 l, soundB u.n.f5 = true) ∧ wAlts l ≤ 1088 ∧ countI l = ((visAlts 1 l).length : Int) ∧ (visAlts 1 l).length < 64 ∧ checkI nm l = 0 := by
 unfold checkB runB at h
 simp only [Bool.and_eq_true, decide_eq_true_eq, beq_iff_eq] at h
 obtain ⟨⟨h1, h2⟩, h3, h4⟩ := h
 unfold okAll at h4
 rw [Bool.and_eq_true, List.all_eq_true] at h4
 have hall : ∀ u ∈ visAlts 1 l, u.d ≤ 6 ∧ soundB u.n.f5 = true := fun u hu => by
  have := h4.2 u hu
  unfold okV at this
  simp only [Bool.and_eq_true, decide_eq_true_eq] at this
  exact this.2
 have h5 := vis_cap 6 l 1 (by omega) (by omega) h3 hall
 have h6 := count_vis (SizeOf.sizeOf l + 1) l 1 (by omega)
 have h7 : gCap 6 = 69810262080 := by decide
 have h8 : countI l = ((visAlts 1 l).length : Int) := by rw [h6]; unfold wrap64; omega
 have h9 := wAlts_vis (SizeOf.sizeOf l + 1) l 1 (by omega) h3 (fun u hu => (hall u hu).2)
 refine ⟨h3, fun u hu => (hall u hu).2, by omega, h8, by omega, h1⟩
def rootOf (nm : ByteArray) (l : List BodyK) : ItemK := ⟨nm, ⟨#[]⟩, true, true, (l.length : Int), -1, 0, []⟩
def makeL (nm : ByteArray) (l : List BodyK) : List ItemK := flAlts 0 0 [rootOf nm l] l
def MakeP (nm : ByteArray) (l : List BodyK) (w : World) (e : Ending) (w' : World) : Prop := Below w.heap.size w w' ∧ (if checkB nm l then ∃ v, e = .returned (.tuple #[.agg #[v], .int .i64 0]) ∧ Kd.S k39 39 w' w.heap.size (fun _ => True) v (makeL nm l) else e = .returned (.tuple #[.agg #[.slice none 0 0], .int .i64 11]))
theorem root_row {W : World} {base : Nat} {ok : Nat → Prop} (nm : ByteArray) (l : List BodyK) (hb : base ≤ W.heap.size) (hok : ok W.heap.size) :
  Kd.S k39 39 (W.alloc (.cells #[.string nm, .string ⟨#[]⟩, .bool true, .bool true, .int .i64 l.length, .int .i64 (-1), .int .i64 0, .slice none 0 0] 39)) base ok (.slice (some ⟨W.heap.size, 0, none⟩) 1 1) [rootOf nm l] := by
 refine Kd.S_bare ⟨fun k hk => ?_, ?_⟩
 ·have : W.heap.size = k := by simpa [Value.ownBlock] using hk
  rw [← this]; exact hok
 ·exact OwnRow.lit (R := (Kd.bare k39).M (W.alloc (.cells #[.string nm, .string ⟨#[]⟩, .bool true, .bool true, .int .i64 l.length, .int .i64 (-1), .int .i64 0, .slice none 0 0] 39)) base (fun k => ok k ∧ some k ≠ (Value.slice (some ⟨W.heap.size, 0, none⟩) 1 1).ownBlock)) (size := 8) W base (ps := [rootOf nm l]) (inner := [.string nm, .string ⟨#[]⟩, .bool true, .bool true, .int .i64 l.length, .int .i64 (-1), .int .i64 0, .slice none 0 0])
   (Reps.front (show (k39).M _ base (fun _ => False) (rootOf nm l) _ from k39_mkM _ _ _ _ (Kd.R_nil _ _ _ _ _)) rfl (Reps.none _ _) rfl) hb (by simp)
set_option maxHeartbeats 8000000 in
set_option maxRecDepth 100000 in
theorem make_walk (nm : ByteArray) (A : Option Addr) (c : Nat) (l : List BodyK) (w : World) (hC : k110.C w A l.length l) (hc : l.length ≤ c) : Calls Tryz.prog 23 #[.agg #[.string nm, .slice A l.length c]] w (MakeP nm l w) := by
 have HC := Aside0.mk hC
 have HL := Aside0.mk hc
 have HS := Aside0.mk (fun h : checkB nm l = true => check_small h)
 have HCW := Aside0.mk (fun (W : World) (h : k110.C W A l.length l) => checkB_walk nm A c l W h hc)
 clear hC hc
 obtain ⟨o, ho⟩ : ∃ o, checkB nm l = o := ⟨_, rfl⟩
 have HO := Aside0.mk ho
 rw [ho] at HS HCW
 clear ho
 have HG0 := Aside0.mk (blk_alloc (blk_new w (.cells #[.string nm, .slice A l.length c] 54 (0, 0))) (.cells #[.slice none 0 0] 24 (0, 0)))
 have HG1 := Aside0.mk (blk_new (w.alloc (.cells #[.string nm, .slice A l.length c] 54 (0, 0))) (.cells #[.slice none 0 0] 24 (0, 0)))
 have HB0 := Aside0.mk (((Below.refl w.heap.size w).alloc (Nat.le_refl _) (.cells #[.string nm, .slice A l.length c] 54 (0, 0))).alloc (by simp) (.cells #[.slice none 0 0] 24 (0, 0)))
 rw [show (w.alloc (.cells #[.string nm, .slice A l.length c] 54 (0, 0))).heap.size = w.heap.size + 1 from by simp] at HG1
 have HC0 := Aside0.mk (Kd.C_below HC.out HB0.out)
 go_enter Tryz.func23, Tryz.ntmps23
 cases o with
 | false =>
  go_wp2_with (go_at_call 51; refine (HCW.out _ HC0.out).mono ?_; rintro e w2 ⟨rfl, hb⟩; have HB2 := Aside0.mk (HB0.out.trans (hb.mono HB0.out.size)); have HG2 := Aside0.mk (blk_below HG1.out hb); have y0 : w2.cell? ⟨w.heap.size + 1, 0, none⟩ = some (.slice none 0 0) := (blk_cell HG2.out 0).trans rfl; have y1 := blk_frozen HG2.out 0; clear hb)
  have HR := blk_put HG2.out 0 (.slice none 0 0) rfl
  refine bodyPost_ret (results_ct rfl _ _ (w.heap.size + 1) 24 #[.slice none 0 0] (0, 0) _ rfl HR Tryz.underlying24 rfl (by kernel_rfl)) rfl ?_
  refine ⟨?_, ?_⟩
  ·exact HB2.out.setCell (p := ⟨w.heap.size + 1, 0, none⟩) (by show w.heap.size ≤ w.heap.size + 1; omega) _
  ·rw [HO.out]
   rfl
 | true =>
  have HSM := Aside0.mk (HS.out rfl)
  go_wp2_with (first
   | (go_at_call 51; refine (HCW.out _ HC0.out).mono ?_; rintro e w2 ⟨rfl, hb⟩; have HB2 := Aside0.mk (HB0.out.trans (hb.mono HB0.out.size)); have HG2 := Aside0.mk (blk_below HG1.out hb); have HGA := Aside0.mk (blk_below HG0.out hb); have x0 : w2.cell? ⟨w.heap.size, 0, none⟩ = some (.string nm) := (blk_cell HGA.out 0).trans rfl; have x1 : w2.cell? ⟨w.heap.size, 1, none⟩ = some (.slice A l.length c) := (blk_cell HGA.out 1).trans rfl; have hn1 : w.heap.size < w2.heap.size := blk_lt HGA.out; have hn2 : ¬ (w.heap.size = w2.heap.size) := (by omega); have hn3 : ¬ (w.heap.size = w2.heap.size + 1) := (by omega); have hn4 : w.heap.size < w2.heap.size + 1 := (by omega); have hn5 : ¬ (w2.heap.size = w.heap.size) := (by omega); have hn6 : ¬ (w2.heap.size + 1 = w.heap.size) := (by omega); clear hb)
   | (go_at_call 52; refine stop_ ?_))
  unfold Stop_
  have hw1 : w.heap.size + 1 < w2.heap.size := blk_lt HG2.out
  have hS := root_row (W := w2.alloc (.cells #[.string nm, .string ⟨#[]⟩, .bool true, .bool true, .int .i64 l.length, .int .i64 (-1), .int .i64 0, .slice none 0 0] 39)) (base := w.heap.size) (ok := fun k => k ≠ w.heap.size + 1) nm l (by simp; omega) (by simp; omega)
  rw [show (w2.alloc (.cells #[.string nm, .string ⟨#[]⟩, .bool true, .bool true, .int .i64 l.length, .int .i64 (-1), .int .i64 0, .slice none 0 0] 39)).heap.size = w2.heap.size + 1 from by simp] at hS
  refine (flat_call l 1 w _ A c (fun k => k ≠ w.heap.size + 1) _ [rootOf nm l] 0 1 HC.out HL.out HSM.out.1 HSM.out.2.1 ((HB2.out.alloc HB2.out.size _).alloc (by simp; omega) _) hS ⟨by simp, fun it hi => by rw [List.mem_singleton.1 hi]; simp [rootOf]⟩ (by have := HSM.out.2.2.1; omega)).mono ?_
  rintro e w5 ⟨hb5, hk5, _, v5, rfl, hS5⟩
  have HB5 := Aside0.mk hb5
  have HS5 := Aside0.mk hS5
  have HG5 := Aside0.mk (blk_kept (blk_alloc (blk_alloc HG2.out _) _) hk5 (fun h => h rfl))
  obtain ⟨A6, c6, rfl⟩ := Kd.S_slice hS5
  have y0 : w5.cell? ⟨w.heap.size + 1, 0, none⟩ = some (.slice none 0 0) := (blk_cell HG5.out 0).trans rfl
  have y1 := blk_frozen HG5.out 0
  have y2 := (Kd.S_far (p := ⟨w.heap.size + 1, 0, none⟩) ((Kd.S_mono (Kd.S_bound HS5.out) (fun k hk => (by rcases hk.1 with h | h; exact h; simp at h; omega : k ≠ w.heap.size + 1)))) (fun _ hk => hk) (.slice A6 (flAlts 0 0 [rootOf nm l] l).length c6))
  have HY := Aside0.mk y2
  clear hb5 hk5 hS5 hS hw1 y2 x0 x1 hn1 hn2 hn3 hn4 hn5 hn6
  simp only []
  go_at_K
  go_wp2
  have HR := blk_put HG5.out 0 (.slice A6 (flAlts 0 0 [rootOf nm l] l).length c6) rfl
  refine bodyPost_ret (results_ct rfl _ _ (w.heap.size + 1) 24 #[.slice A6 (flAlts 0 0 [rootOf nm l] l).length c6] (0, 0) _ rfl HR Tryz.underlying24 rfl (by kernel_rfl)) rfl ?_
  refine ⟨?_, ?_⟩
  ·exact HB5.out.setCell (p := ⟨w.heap.size + 1, 0, none⟩) (by show w.heap.size ≤ w.heap.size + 1; omega) _
  ·rw [HO.out, if_pos rfl]
   exact ⟨_, rfl, Kd.S_mono HY.out (fun _ _ => trivial)⟩
end Go.Proofs.YtloijngccppfgaaGreat.F
end

section
namespace Go.Proofs.YtloijngccppfgaaGreat.F
open Go.RowKit Go.Proofs.YtloijngccppfgaaGreatW.PrintWords Go.Proofs.YtloijngccppfgaaGreatW.PrintLast Go.Proofs.YtloijngccppfgaaGreatW.PrintMore
attribute [local go_sem] max2_int min2_int max_two min_two max_three min_three max_four min_four
set_option linter.unusedVariables false
set_option linter.unusedSimpArgs false
def slices_Equal_int_int.l0 : Nat → List Int → List Int → Int → Int → Option (Bool)
 | 0, _, _, _, _ => none
 | k + 1, x0, x1, x12, x13 => if x13 < x12 then (if 0 ≤ x13 then (if x13 < (x0.length : Int) then (if x13 < (x1.length : Int) then (if (rd x0 x13) = (rd x1 x13) then (slices_Equal_int_int.l0 k x0 x1 x12 (wrap64 (x13 + 1))) else (some false)) else (none)) else (none)) else (none)) else (some true)
def slices_Equal_int_int.f (k : Nat) (l0 : List Int) (l1 : List Int) : Option (Bool) := if (l0.length : Int) = (l1.length : Int) then (slices_Equal_int_int.l0 k l0 l1 (l0.length : Int) 0) else (some false)
set_option maxHeartbeats 8000000 in
set_option maxRecDepth 100000 in
theorem slices_Equal_int_int.calls (k : Nat) (A0 : Option Addr) (c0 : Nat) (l0 : List Int) (A1 : Option Addr) (c1 : Nat) (l1 : List Int) (r : Bool) (w : World) (hr0 : Kd.C (Kd.int .i64) w A0 l0.length l0) (hc0 : l0.length ≤ c0) (hr1 : Kd.C (Kd.int .i64) w A1 l1.length l1) (hc1 : l1.length ≤ c1) (h : slices_Equal_int_int.f k l0 l1 = some r) :
  Calls Tryz.prog 152 #[.slice A0 l0.length c0, .slice A1 l1.length c1] w fun e w' => e = .returned (.bool r) ∧ Drawn0 w w' := by
 have HR0 := Aside0.mk hr0
 have HC0 := Aside0.mk hc0
 clear hr0 hc0
 have HR1 := Aside0.mk hr1
 have HC1 := Aside0.mk hc1
 clear hr1 hc1
 have H : (if (l0.length : Int) = (l1.length : Int) then (slices_Equal_int_int.l0 k l0 l1 (l0.length : Int) 0) else (some false)) = some r := h
 clear h
 by_cases c3 : (l0.length : Int) = (l1.length : Int)
 ·rw [if_pos c3] at H
  have c3b0 : ((l0.length : Int) == (l1.length : Int)) = true := beq_iff_eq.mpr c3
  have c3b1 : ((l0.length : Int) != (l1.length : Int)) = false := bne_eq_false_iff_eq.mpr c3
  have c3b2 : (l0.length == l1.length) = true := by first | simpa using c3 | (simp at c3 ⊢; omega)
  clear c3
  have H' := Aside0.mk H
  clear H
  go_enter Tryz.func152, Tryz.ntmps152
  go_wp2
  repeat (go_quiet (fail); try go_wp2)
  go_loopg [13] k (fun kq v13 w' => ∃ (x13_1 : Int), v13 = .int .i64 x13_1 ∧ Aside0 (slices_Equal_int_int.l0 kq l0 l1 (l0.length : Int) x13_1 = some r) ∧ Aside0 (kq ≤ k) ∧ Drawn0 w w')
  case atStart => exact ⟨(0), (by first | rfl | (simp; done) | (simp [*]; done)), H', ⟨Nat.le_refl _⟩, by repeat (first | exact Drawn0.refl _ | apply Drawn0.step)⟩
  case round =>
   clear H'
   try clear c1
   try clear p2
   try clear c3
   try clear c3b0
   try clear c3b1
   try clear c3b2
   obtain ⟨x13_1, rfl, HA, HK1, ⟨m1, rfl⟩⟩ := hrel
   cases gk with
   | zero => exact absurd HA.out (by simp [slices_Equal_int_int.l0])
   | succ k1 =>
    have H := HA.out
    clear HA
    simp only [slices_Equal_int_int.l0] at H
    by_cases c4 : x13_1 < (l0.length : Int)
    ·rw [if_pos c4] at H
     have c4b0 : decide (x13_1 < (l0.length : Int)) = true := decide_eq_true c4
     clear c4
     by_cases c5 : 0 ≤ x13_1
     ·rw [if_pos c5] at H
      have c5b0 : decide (0 ≤ x13_1) = true := decide_eq_true c5
      clear c5
      by_cases c6 : x13_1 < (l0.length : Int)
      ·rw [if_pos c6] at H
       have c6b0 : decide (x13_1 < (l0.length : Int)) = true := decide_eq_true c6
       clear c6
       by_cases c7 : x13_1 < (l1.length : Int)
       ·rw [if_pos c7] at H
        have c7b0 : decide (x13_1 < (l1.length : Int)) = true := decide_eq_true c7
        clear c7
        by_cases c8 : (rd l0 x13_1) = (rd l1 x13_1)
        ·rw [if_pos c8] at H
         have c8b0 : ((rd l0 x13_1) == (rd l1 x13_1)) = true := beq_iff_eq.mpr c8
         have c8b1 : ((rd l0 x13_1) != (rd l1 x13_1)) = false := bne_eq_false_iff_eq.mpr c8
         clear c8
         have H' := Aside0.mk H
         clear H
         have p125 : 0 ≤ (x13_1 : Int) := of_decide_eq_true (by first | (with_reducible assumption) | assumption)
         have q125 : x13_1 < (l0.length : Int) := of_decide_eq_true (by first | (with_reducible assumption) | assumption)
         obtain ⟨ad125, e125, hx125_0⟩ := Kd.at_int HR0.out x13_1 p125 q125
         cases e125
         replace p125 := eq_true p125
         replace q125 := eq_true q125
         have p126 : 0 ≤ (x13_1 : Int) := of_decide_eq_true (by first | (with_reducible assumption) | assumption)
         have q126 : x13_1 < (l1.length : Int) := of_decide_eq_true (by first | (with_reducible assumption) | assumption)
         obtain ⟨ad126, e126, hx126_0⟩ := Kd.at_int HR1.out x13_1 p126 q126
         cases e126
         replace p126 := eq_true p126
         replace q126 := eq_true q126
         go_wp2
         repeat (go_quiet (fail); try go_wp2)
         go_roundg k1
         case measure => have := HK1.out; omega
         case rel => exact ⟨(wrap64 (x13_1 + 1)), (by first | rfl | (simp; done) | (simp [*]; done)), H', ⟨by have := HK1.out; omega⟩, by repeat (first | exact Drawn0.refl _ | apply Drawn0.step)⟩
        ·rw [if_neg c8] at H
         have c8b0 : ((rd l0 x13_1) == (rd l1 x13_1)) = false := beq_eq_false_iff_ne.mpr c8
         have c8b1 : ((rd l0 x13_1) != (rd l1 x13_1)) = true := bne_iff_ne.mpr c8
         obtain rfl := Option.some.inj H
         have p125 : 0 ≤ (x13_1 : Int) := of_decide_eq_true (by first | (with_reducible assumption) | assumption)
         have q125 : x13_1 < (l0.length : Int) := of_decide_eq_true (by first | (with_reducible assumption) | assumption)
         obtain ⟨ad125, e125, hx125_0⟩ := Kd.at_int HR0.out x13_1 p125 q125
         cases e125
         replace p125 := eq_true p125
         replace q125 := eq_true q125
         have p126 : 0 ≤ (x13_1 : Int) := of_decide_eq_true (by first | (with_reducible assumption) | assumption)
         have q126 : x13_1 < (l1.length : Int) := of_decide_eq_true (by first | (with_reducible assumption) | assumption)
         obtain ⟨ad126, e126, hx126_0⟩ := Kd.at_int HR1.out x13_1 p126 q126
         cases e126
         replace p126 := eq_true p126
         replace q126 := eq_true q126
         go_wp2
         repeat (go_quiet (fail); try go_wp2)
         go_ret
         exact ⟨by first | rfl | (simp; done) | (simp [*]; done), by repeat (first | exact Drawn0.refl _ | apply Drawn0.step)⟩
       ·rw [if_neg c7] at H
        exact absurd H (by simp)
      ·rw [if_neg c6] at H
       exact absurd H (by simp)
     ·rw [if_neg c5] at H
      exact absurd H (by simp)
    ·rw [if_neg c4] at H
     have c4b0 : decide (x13_1 < (l0.length : Int)) = false := decide_eq_false c4
     clear c4
     obtain rfl := Option.some.inj H
     go_wp2
     repeat (go_quiet (fail); try go_wp2)
     go_ret
     exact ⟨by first | rfl | (simp; done) | (simp [*]; done), by repeat (first | exact Drawn0.refl _ | apply Drawn0.step)⟩
 ·rw [if_neg c3] at H
  have c3b0 : ((l0.length : Int) == (l1.length : Int)) = false := beq_eq_false_iff_ne.mpr c3
  have c3b1 : ((l0.length : Int) != (l1.length : Int)) = true := bne_iff_ne.mpr c3
  have c3b2 : (l0.length == l1.length) = false := by first | simpa using c3 | (simp at c3 ⊢; omega)
  obtain rfl := Option.some.inj H
  go_enter Tryz.func152, Tryz.ntmps152
  go_wp2
  repeat (go_quiet (fail); try go_wp2)
  go_ret
  exact ⟨by first | rfl | (simp; done) | (simp [*]; done), by repeat (first | exact Drawn0.refl _ | apply Drawn0.step)⟩
end Go.Proofs.YtloijngccppfgaaGreat.F
end

section
namespace Go.Proofs.YtloijngccppfgaaGreat.F
open Go.RowKit Go.Proofs.YtloijngccppfgaaGreatW.PrintWords Go.Proofs.YtloijngccppfgaaGreatW.PrintLast Go.Proofs.YtloijngccppfgaaGreatW.PrintMore
attribute [local go_sem] max2_int min2_int max_two min_two max_three min_three max_four min_four
set_option linter.unusedVariables false
set_option linter.unusedSimpArgs false
def eqAll {α β : Type} (p : α → β → Bool) : List α → List β → Bool
 | [], [] => true
 | x :: l, y :: m => p x y && eqAll p l m
 | _, _ => false
theorem eqAll_len {α β : Type} (p : α → β → Bool) : ∀ (l : List α) (m : List β), l.length ≠ m.length → eqAll p l m = false
 | [], [], h => absurd rfl h
 | [], _ :: _, _ => rfl
 | _ :: _, [], _ => rfl
 | x :: l, y :: m, h => by unfold eqAll; rw [eqAll_len p l m (fun e => h (by simp [e])), Bool.and_false]
set_option maxHeartbeats 8000000 in
set_option maxRecDepth 100000 in
theorem equal_func_item (gf : Nat) (lb : Array Value) (eg : ∀ args w, (callFunc gf args).run Tryz.prog w = .ok (.enter gf args) w) (p : S39 → S39 → Bool) (A0 A1 : Option Addr) (c0 c1 : Nat) (l0 l1 : List S39) (w : World) (hr0 : Kd.C k39 w A0 l0.length l0) (hr1 : Kd.C k39 w A1 l1.length l1)
  (hp : ∀ (i : Nat) (h0 : i < l0.length) (h1 : i < l1.length) (W : World), Below w.heap.size w W → ∀ cs ds, k39.K W l0[i] cs → k39.K W l1[i] ds → Calls Tryz.prog gf (#[.agg cs.toArray, .agg ds.toArray] ++ lb) W fun e W' => e = .returned (.bool (p l0[i] l1[i])) ∧ Below W.heap.size W W') :
  Calls Tryz.prog 137 #[.slice A0 l0.length c0, .slice A1 l1.length c1, .func (.func gf) #[] lb] w fun e w' => e = .returned (.bool (eqAll p l0 l1)) ∧ Below w.heap.size w w' := by
 have HR0 := Aside0.mk hr0
 have HR1 := Aside0.mk hr1
 have HB := Aside0.mk (Below.refl w.heap.size w)
 have HM := Aside0.mk (Kd.C_max hr0)
 have HP := Aside0.mk hp
 clear hr0 hr1 hp
 by_cases hl : l0.length = l1.length
 ·have hl1 : ((l0.length : Int) == (l1.length : Int)) = true := by simp [hl]
  have hl2 : (l0.length == l1.length) = true := by simp [hl]
  have hl3 : ((l0.length : Int) != (l1.length : Int)) = false := by simp [hl]
  have hl4 : (l0.length != l1.length) = false := by simp [hl]
  have hl5 : decide (l0.length = l1.length) = true := decide_eq_true hl
  have HL := Aside0.mk hl
  clear hl
  go_enter Tryz.func137, Tryz.ntmps137
  go_wp2
  go_loopg [17] l0.length (fun kq v17 w' => ∃ i : Nat, i + kq = l0.length ∧ v17 = .int .i64 i ∧ Aside0 (eqAll p l0 l1 = eqAll p (l0.drop i) (l1.drop i)) ∧ Aside0 (Below w.heap.size w w'))
  case atStart => exact ⟨0, by omega, rfl, ⟨rfl⟩, ⟨Below.refl _ _⟩⟩
  case round =>
   obtain ⟨i, hi, rfl, HI, HB⟩ := hrel
   have hm := HM.out
   cases gk with
   | zero =>
    obtain rfl : i = l0.length := by omega
    have HE : Aside0 (eqAll p l0 l1 = true) := ⟨by rw [HI.out, List.drop_eq_nil_of_le (Nat.le_refl _), List.drop_eq_nil_of_le (Nat.le_of_eq HL.out.symm)]; rfl⟩
    clear eg
    go_wp2
    go_ret
    exact ⟨by rw [HE.out]; rfl, HB.out⟩
   | succ k =>
    have hlt : i < l0.length := by omega
    have hlt1 : i < l1.length := by have := HL.out; omega
    obtain ⟨ad, A7, c7, e0, x0, x1, x2, x3, x4, x5, x6, x7, l7, g7⟩ := at_T39 (Kd.C_below HR0.out HB.out) (i : Int) (by omega) (by omega)
    rw [Int.toNat_natCast] at x0 x1 x2 x3 x4 x5 x6 x7
    have hrd : rd_T39 l0 (i : Int) = l0[i] := by unfold rd_T39; rw [Int.toNat_natCast, List.getD_eq_getElem?_getD, List.getElem?_eq_getElem hlt]; rfl
    rw [hrd] at x0 x1 x2 x3 x4 x5 x6 x7 l7 g7
    subst e0
    obtain ⟨x, hx⟩ : ∃ x, l0[i] = x := ⟨_, rfl⟩
    rw [hx] at x0 x1 x2 x3 x4 x5 x6 x7 l7 g7
    obtain ⟨ad1, B7, d7, e1, y0, y1, y2, y3, y4, y5, y6, y7, m7, h7⟩ := at_T39 (Kd.C_alloc (Kd.C_below HR1.out HB.out) (.cells #[.string x.f0, .string x.f1, .bool x.f2, .bool x.f3, .int .i64 x.f4, .int .i64 x.f5, .int .i64 x.f6, .slice A7 x.f7.length c7] 39 (0, 0))) (i : Int) (by omega) (by omega)
    rw [Int.toNat_natCast] at y0 y1 y2 y3 y4 y5 y6 y7
    have hrd1 : rd_T39 l1 (i : Int) = l1[i] := by unfold rd_T39; rw [Int.toNat_natCast, List.getD_eq_getElem?_getD, List.getElem?_eq_getElem hlt1]; rfl
    rw [hrd1] at y0 y1 y2 y3 y4 y5 y6 y7 m7 h7
    subst e1
    obtain ⟨y, hy⟩ : ∃ y, l1[i] = y := ⟨_, rfl⟩
    rw [hy] at y0 y1 y2 y3 y4 y5 y6 y7 m7 h7
    have HBA := Aside0.mk ((HB.out.alloc HB.out.size (.cells #[.string x.f0, .string x.f1, .bool x.f2, .bool x.f3, .int .i64 x.f4, .int .i64 x.f5, .int .i64 x.f6, .slice A7 x.f7.length c7] 39 (0, 0))).alloc (by simp; exact Nat.le_succ_of_le HB.out.size) (.cells #[.string y.f0, .string y.f1, .bool y.f2, .bool y.f3, .int .i64 y.f4, .int .i64 y.f5, .int .i64 y.f6, .slice B7 y.f7.length d7] 39 (0, 0)))
    have hpc := HP.out i hlt hlt1
    rw [hx, hy] at hpc
    have hcall := hpc _ HBA.out _ _ (k39_mk _ x l7 (Kd.C_alloc (Kd.C_alloc g7 (.cells #[.string x.f0, .string x.f1, .bool x.f2, .bool x.f3, .int .i64 x.f4, .int .i64 x.f5, .int .i64 x.f6, .slice A7 x.f7.length c7] 39 (0, 0))) (.cells #[.string y.f0, .string y.f1, .bool y.f2, .bool y.f3, .int .i64 y.f4, .int .i64 y.f5, .int .i64 y.f6, .slice B7 y.f7.length d7] 39 (0, 0)))) (k39_mk _ y m7 (Kd.C_alloc h7 (.cells #[.string y.f0, .string y.f1, .bool y.f2, .bool y.f3, .int .i64 y.f4, .int .i64 y.f5, .int .i64 y.f6, .slice B7 y.f7.length d7] 39 (0, 0))))
    clear hpc
    have HD : Aside0 (eqAll p l0 l1 = (p x y && eqAll p (l0.drop (i + 1)) (l1.drop (i + 1)))) := ⟨by rw [HI.out, List.drop_eq_getElem_cons hlt, List.drop_eq_getElem_cons hlt1, hx, hy]; rfl⟩
    have hlt' : (i : Int) < (l0.length : Int) := by omega
    have hlt1' : (i : Int) < (l1.length : Int) := by omega
    have h0 : (0 : Int) ≤ i := by omega
    have HI2 := Aside0.mk hi
    have HC := Aside0.mk hcall
    clear hx hy hrd hrd1 hi hcall l7 g7 m7 h7
    obtain ⟨v, hv⟩ : ∃ v, p x y = v := ⟨_, rfl⟩
    have HV := Aside0.mk hv
    clear hv
    cases v
    all_goals
     go_wp2_with (go_at_fn gf; refine HC.out.mono ?_; rintro e w2 ⟨rfl, hB2⟩; rw [HV.out]; have HB2 := Aside0.mk (HBA.out.trans (hB2.mono HBA.out.size)); clear hB2)
    ·go_ret
     exact ⟨by rw [HD.out, HV.out]; rfl, HB2.out⟩
    ·go_roundg k
     case measure => omega
     case rel => exact ⟨i + 1, by have := HI2.out; omega, by go_num, ⟨by rw [HD.out, HV.out]; simp⟩, HB2⟩
 ·have hl1 : ((l0.length : Int) == (l1.length : Int)) = false := by simpa using (fun h => hl (by omega) : ¬ (l0.length : Int) = (l1.length : Int))
  have hl2 : (l0.length == l1.length) = false := by simpa using hl
  have hl5 : decide (l0.length = l1.length) = false := decide_eq_false hl
  have HE : Aside0 (eqAll p l0 l1 = false) := ⟨eqAll_len p l0 l1 hl⟩
  clear eg
  go_enter Tryz.func137, Tryz.ntmps137
  go_wp2
  go_ret
  exact ⟨by rw [HE.out]; rfl, HB.out⟩
end Go.Proofs.YtloijngccppfgaaGreat.F
end

section
namespace Go.Proofs.YtloijngccppfgaaGreat.F
open Go.RowKit Go.Proofs.YtloijngccppfgaaGreatW.PrintWords Go.Proofs.YtloijngccppfgaaGreatW.PrintLast Go.Proofs.YtloijngccppfgaaGreatW.PrintMore
attribute [local go_sem] max2_int min2_int max_two min_two max_three min_three max_four min_four
set_option linter.unusedVariables false
set_option linter.unusedSimpArgs false
def alikeB (x y : ItemK) : Bool := decide (x.f0.toList = y.f0.toList) && (decide (x.f1.toList = y.f1.toList) && ((x.f2 == y.f2) && ((x.f3 == y.f3) && (decide (x.f4 = y.f4) && (decide (x.f5 = y.f5) && (decide (x.f6 = y.f6) && decide (x.f7 = y.f7)))))))
theorem equal_int_of (l m : List Int) (hl : l.length ≤ 9223372036854775807) (he : l.length = m.length) (d : Nat) : ∀ (k i : Nat), i + d = l.length → d < k → slices_Equal_int_int.l0 k l m (l.length : Int) (i : Int) = some (decide (l.drop i = m.drop i)) := by
  induction d with
  | zero =>
    intro k i hi hk
    obtain ⟨k, rfl⟩ : ∃ n, k = n + 1 := ⟨k - 1, by omega⟩
    simp only [slices_Equal_int_int.l0]
    rw [if_neg (by omega), List.drop_eq_nil_of_le (by omega), List.drop_eq_nil_of_le (by omega)]
    rfl
  | succ d ih =>
    intro k i hi hk
    obtain ⟨k, rfl⟩ : ∃ n, k = n + 1 := ⟨k - 1, by omega⟩
    simp only [slices_Equal_int_int.l0]
    have h1 : i < l.length := by omega
    have h2 : i < m.length := by omega
    rw [if_pos (by omega), if_pos (by omega), if_pos (by omega), if_pos (by omega)]
    have hr1 : rd l (i : Int) = l[i] := by unfold rd; rw [Int.toNat_natCast, List.getD_eq_getElem?_getD, List.getElem?_eq_getElem h1]; rfl
    have hr2 : rd m (i : Int) = m[i] := by unfold rd; rw [Int.toNat_natCast, List.getD_eq_getElem?_getD, List.getElem?_eq_getElem h2]; rfl
    have e1 := List.drop_eq_getElem_cons h1
    have e2 := List.drop_eq_getElem_cons h2
    rw [hr1, hr2]
    by_cases h : l[i] = m[i]
    · rw [if_pos h, show wrap64 ((i : Int) + 1) = ((i + 1 : Nat) : Int) by unfold wrap64; omega, ih k (i + 1) (by omega) (by omega), e1, e2, h]
      simp only [List.cons.injEq, true_and]
    · rw [if_neg h, e1, e2]
      simp only [List.cons.injEq, h, false_and, decide_false]
theorem equal_int (l m : List Int) (hl : l.length ≤ 9223372036854775807) : slices_Equal_int_int.f (l.length + 1) l m = some (decide (l = m)) := by
  unfold slices_Equal_int_int.f
  by_cases h : l.length = m.length
  · rw [if_pos (by omega)]
    have := equal_int_of l m hl h l.length (l.length + 1) 0 (by omega) (by omega)
    simpa using this
  · rw [if_neg (by omega)]
    rw [decide_eq_false (fun e => h (by rw [e]))]
theorem alikeB_eq (x y : ItemK) : alikeB x y = ((x.f0.toList == y.f0.toList) && ((x.f1.toList == y.f1.toList) && ((x.f2 == y.f2) && ((x.f3 == y.f3) && ((x.f4 == y.f4) && ((x.f5 == y.f5) && ((x.f6 == y.f6) && decide (x.f7 = y.f7)))))))) := by
  unfold alikeB
  rw [show decide (x.f0.toList = y.f0.toList) = (x.f0.toList == y.f0.toList) from by rw [Bool.eq_iff_iff]; simp]
  rw [show decide (x.f1.toList = y.f1.toList) = (x.f1.toList == y.f1.toList) from by rw [Bool.eq_iff_iff]; simp]
  rfl
theorem way_ (a : Bool) {p : Prop} (h : p) : a = false ∨ (a = true ∧ p) := by
  cases a
  · exact .inl rfl
  · exact .inr ⟨rfl, h⟩
set_option maxHeartbeats 8000000 in
theorem alike_walk (W : World) (x y : ItemK) (cs ds : List Value) (h0 : k39.K W x cs) (h1 : k39.K W y ds) : Calls Tryz.prog 138 (#[.agg cs.toArray, .agg ds.toArray] ++ #[]) W fun e W' => e = .returned (.bool (alikeB x y)) ∧ Below W.heap.size W W' := by
  obtain ⟨A7, c7, rfl, l7, g7⟩ := k39_open h0
  obtain ⟨B7, d7, rfl, m7, j7⟩ := k39_open h1
  have HC := Aside0.mk (fun (w2 : World) (hb : Below W.heap.size W w2) => slices_Equal_int_int.calls (x.f7.length + 1) A7 c7 x.f7 B7 d7 y.f7 _ w2 (Kd.C_below g7 hb) l7 (Kd.C_below j7 hb) m7 (equal_int x.f7 y.f7 (Kd.C_max g7)))
  rw [alikeB_eq]
  clear h0 h1 g7 j7 l7 m7
  obtain ⟨x0, x1, x2, x3, x4, x5, x6, x7⟩ := x
  obtain ⟨y0, y1, y2, y3, y4, y5, y6, y7⟩ := y
  dsimp only at HC ⊢
  have HB := Aside0.mk (below_alloc (below_alloc (Below.refl W.heap.size W) (.cells #[.string x0, .string x1, .bool x2, .bool x3, .int .i64 x4, .int .i64 x5, .int .i64 x6, .slice A7 x7.length c7] 39 (0, 0))) (.cells #[.string y0, .string y1, .bool y2, .bool y3, .int .i64 y4, .int .i64 y5, .int .i64 y6, .slice B7 y7.length d7] 39 (0, 0)))
  rcases way_ (x0.toList == y0.toList) (way_ (x1.toList == y1.toList) (way_ (x2 == y2) (way_ (x3 == y3) (way_ (x4 == y4) (way_ (x5 == y5) (way_ (x6 == y6) trivial)))))) with c | ⟨c, d | ⟨c1, d | ⟨c2, d | ⟨c3, d | ⟨c4, d | ⟨c5, d | ⟨c6, -⟩⟩⟩⟩⟩⟩⟩
  all_goals
    simp only [*, Bool.false_and, Bool.true_and]
    go_enter Tryz.func138, Tryz.ntmps138
    go_wp2_with (go_at_call 152; refine (HC.out _ HB.out).mono ?_; rintro e w' ⟨rfl, hb⟩; replace HB := Aside0.mk (HB.out.trans (hb.below.mono HB.out.size)); clear hb)
    go_ret
    exact ⟨rfl, HB.out⟩
def sagaOf (p : List ItemK) : List BodyK := bodiesF p 64 0
def nameP (p : List ItemK) : ByteArray := (rd_T39 p 0).f0
def rightB (p : List ItemK) : Bool := shapedB p && (checkB (nameP p) (sagaOf p) && eqAll alikeB p (makeL (nameP p) (sagaOf p)))
theorem cell_bel {W W2 : World} {a : Addr} {v : Value} (hb : Below W.heap.size W W2) (h : W.cell? a = some v) : W2.cell? a = some v := (hb.cell (World.block_lt_of_cell? W _ h)).trans h
structure SagaP (W1 w' : World) (v : Value) (g4 : Nat) (l : List BodyK) : Prop where
  below : Below W1.heap.size W1 w'
  saga : w'.heap[g4]? = some (.cells #[.string ⟨#[]⟩, .slice none 0 0] 54 (0, 0))
  old : W1.heap.size ≤ g4
  rows : Kd.R k110 110 w' W1.heap.size (fun k => k ≠ g4) v l
theorem saga_after {W1 w2 : World} {v : Value} {l : List BodyK} (hb : Below W1.drew.heap.size W1.drew w2) (hk : Kd.R k110 110 w2 W1.drew.heap.size (fun _ => True) v l) : SagaP W1 (w2.alloc (.cells #[.string ⟨#[]⟩, .slice none 0 0] 54)) v w2.heap.size l where
  below := ((below_drew (Below.refl W1.heap.size W1)).trans hb).alloc hb.size _
  saga := blk_new _ _
  old := hb.size
  rows := Kd.R_alloc (Kd.R_mono (Kd.R_bound hk) (fun k hk => by have := hk.2.2.1; omega)) _
theorem saga_ahead {W1 w2 : World} {v : Value} {l : List BodyK} (hb : Below (W1.alloc (.cells #[.string ⟨#[]⟩, .slice none 0 0] 54)).drew.heap.size (W1.alloc (.cells #[.string ⟨#[]⟩, .slice none 0 0] 54)).drew w2)
    (hk : Kd.R k110 110 w2 (W1.alloc (.cells #[.string ⟨#[]⟩, .slice none 0 0] 54)).drew.heap.size (fun _ => True) v l) : SagaP W1 w2 v W1.heap.size l where
  below := (below_drew ((Below.refl W1.heap.size W1).alloc (Nat.le_refl _) _)).trans (hb.mono (by simp))
  saga := blk_below (blk_drew (blk_new W1 _)) hb
  old := Nat.le_refl _
  rows := Kd.R_lower (Kd.R_mono (Kd.R_bound hk) (fun k hk => by have h1 := hk.2.1; simp at h1; omega)) (by simp)
def BackP (p : List ItemK) (w : World) (e : Ending) (w' : World) : Prop := Below w.heap.size w w' ∧ (if rightB p then ∃ v, e = .returned (.tuple #[.agg #[.string (nameP p), v], .int .i64 0]) ∧ Kd.R k110 110 w' w.heap.size (fun _ => True) v (sagaOf p) else e = .returned (.tuple #[.agg #[.string ⟨#[]⟩, .slice none 0 0], .int .i64 2]))
set_option maxHeartbeats 16000000 in
set_option maxRecDepth 100000 in
theorem back_walk (A : Option Addr) (c : Nat) (p : List ItemK) (w : World) (hC : k39.C w A p.length p) (hc : p.length ≤ c) (hbig : ∀ x ∈ p, x.f7.length ≤ 1000000) : Calls Tryz.prog 115 #[.agg #[.slice A p.length c]] w (BackP p w) := by
  have HC := Aside0.mk hC
  have HL := Aside0.mk hc
  have HBIG := Aside0.mk hbig
  have HE := Aside0.mk (enters_of Tryz.func138 (P := Tryz.prog) (f := 138) (by kernel_rfl) rfl)
  have HG0 := Aside0.mk (blk_alloc (blk_new w (.cells #[.slice A p.length c] 24 (0, 0))) (.cells #[.string ⟨#[]⟩, .slice none 0 0] 54 (0, 0)))
  have HG1 := Aside0.mk (blk_new (w.alloc (.cells #[.slice A p.length c] 24 (0, 0))) (.cells #[.string ⟨#[]⟩, .slice none 0 0] 54 (0, 0)))
  have HB0 := Aside0.mk (((Below.refl w.heap.size w).alloc (Nat.le_refl _) (.cells #[.slice A p.length c] 24 (0, 0))).alloc (by simp) (.cells #[.string ⟨#[]⟩, .slice none 0 0] 54 (0, 0)))
  rw [show (w.alloc (.cells #[.slice A p.length c] 24 (0, 0))).heap.size = w.heap.size + 1 from by simp] at HG1
  have HC0 := Aside0.mk (Kd.C_below HC.out HB0.out)
  have HSW := Aside0.mk (shaped_walk A c p _ HC0.out hc)
  clear hC hc hbig
  obtain ⟨o, ho⟩ : ∃ o, shapedB p = o := ⟨_, rfl⟩
  have HO := Aside0.mk ho
  rw [ho] at HSW
  clear ho
  go_enter Tryz.func115, Tryz.ntmps115
  cases o with
  | false =>
    go_wp2_with (go_at_call 135; refine HSW.out.mono ?_; rintro e w2 ⟨rfl, hb⟩; have HB2 := Aside0.mk (HB0.out.trans (hb.mono HB0.out.size)); have HG2 := Aside0.mk (blk_below HG1.out hb); have y0 : w2.cell? ⟨w.heap.size + 1, 0, none⟩ = some (.string ⟨#[]⟩) := (blk_cell HG2.out 0).trans rfl; have y1 : w2.cell? ⟨w.heap.size + 1, 1, none⟩ = some (.slice none 0 0) := (blk_cell HG2.out 1).trans rfl; have f0 := blk_frozen HG2.out 0; have f1 := blk_frozen HG2.out 1; clear hb)
    have HR := blk_put (blk_put HG2.out 0 (.string ⟨#[]⟩) rfl) 1 (.slice none 0 0) rfl
    refine bodyPost_ret (results_ct rfl _ _ (w.heap.size + 1) 54 #[.string ⟨#[]⟩, .slice none 0 0] (0, 0) _ rfl HR Tryz.underlying54 rfl (by kernel_rfl)) rfl ?_
    refine ⟨?_, ?_⟩
    · exact (HB2.out.setCell (p := ⟨w.heap.size + 1, 0, none⟩) (by show w.heap.size ≤ w.heap.size + 1; omega) _).setCell (p := ⟨w.heap.size + 1, 1, none⟩) (by show w.heap.size ≤ w.heap.size + 1; omega) _
    · rw [show rightB p = false from by unfold rightB; rw [HO.out]; rfl]
      rfl
  | true =>
    have HSL := Aside0.mk (shaped_len HO.out)
    go_wp2_with (go_at_call 135; refine HSW.out.mono ?_; rintro e w2 ⟨rfl, hb⟩; have HB2 := Aside0.mk (HB0.out.trans (hb.mono HB0.out.size)); have HG2 := Aside0.mk (blk_below HG1.out hb); have HGA := Aside0.mk (blk_below HG0.out hb); clear hb)
    have HC2 := Aside0.mk (Kd.C_below HC.out HB2.out)
    obtain ⟨ad, A7, c7, e0, z0, _⟩ := at_T39 HC2.out 0 (by omega) (by have := HSL.out.1; omega)
    subst e0
    have HX0 : Aside0 (w2.drew.cell? ad = some (.string (nameP p))) := ⟨by have h : w2.drew.cell? (ad.add ((0 : Int).toNat * 8)) = _ := z0; rw [show (0 : Int).toNat * 8 = 0 from rfl, show ad.add 0 = ad from by simp [Addr.add]] at h; exact h⟩
    have HWB : Aside0 (∀ W : World, k39.C W (some ad) p.length p → Calls Tryz.prog 136 #[.agg #[.slice (some ad) p.length c], .int .i64 0] W (BodiesP p 64 0 W)) := ⟨fun W h => planBodies_walk p HO.out HBIG.out 64 (some ad) c 0 W h HL.out HSL.out.1 (by have := HSL.out.2; omega)⟩
    have hp0 : (0 : Int) < (p.length : Int) := by have := HSL.out.1; omega
    have hp1 : 0 < p.length := HSL.out.1
    clear z0
    --MARK3
    refine start_ (n := 10) (S := fun w' => w'.cell? ⟨w.heap.size, 0, none⟩ = some (.slice (some ad) p.length c) ∧ w'.cell? ad = some (.string (nameP p))) (ds := [9]) #[false, false, false, false, false, false, false, false, false, false] (by kernel_rfl) rfl rfl ⟨((blk_cell (blk_drew HGA.out) 0).trans rfl), HX0.out⟩ (fun hHeld => ?_)
    refine pure_ (i := 0) (N := some 11) (v := ?_) (a' := ?_) #[true, false, false, false, false, false, false, false, false, false] rfl rfl (by kernel_rfl) (fun _ _ _ h => h) (Or.inl ⟨by rfl, ?_⟩) ?_ ?_
    rotate_left
    · intro w'
      go_simp
      with_reducible rfl
    rotate_left
    · simp only [Act.put, List.setIfInBounds_toArray, List.set_cons_zero, List.set_cons_succ, i64_w, i32_w]
      rfl
    refine take_ (i := 1) (N := some 12) (v := ?_) (a' := ?_) #[true, true, false, false, false, false, false, false, false, false] rfl rfl (by kernel_rfl) (fun _ _ _ h => h) (Or.inl ⟨by rfl, ?_⟩) hHeld ?_ ?_
    rotate_left
    · rintro w' ⟨s0, s1⟩
      go_simp
      with_reducible rfl
    rotate_left
    · simp only [Act.put, List.setIfInBounds_toArray, List.set_cons_zero, List.set_cons_succ, i64_w, i32_w]
      rfl
    refine pure_ (i := 2) (N := some 13) (v := ?_) (a' := ?_) #[true, true, true, false, false, false, false, false, false, false] rfl rfl (by kernel_rfl) (fun _ _ _ h => h) (Or.inl ⟨by rfl, ?_⟩) ?_ ?_
    rotate_left
    · intro w'
      go_simp
      with_reducible rfl
    rotate_left
    · simp only [Act.put, List.setIfInBounds_toArray, List.set_cons_zero, List.set_cons_succ, i64_w, i32_w]
      rfl
    refine pure_ (i := 3) (N := some 14) (v := ?_) (a' := ?_) #[true, true, true, true, false, false, false, false, false, false] rfl rfl (by kernel_rfl) (fun _ _ _ h => h) (Or.inl ⟨by rfl, ?_⟩) ?_ ?_
    rotate_left
    · intro w'
      go_simp
      with_reducible rfl
    rotate_left
    · simp only [Act.put, List.setIfInBounds_toArray, List.set_cons_zero, List.set_cons_succ, i64_w, i32_w]
      rfl
    refine take_ (i := 4) (N := some 15) (v := ?_) (a' := ?_) #[true, true, true, true, true, false, false, false, false, false] rfl rfl (by kernel_rfl) (fun _ _ _ h => h) (Or.inl ⟨by rfl, ?_⟩) hHeld ?_ ?_
    rotate_left
    · rintro w' ⟨s0, s1⟩
      go_simp
      with_reducible rfl
    rotate_left
    · simp only [Act.put, List.setIfInBounds_toArray, List.set_cons_zero, List.set_cons_succ, i64_w, i32_w]
      rfl
    refine take_ (i := 5) (N := some 16) (v := ?_) (a' := ?_) #[true, true, true, true, true, true, false, false, false, false] rfl rfl (by kernel_rfl) (fun _ _ _ h => h) (Or.inl ⟨by rfl, ?_⟩) hHeld ?_ ?_
    rotate_left
    · rintro w' ⟨s0, s1⟩
      go_simp
      with_reducible rfl
    rotate_left
    · simp only [Act.put, List.setIfInBounds_toArray, List.set_cons_zero, List.set_cons_succ, i64_w, i32_w]
      rfl
    refine join_ (σ := Option Addr × Nat × Nat) 1 #[true, true, true, true, true, true, true, true, true, false] (fun s => [(17, .slice s.1 (sagaOf p).length s.2.1), (4, .pointer (some ⟨s.2.2, 0, none⟩)), (18, .agg #[.string (nameP p), .slice s.1 (sagaOf p).length s.2.1])]) (fun s w' => SagaP w2 w' (.slice s.1 (sagaOf p).length s.2.1) s.2.2 (sagaOf p)) ?_ ?_
    rotate_left
    · intro hCont
      refine two_ (i := 6) (j := 8) (Ni := some 17) (Nj := some 4) #[true, true, true, true, true, true, true, false, false, false] #[true, true, true, true, true, true, false, false, true, false] rfl rfl rfl rfl (by kernel_rfl) (by decide) (by decide) (fun K hK => ?_) (fun K hK => ?_)
      · skip
        refine goes_ Tryz.func136 (by kernel_rfl) rfl #[.agg #[.slice (some ad) p.length c], .int .i64 0] (by rfl) rfl rfl (by first | rfl | (simp only [List.map_toArray, List.map_cons, List.map_nil]; rfl)) ?_
        with_reducible refine ((HWB.out w2.drew (Kd.C_drew HC2.out))).mono ?_
        rintro e w3 ⟨hb, vk, rfl, hK2⟩
        refine ⟨_, rfl, ?_⟩
        rw [show bodiesF p 64 0 = sagaOf p from rfl] at hK2
        obtain ⟨Ak, ck, rfl⟩ := Kd.R_slice hK2
        have HBK := Aside0.mk hb
        have HK2 := Aside0.mk hK2
        clear hb hK2
        refine hK.out _ _ ⟨(cell_bel HBK.out hHeld.1), (cell_bel HBK.out hHeld.2)⟩ (fun hHeld => ?_)
        clear hK K
        refine norm_ (a' := ?_) ?_ ?_
        rotate_left
        · show Act.put _ (some 17) _ = _
          simp only [Act.put, List.setIfInBounds_toArray, List.set_cons_zero, List.set_cons_succ, i64_w, i32_w]
          rfl
        refine pure_ (i := 7) (N := some 18) (v := ?_) (a' := ?_) #[true, true, true, true, true, true, true, true, false, false] rfl rfl (by kernel_rfl) (fun _ _ _ h => h) (Or.inl ⟨by rfl, ?_⟩) ?_ ?_
        rotate_left
        · intro w'
          go_simp
          with_reducible rfl
        rotate_left
        · simp only [Act.put, List.setIfInBounds_toArray, List.set_cons_zero, List.set_cons_succ, i64_w, i32_w]
          rfl
        refine one_ (i := 8) (N := some 4) #[true, true, true, true, true, true, true, true, true, false] rfl rfl (by kernel_rfl) (by decide) (fun K hK => ?_)
        refine value_ (w1 := ?_) (v := ?_) (by rfl) rfl ?_ ?_
        rotate_left 2
        · go_simp
          constructor
          · rfl
          · rfl
        refine hK.out _ _ ⟨(cell_al hHeld.1), (cell_al hHeld.2)⟩ (fun hHeld => ?_)
        clear hK K
        refine norm_ (a' := ?_) ?_ ?_
        rotate_left
        · show Act.put _ (some 4) _ = _
          simp only [Act.put, List.setIfInBounds_toArray, List.set_cons_zero, List.set_cons_succ, i64_w, i32_w]
          rfl
        exact norm_ (by simp only [putAll, Act.put, List.setIfInBounds_toArray, List.set_cons_zero, List.set_cons_succ]) (hCont (Ak, ck, w3.heap.size) _ (saga_after HBK.out HK2.out))
      · skip
        refine value_ (w1 := ?_) (v := ?_) (by rfl) rfl ?_ ?_
        rotate_left 2
        · go_simp
          constructor
          · rfl
          · rfl
        refine hK.out _ _ ⟨(cell_al hHeld.1), (cell_al hHeld.2)⟩ (fun hHeld => ?_)
        clear hK K
        refine norm_ (a' := ?_) ?_ ?_
        rotate_left
        · show Act.put _ (some 4) _ = _
          simp only [Act.put, List.setIfInBounds_toArray, List.set_cons_zero, List.set_cons_succ, i64_w, i32_w]
          rfl
        refine one_ (i := 6) (N := some 17) #[true, true, true, true, true, true, true, false, true, false] rfl rfl (by kernel_rfl) (by decide) (fun K hK => ?_)
        refine goes_ Tryz.func136 (by kernel_rfl) rfl #[.agg #[.slice (some ad) p.length c], .int .i64 0] (by rfl) rfl rfl (by first | rfl | (simp only [List.map_toArray, List.map_cons, List.map_nil]; rfl)) ?_
        with_reducible refine ((HWB.out _ (Kd.C_drew (Kd.C_alloc HC2.out _)))).mono ?_
        rintro e w3 ⟨hb, vk, rfl, hK2⟩
        refine ⟨_, rfl, ?_⟩
        rw [show bodiesF p 64 0 = sagaOf p from rfl] at hK2
        obtain ⟨Ak, ck, rfl⟩ := Kd.R_slice hK2
        have HBK := Aside0.mk hb
        have HK2 := Aside0.mk hK2
        clear hb hK2
        refine hK.out _ _ ⟨(cell_bel HBK.out hHeld.1), (cell_bel HBK.out hHeld.2)⟩ (fun hHeld => ?_)
        clear hK K
        refine norm_ (a' := ?_) ?_ ?_
        rotate_left
        · show Act.put _ (some 17) _ = _
          simp only [Act.put, List.setIfInBounds_toArray, List.set_cons_zero, List.set_cons_succ, i64_w, i32_w]
          rfl
        refine pure_ (i := 7) (N := some 18) (v := ?_) (a' := ?_) #[true, true, true, true, true, true, true, true, true, false] rfl rfl (by kernel_rfl) (fun _ _ _ h => h) (Or.inl ⟨by rfl, ?_⟩) ?_ ?_
        rotate_left
        · intro w'
          go_simp
          with_reducible rfl
        rotate_left
        · simp only [Act.put, List.setIfInBounds_toArray, List.set_cons_zero, List.set_cons_succ, i64_w, i32_w]
          rfl
        exact norm_ (by simp only [putAll, Act.put, List.setIfInBounds_toArray, List.set_cons_zero, List.set_cons_succ]) (hCont (Ak, ck, w2.heap.size) _ (saga_ahead HBK.out HK2.out))
    rintro ⟨Ak, ck, g4⟩ W6 HF6
    have HKP : Aside0 (SagaP w2 W6 (.slice Ak (sagaOf p).length ck) g4 (sagaOf p)) := ⟨HF6⟩
    have q0 := (blk_cell HKP.out.saga 0).trans rfl
    have q1 := (blk_cell HKP.out.saga 1).trans rfl
    have y0 := blk_frozen HKP.out.saga 0
    have y1 := blk_frozen HKP.out.saga 1
    clear HF6
    refine norm_ (a' := ?_) ?_ ?_
    rotate_left
    · simp only [putAll, Act.put, List.setIfInBounds_toArray, List.set_cons_zero, List.set_cons_succ]
      rfl
    refine last_ (i := 9) (N := none) #[true, true, true, true, true, true, true, true, true, true] rfl rfl (by kernel_rfl) (by decide) (fun K hK => ?_)
    refine skip_ (w1 := ?_) (by rfl) rfl ?_ ?_
    rotate_left
    · go_simp
      rfl
    refine hK.out _ _ ?_
    clear hK K
    refine done_ (by kernel_rfl) ?_
    --END3
    have HK6 := Aside0.mk HKP.out
    have HG4 := Aside0.mk (blk_put (blk_put HK6.out.saga 0 (.string (nameP p)) rfl) 1 (.slice Ak (sagaOf p).length ck) rfl)
    have HK7 := Aside0.mk (Kd.R_far (p := ⟨g4, 1, none⟩) (Kd.R_far (p := ⟨g4, 0, none⟩) HK6.out.rows (fun _ hk => hk) (.string (nameP p))) (fun _ hk => hk) (.slice Ak (sagaOf p).length ck))
    have HB7 := Aside0.mk (((HB2.out.trans (HK6.out.below.mono HB2.out.size)).setCell (p := ⟨g4, 0, none⟩) (Nat.le_trans HB2.out.size HK6.out.old) (.string (nameP p))).setCell (p := ⟨g4, 1, none⟩) (Nat.le_trans HB2.out.size HK6.out.old) (.slice Ak (sagaOf p).length ck))
    have HR7 := Aside0.mk ((Below.heap_setCell (W6.setCell ⟨g4, 0, none⟩ (.string (nameP p))) ⟨g4, 1, none⟩ (.slice Ak (sagaOf p).length ck) (w.heap.size + 1) (by have h1 := blk_lt HG2.out; have h2 := HK6.out.old; show w.heap.size + 1 ≠ g4; omega)).trans ((Below.heap_setCell W6 ⟨g4, 0, none⟩ (.string (nameP p)) (w.heap.size + 1) (by have h1 := blk_lt HG2.out; have h2 := HK6.out.old; show w.heap.size + 1 ≠ g4; omega)).trans (blk_below HG2.out HK6.out.below)))
    have HP7 := Aside0.mk ((Below.heap_setCell (W6.setCell ⟨g4, 0, none⟩ (.string (nameP p))) ⟨g4, 1, none⟩ (.slice Ak (sagaOf p).length ck) w.heap.size (by have h1 := blk_lt HGA.out; have h2 := HK6.out.old; show w.heap.size ≠ g4; omega)).trans ((Below.heap_setCell W6 ⟨g4, 0, none⟩ (.string (nameP p)) w.heap.size (by have h1 := blk_lt HGA.out; have h2 := HK6.out.old; show w.heap.size ≠ g4; omega)).trans (blk_below HGA.out HK6.out.below)))
    clear q0 q1 y0 y1 hHeld HK6 HKP
    generalize (W6.setCell ⟨g4, 0, none⟩ (.string (nameP p))).setCell ⟨g4, 1, none⟩ (.slice Ak (sagaOf p).length ck) = W7 at HG4 HK7 HB7 HR7 HP7 ⊢
    have q0 : W7.cell? ⟨g4, 0, none⟩ = some (.string (nameP p)) := (blk_cell HG4.out 0).trans rfl
    have q1 : W7.cell? ⟨g4, 1, none⟩ = some (.slice Ak (sagaOf p).length ck) := (blk_cell HG4.out 1).trans rfl
    have HMK := Aside0.mk (make_walk (nameP p) Ak ck (sagaOf p) W7 (Kd.R_reads' HK7.out).2.2 (Kd.R_reads' HK7.out).2.1)
    have HKR : Aside0 (∀ W, Below W7.heap.size W7 W → Kd.R k110 110 W w.heap.size (fun _ => True) (.slice Ak (sagaOf p).length ck) (sagaOf p)) := ⟨fun W h => Kd.R_lower (Kd.R_mono (Kd.R_below HK7.out h) (fun _ _ => trivial)) HB2.out.size⟩
    obtain ⟨o2, ho2⟩ : ∃ o, checkB (nameP p) (sagaOf p) = o := ⟨_, rfl⟩
    have HO2 := Aside0.mk ho2
    clear ho2
    have hfs : ∀ W : World, Below W7.heap.size W7 W → W.cell? ⟨g4, 0, none⟩ = some (.string (nameP p)) ∧ W.cell? ⟨g4, 1, none⟩ = some (.slice Ak (sagaOf p).length ck) ∧ W.heap[w.heap.size + 1]? = some (.cells #[.string ⟨#[]⟩, .slice none 0 0] 54 (0, 0)) ∧ W.heap[w.heap.size]? = some (.cells #[.slice (some ad) p.length c] 24 (0, 0)) := fun W h => ⟨cell_bel h q0, cell_bel h q1, blk_below HR7.out h, blk_below HP7.out h⟩
    have HFS := Aside0.mk hfs
    clear hfs
    cases o2 with
    | false =>
      go_wp2_with (go_at_call 23; refine HMK.out.mono ?_; rintro e w8 ⟨hb, he⟩; rw [HO2.out, if_neg (by simp)] at he; subst he; have HB8 := Aside0.mk hb; have HGR := Aside0.mk (HFS.out _ hb).2.2.1; have HGP := Aside0.mk (HFS.out _ hb).2.2.2; have y0 : w8.cell? ⟨w.heap.size + 1, 0, none⟩ = some (.string ⟨#[]⟩) := (blk_cell HGR.out 0).trans rfl; have y1 : w8.cell? ⟨w.heap.size + 1, 1, none⟩ = some (.slice none 0 0) := (blk_cell HGR.out 1).trans rfl; have f0 := blk_frozen HGR.out 0; have f1 := blk_frozen HGR.out 1; have p0 : w8.cell? ⟨w.heap.size, 0, none⟩ = some (.slice (some ad) p.length c) := (blk_cell HGP.out 0).trans rfl; have hn1 : w.heap.size + 1 < w8.heap.size := blk_lt HGR.out; have hn2 : ¬ (w.heap.size + 1 = w8.heap.size) := (by omega); have hn3 : ¬ (w8.heap.size = w.heap.size + 1) := (by omega); have hn4 : w.heap.size < w8.heap.size := (by omega); have hn5 : ¬ (w.heap.size = w8.heap.size) := (by omega); clear hb q0 q1)
      have HR := blk_alloc (blk_put (blk_put HGR.out 0 (.string ⟨#[]⟩) rfl) 1 (.slice none 0 0) rfl) (.cells #[.slice none 0 0] 24 (0, 0))
      refine bodyPost_ret (results_ct rfl _ _ (w.heap.size + 1) 54 #[.string ⟨#[]⟩, .slice none 0 0] (0, 0) _ rfl HR Tryz.underlying54 rfl (by kernel_rfl)) rfl ?_
      refine ⟨?_, ?_⟩
      · have h1 := ((HB7.out.trans (HB8.out.mono HB7.out.size)).setCell (p := ⟨w.heap.size + 1, 0, none⟩) (by show w.heap.size ≤ w.heap.size + 1; omega) (.string ⟨#[]⟩)).setCell (p := ⟨w.heap.size + 1, 1, none⟩) (by show w.heap.size ≤ w.heap.size + 1; omega) (.slice none 0 0)
        exact h1.alloc h1.size _
      · rw [show rightB p = false from by unfold rightB; rw [HO2.out, Bool.false_and, Bool.and_false]]
        rfl
    | true =>
      obtain ⟨o3, ho3⟩ : ∃ o, eqAll alikeB p (makeL (nameP p) (sagaOf p)) = o := ⟨_, rfl⟩
      have HO3 := Aside0.mk ho3
      clear ho3
      cases o3
      all_goals
        go_wp2_with (first
          | (go_at_call 23; refine HMK.out.mono ?_; rintro e w8 ⟨hb, he⟩; rw [HO2.out, if_pos rfl] at he; obtain ⟨vM, rfl, hSM⟩ := he; have hRM := Kd.S_R hSM; obtain ⟨AM, cM, rfl⟩ := Kd.R_slice hRM; have HB8 := Aside0.mk hb; have HGR := Aside0.mk (HFS.out _ hb).2.2.1; have HGP := Aside0.mk (HFS.out _ hb).2.2.2; have p0 : w8.cell? ⟨w.heap.size, 0, none⟩ = some (.slice (some ad) p.length c) := (blk_cell HGP.out 0).trans rfl
             have HCP : Aside0 (∀ W, Below w8.heap.size w8 W → k39.C W (some ad) p.length p ∧ k39.C W AM (makeL (nameP p) (sagaOf p)).length (makeL (nameP p) (sagaOf p))) := ⟨fun W h => ⟨Kd.C_below (Kd.C_below HC.out (HB7.out.trans (hb.mono HB7.out.size))) h, Kd.C_below (Kd.R_reads' hRM).2.2 h⟩⟩
             have hn1 : w.heap.size + 1 < w8.heap.size := blk_lt HGR.out; have hn2 : ¬ (w.heap.size + 1 = w8.heap.size) := (by omega); have hn3 : ¬ (w8.heap.size = w.heap.size + 1) := (by omega); have hn4 : w.heap.size < w8.heap.size := (by omega); have hn5 : ¬ (w.heap.size = w8.heap.size) := (by omega); clear hb q0 q1 hRM hSM)
          | (go_at_call 137; refine (equal_func_item 138 #[] HE.out alikeB (some ad) AM c cM p (makeL (nameP p) (sagaOf p)) _ (HCP.out _ ((Below.refl _ _).alloc (Nat.le_refl _) _)).1 (HCP.out _ ((Below.refl _ _).alloc (Nat.le_refl _) _)).2 (fun i h0 h1 W hW cs ds h2 h3 => alike_walk W _ _ cs ds h2 h3)).mono ?_; rintro e w9 ⟨rfl, hb⟩; rw [HO3.out]
             have HB9 := Aside0.mk ((HB8.out.alloc HB8.out.size (.cells #[.slice AM (makeL (nameP p) (sagaOf p)).length cM] 24 (0, 0))).trans (hb.mono (by have := HB8.out.size; simp; omega)))
             have HFS9 := Aside0.mk (HFS.out _ HB9.out); have r0 : w9.cell? ⟨w.heap.size + 1, 0, none⟩ = some (.string ⟨#[]⟩) := (blk_cell HFS9.out.2.2.1 0).trans rfl; have r1 : w9.cell? ⟨w.heap.size + 1, 1, none⟩ = some (.slice none 0 0) := (blk_cell HFS9.out.2.2.1 1).trans rfl; have f0 := blk_frozen HFS9.out.2.2.1 0; have f1 := blk_frozen HFS9.out.2.2.1 1; have g0 := HFS9.out.1; have g1 := HFS9.out.2.1; clear hb p0 hn1 hn2 hn3 hn4 hn5))
      · have HR := blk_put (blk_put HFS9.out.2.2.1 0 (.string ⟨#[]⟩) rfl) 1 (.slice none 0 0) rfl
        refine bodyPost_ret (results_ct rfl _ _ (w.heap.size + 1) 54 #[.string ⟨#[]⟩, .slice none 0 0] (0, 0) _ rfl HR Tryz.underlying54 rfl (by kernel_rfl)) rfl ?_
        refine ⟨?_, ?_⟩
        · exact ((HB7.out.trans (HB9.out.mono HB7.out.size)).setCell (p := ⟨w.heap.size + 1, 0, none⟩) (by show w.heap.size ≤ w.heap.size + 1; omega) (.string ⟨#[]⟩)).setCell (p := ⟨w.heap.size + 1, 1, none⟩) (by show w.heap.size ≤ w.heap.size + 1; omega) (.slice none 0 0)
        · rw [show rightB p = false from by unfold rightB; rw [HO3.out, Bool.and_false, Bool.and_false]]
          rfl
      · have HR := blk_put (blk_put HFS9.out.2.2.1 0 (.string (nameP p)) rfl) 1 (.slice Ak (sagaOf p).length ck) rfl
        refine bodyPost_ret (results_ct rfl _ _ (w.heap.size + 1) 54 #[.string (nameP p), .slice Ak (sagaOf p).length ck] (0, 0) _ rfl HR Tryz.underlying54 rfl (by kernel_rfl)) rfl ?_
        refine ⟨?_, ?_⟩
        · exact ((HB7.out.trans (HB9.out.mono HB7.out.size)).setCell (p := ⟨w.heap.size + 1, 0, none⟩) (by show w.heap.size ≤ w.heap.size + 1; omega) (.string (nameP p))).setCell (p := ⟨w.heap.size + 1, 1, none⟩) (by show w.heap.size ≤ w.heap.size + 1; omega) (.slice Ak (sagaOf p).length ck)
        · rw [show rightB p = true from by unfold rightB; rw [HO.out, HO2.out, HO3.out]; rfl, if_pos rfl]
          refine ⟨_, rfl, ?_⟩
          have hlt := blk_lt HG2.out
          have h1 := Kd.R_mono (Kd.R_bound (Kd.R_below HK7.out HB9.out)) (fun k hk => (by have := hk.2.1; omega : k ≠ w.heap.size + 1))
          exact Kd.R_mono (Kd.R_lower (Kd.R_far (p := ⟨w.heap.size + 1, 1, none⟩) (Kd.R_far (p := ⟨w.heap.size + 1, 0, none⟩) h1 (fun _ hk => hk) _) (fun _ hk => hk) _) HB2.out.size) (fun _ _ => trivial)
set_option maxHeartbeats 8000000 in
set_option maxRecDepth 100000 in
theorem right_walk (A : Option Addr) (c : Nat) (p : List ItemK) (w : World) (hC : k39.C w A p.length p) (hc : p.length ≤ c) (hbig : ∀ x ∈ p, x.f7.length ≤ 1000000) : Calls Tryz.prog 83 #[.agg #[.slice A p.length c]] w fun e w' => e = .returned (.bool (rightB p)) ∧ Below w.heap.size w w' := by
  have HB0 := Aside0.mk ((Below.refl w.heap.size w).alloc (Nat.le_refl _) (.cells #[.slice A p.length c] 24 (0, 0)))
  have HBK := Aside0.mk (back_walk A c p _ (Kd.C_below hC HB0.out) hc hbig)
  clear hC hc hbig
  obtain ⟨o, ho⟩ : ∃ o, rightB p = o := ⟨_, rfl⟩
  have HO := Aside0.mk ho
  clear ho
  go_enter Tryz.func83, Tryz.ntmps83
  cases o with
  | false =>
    go_wp2_with (go_at_call 115; refine HBK.out.mono ?_; rintro e w2 ⟨hb, he⟩; rw [HO.out, if_neg (by simp)] at he; subst he; have HB2 := Aside0.mk (HB0.out.trans (hb.mono (by simp))); clear hb)
    go_ret
    exact ⟨by rw [HO.out]; rfl, HB2.out.alloc HB2.out.size _⟩
  | true =>
    go_wp2_with (go_at_call 115; refine HBK.out.mono ?_; rintro e w2 ⟨hb, he⟩; rw [HO.out, if_pos rfl] at he; obtain ⟨vB, rfl, hR⟩ := he; obtain ⟨AB, cB, rfl⟩ := Kd.R_slice hR; have HB2 := Aside0.mk (HB0.out.trans (hb.mono (by simp))); clear hb hR)
    go_ret
    exact ⟨by rw [HO.out]; rfl, HB2.out.alloc HB2.out.size _⟩
def plan_Right.f (l0 : List S39) : Option Bool := if l0.all (fun x => decide (x.f7.length ≤ 1000000)) then some (rightB l0) else none
theorem plan_Right.calls (A0 : Option Addr) (c0 : Nat) (l0 : List S39) (r : Bool) (w : World) (hr0 : Kd.C k39 w A0 l0.length l0) (hc0 : l0.length ≤ c0) (h : plan_Right.f l0 = some r) :
    Calls Tryz.prog 83 #[.agg #[.slice A0 l0.length c0]] w fun e w' => e = .returned (.bool r) ∧ Below w.heap.size w w' := by
  unfold plan_Right.f at h
  split at h
  · rename_i hb
    obtain rfl := Option.some.inj h
    rw [List.all_eq_true] at hb
    exact right_walk A0 c0 l0 w hr0 hc0 (fun x hx => by simpa using hb x hx)
  · cases h
end Go.Proofs.YtloijngccppfgaaGreat.F
end

section
namespace Go.Proofs.YtloijngccppfgaaGreat.F
open Go.RowKit Go.Proofs.YtloijngccppfgaaGreatW.PrintWords Go.Proofs.YtloijngccppfgaaGreatW.PrintLast Go.Proofs.YtloijngccppfgaaGreatW.PrintMore
attribute [local go_sem] max2_int min2_int max_two min_two max_three min_three max_four min_four
set_option linter.unusedVariables false
set_option linter.unusedSimpArgs false
structure ViewAt (w : World) (g : Nat) (p : List S39) (A : Option Addr) (c : Nat) : Prop where
 blk : w.heap[g]? = some (.cells #[.slice A p.length c] 120 (0, 0))
 pl : Kd.C k39 w A p.length p
theorem ViewAt.below {w w' : World} {g : Nat} {p : List S39} {A : Option Addr} {c : Nat} (h : ViewAt w g p A c) (hb : Below w.heap.size w w') : ViewAt w' g p A c := ⟨blk_below h.blk hb, Kd.C_below h.pl hb⟩
theorem ViewAt.cell {w : World} {g : Nat} {p : List S39} {A : Option Addr} {c : Nat} (h : ViewAt w g p A c) : w.cell? ⟨g, 0, none⟩ = some (.slice A p.length c) := (blk_cell h.blk 0).trans rfl
def hasB (p : List S39) (i : Int) : Bool := decide (0 ≤ i) && decide (i < (p.length : Int))
section
variable {w : World} {g : Nat} {p : List S39} {A : Option Addr} {c : Nat}
theorem has_walk (h : ViewAt w g p A c) (i : Int) : Calls Tryz.prog 66 #[.pointer (some ⟨g, 0, none⟩), .int .i64 i] w fun e w' => e = .returned (.bool (hasB p i)) ∧ w' = w := by
 have y0 := h.cell
 unfold hasB
 clear h
 by_cases h0 : 0 ≤ i
 ·rw [decide_eq_true h0]
  go_enter Tryz.func66, Tryz.ntmps66
  go_wp2
  go_ret
  exact ⟨by simp, rfl⟩
 ·rw [decide_eq_false h0]
  go_enter Tryz.func66, Tryz.ntmps66
  go_wp2
  go_ret
  exact ⟨rfl, rfl⟩
def aboveF (p : List S39) : Nat → Int → List Int
 | 0, _ => []
 | d + 1, k => if 0 ≤ k then k :: aboveF p d (rd_T39 p k).f5 else []
def aboveL (p : List S39) (i : Int) : List Int := if hasB p i then aboveF p (p.length + 1) (rd_T39 p i).f5 else []
def UpP (p : List S39) : Prop := p.length ≤ 64 ∧ ∀ i : Nat, i < p.length → -1 ≤ (rd_T39 p (i : Int)).f5 ∧ (rd_T39 p (i : Int)).f5 < i
set_option maxHeartbeats 8000000 in
set_option maxRecDepth 100000 in
theorem above_walk_ (h : ViewAt w g p A c) (hu : UpP p) (i : Nat) (hi : i < p.length) : Calls Tryz.prog 40 #[.pointer (some ⟨g, 0, none⟩), .int .i64 i] w fun e w' => ∃ v, e = .returned v ∧ Kd.R (Kd.int .i64) 3 w' w.heap.size (fun _ => True) v (aboveL p i) ∧ Below w.heap.size w w' := by
 have HH := Aside0.mk h
 have HHS := Aside0.mk (has_walk h i)
 have HU := Aside0.mk hu.2
 have hb : hasB p (i : Int) = true := by unfold hasB; simp; omega
 rw [hb] at HHS
 have HAL : Aside0 (aboveL p i = aboveF p (p.length + 1) (rd_T39 p (i : Int)).f5) := ⟨by unfold aboveL; rw [hb]; rfl⟩
 have y0 := h.cell
 have hn := hu.1
 have h0 : (0 : Int) ≤ i := by omega
 have h1 : (i : Int) < (p.length : Int) := by omega
 obtain ⟨ai, A7, c7, e1, q0, q1, q2, q3, q4, q5, q6, q7, -, -⟩ := at_T39 h.pl (i : Int) h0 h1
 subst e1
 rw [Int.toNat_natCast] at q5
 obtain ⟨k0, hk0⟩ : ∃ k, (rd_T39 p (i : Int)).f5 = k := ⟨_, rfl⟩
 have hk1 := hu.2 i hi
 rw [hk0] at q5 HAL hk1
 clear q0 q1 q2 q3 q4 q6 q7 hk0 h hu hb
 go_enter Tryz.func40, Tryz.ntmps40
 go_wp2_with (go_at_call 66; refine HHS.out.mono ?_; rintro e w2 ⟨rfl, rfl⟩)
 clear y0 q5
 go_loopg [5, 6] (k0 + 1).toNat (fun kq v5 v6 w' => ∃ (out : List Int) (k : Int) (f : Nat), v6 = .int .i64 k ∧ k + 1 = kq ∧ k < i ∧ out.length + kq ≤ 64 ∧ kq + 1 ≤ f ∧ (∃ A c, v5 = .slice A out.length c) ∧ Aside0 (out ++ aboveF p f k = aboveL p i) ∧ Aside0 (Kd.R (Kd.int .i64) 3 w' w2.heap.size (fun _ => True) v5 out) ∧ Aside0 (Below w2.heap.size w2 w'))
 case atStart => exact ⟨[], k0, p.length + 1, rfl, by omega, by omega, by simp; omega, by omega, ⟨none, 0, rfl⟩, ⟨by rw [HAL.out]; rfl⟩, ⟨Kd.R_nil _ _ _ _ _⟩, ⟨Below.refl _ _⟩⟩
 case round =>
  obtain ⟨out, k, f, rfl, hk, hki, ho64, hf, ⟨A5, c5, rfl⟩, HA, HO, HB⟩ := hrel
  obtain ⟨f, rfl⟩ : ∃ m, f = m + 1 := ⟨f - 1, by omega⟩
  cases gk with
  | zero =>
   obtain rfl : k = -1 := by omega
   have HE : Aside0 (out = aboveL p i) := ⟨by have := HA.out; unfold aboveF at this; rw [if_neg (by omega), List.append_nil] at this; exact this⟩
   clear hk hki ho64 hf HA
   go_wp2
   go_ret
   exact ⟨_, rfl, by rw [← HE.out]; exact HO.out, HB.out⟩
  | succ d =>
   obtain rfl : k = (d : Int) := by omega
   have HA2 : Aside0 ((out ++ [(d : Int)]) ++ aboveF p f (rd_T39 p (d : Int)).f5 = aboveL p i) := ⟨by have := HA.out; unfold aboveF at this; rw [if_pos (by omega)] at this; simpa using this⟩
   have HOL : Aside0 (out.length < 64) := ⟨by omega⟩
   have hd0 : (0 : Int) ≤ d := by omega
   have hd1 : (d : Int) < (p.length : Int) := by omega
   have HK1 := Aside0.mk (HU.out d (by omega))
   obtain ⟨k2, hk2⟩ : ∃ k, (rd_T39 p (d : Int)).f5 = k := ⟨_, rfl⟩
   rw [hk2] at HA2 HK1
   have HK2 := Aside0.mk hk2
   have HF := Aside0.mk hf
   have HKI := Aside0.mk hki
   have HO64 := Aside0.mk ho64
   clear HA hk hki ho64 hf hk2
   go_wp2_with (((with_reducible refine gate_builtin (b := .append) (xs := #[.tmp 31, .tmp 33]) rfl ?_); (try (refine gate_guard (by rfl) ?_; dsimp only)); at_builtin; refine Kd.R_append (Kd.int .i64) (w0 := w2) w2.heap.size rfl (.tmp 31) (.tmp 33) 28 3 (.int .i64 0) 8 rfl Tryz.underlying28 info3_ rfl (by decide) (by omega) (.slice A5 out.length c5) out (d : Int) [.int .i64 (d : Int)] (fun _ => True) (fun _ => False) rfl (by simp [Act.eval]) ?aP (fun _ hk => hk.elim) ?aF ?aO ?aB ?aS ?aL ?_; (case aP => exact rfl); (case aF => exact (fun _ _ => trivial)); (case aO => exact (by (with_reducible repeat (first | apply Kd.R_alloc | apply Kd.R_drewN | apply Kd.R_drew)); exact HO.out)); (case aB => exact HB.out); (case aS => exact HB.out.size); (case aL => have := HOL.out; omega); intro v4 w4 ho hb hg hat; have HO4 := Aside0.mk ho; have HB4 := Aside0.mk hb; obtain ⟨A4, c4, hv4⟩ := Kd.R_slice ho; clear ho hb hg hat; have hv := HH.out.below HB4.out; have z0 := hv.cell; obtain ⟨ai2, A72, c72, e1, q0, q1, q2, q3, q4, q5, q6, q7, -, -⟩ := at_T39 hv.pl (d : Int) hd0 hd1; obtain rfl := Option.some.inj e1; rw [Int.toNat_natCast, HK2.out] at q5; clear q0 q1 q2 q3 q4 q6 q7 hv))
   subst hv4
   go_roundg (k2 + 1).toNat
   case measure => have := HK1.out; omega
   case rel => exact ⟨out ++ [(d : Int)], k2, f, rfl, by have := HK1.out; omega, by have := HK1.out; have := HKI.out; omega, by have := HK1.out; have := HO64.out; simp; omega, by have := HK1.out; have := HF.out; omega, ⟨A4, c4, by simp⟩, HA2, ⟨by have h := HO4.out; simpa using h⟩, HB4⟩
end
def ViewP (p : List S39) (A : Option Addr) (c : Nat) (w : World) (r : Option Nat) (w' : World) : Prop :=
 Below w.heap.size w w' ∧ match r with | some g => rightB p = true ∧ ViewAt w' g p A c ∧ w.heap.size ≤ g | none => rightB p = false
def ptrO : Option Nat → Value
 | none => .pointer none
 | some g => .pointer (some ⟨g, 0, none⟩)
set_option maxHeartbeats 8000000 in
set_option maxRecDepth 100000 in
theorem plan_see_walk (p : List S39) (A : Option Addr) (c : Nat) (w : World) (hp : Kd.C k39 w A p.length p) (hc : p.length ≤ c) (hsm : (p.all fun x => decide (x.f7.length ≤ 1000000)) = true) :
  Calls Tryz.prog 60 #[.agg #[.slice A p.length c]] w fun e w' => ∃ r, e = .returned (.tuple #[ptrO r, .int .i64 (if rightB p then 0 else 2)]) ∧ ViewP p A c w r w' := by
 have HP := Aside0.mk hp
 have HB0 := Aside0.mk (below_alloc (Below.refl w.heap.size w) (.cells #[.slice A p.length c] 24 (0, 0)))
 have HG0 := Aside0.mk (blk_new w (.cells #[.slice A p.length c] 24 (0, 0)))
 have HR := Aside0.mk (fun (W : World) (hb : Below w.heap.size w W) => plan_Right.calls A c p (rightB p) W (Kd.C_below hp hb) hc (by unfold plan_Right.f; rw [if_pos hsm]))
 obtain ⟨v, hv⟩ : ∃ v, rightB p = v := ⟨_, rfl⟩
 have HV := Aside0.mk hv
 rw [hv] at HR ⊢
 clear hp hc hsm hv
 cases v with
 | false =>
  go_enter Tryz.func60, Tryz.ntmps60
  go_wp2_with (go_at_call 83; refine (HR.out _ HB0.out).mono ?_; rintro e w2 ⟨rfl, hb⟩; have HB2 := Aside0.mk (HB0.out.trans (hb.mono HB0.out.size)); clear hb)
  go_ret2
  exact ⟨none, rfl, HB2.out, HV.out⟩
 | true =>
  go_enter Tryz.func60, Tryz.ntmps60
  go_wp2_with (go_at_call 83; refine (HR.out _ HB0.out).mono ?_; rintro e w2 ⟨rfl, hb⟩; have HB2 := Aside0.mk (HB0.out.trans (hb.mono HB0.out.size)); have HG2 := Aside0.mk (blk_below HG0.out hb); clear hb; have x0 : w2.cell? ⟨w.heap.size, 0, none⟩ = some (.slice A p.length c) := (blk_cell HG2.out 0).trans rfl)
  go_ret2
  exact ⟨some w2.heap.size, rfl, below_alloc HB2.out _, HV.out, ⟨blk_new _ _, Kd.C_below HP.out (below_alloc HB2.out _)⟩, HB2.out.size⟩
def leanC (l : List Bool) : Array Value := (l.map fun b => Value.int .i64 (if b then 1 else 0)).toArray
def LeanAt (w : World) (g : Nat) (l : List Bool) : Prop := w.heap[g]? = some (.cells (leanC l) 138 (0, 0))
theorem leanC_at (l : List Bool) (k : Nat) (h : k < l.length) : (leanC l)[k]? = some (.int .i64 (if l.getD k false then 1 else 0)) := by
 unfold leanC
 rw [List.getElem?_toArray, List.getElem?_map, List.getD_eq_getElem?_getD, List.getElem?_eq_getElem h]
 rfl
theorem index_lean (ls : List Bool) (hl : ls.length = 64) (k : Nat) (hk : k < 64) (w : World) : (Instr.index 138 (.agg (leanC ls)) (.int .i64 k)).run Tryz.prog w = .ok (.int .i64 (if ls.getD k false then 1 else 0)) w := by
 have hc := leanC_at ls k (by omega)
 generalize leanC ls = cs at hc ⊢
 have hkk : (k : Int) < 64 := by omega
 simp [Instr.index, run_underlying Tryz.underlying138, asIntOf, hkk, go_sem, hc]
 intro h
 omega
theorem leanC_set (l : List Bool) (k : Nat) (b : Bool) : (leanC l).setIfInBounds k (.int .i64 (if b then 1 else 0)) = leanC (l.set k b) := by
 unfold leanC
 rw [List.setIfInBounds_toArray, List.map_set]
theorem LeanAt.cell {w : World} {g : Nat} {l : List Bool} (h : LeanAt w g l) (k : Nat) (hk : k < l.length) : w.cell? ⟨g, k, none⟩ = some (.int .i64 (if l.getD k false then 1 else 0)) := (blk_cell h k).trans (leanC_at l k hk)
theorem LeanAt.free {w : World} {g : Nat} {l : List Bool} (h : LeanAt w g l) (k : Nat) : w.frozen? ⟨g, k, none⟩ = false := blk_frozen h k
theorem LeanAt.put {w : World} {g : Nat} {l : List Bool} (h : LeanAt w g l) (k : Nat) (b : Bool) {v : Value} (hv : v = .int .i64 (if b then 1 else 0)) : LeanAt (w.setCell ⟨g, k, none⟩ v) g (l.set k b) := by
 subst hv
 exact blk_put h k _ (leanC_set l k b)
def falses (l : List Bool) : Nat := (l.filter fun b => !b).length
theorem falses_set : ∀ (l : List Bool) (k : Nat), k < l.length → l.getD k false = false → falses (l.set k true) + 1 = falses l
 | [], k, h, _ => by simp at h
 | b :: l, 0, _, hb => by
  obtain rfl : b = false := by simpa using hb
  simp [falses]
 | b :: l, k + 1, h, hb => by
  have ih := falses_set l k (by simpa using h) (by simpa using hb)
  unfold falses at *
  cases b <;> simp at * <;> omega
def overOne (p : List S39) (s : List Bool × Bool) (k : Nat) : List Bool × Bool := if s.1.getD k false = false ∧ ((rd_T39 p (k : Int)).f7.any fun j => s.1.getD j.toNat false) = true then (s.1.set k true, true) else s
def overPass (p : List S39) (l : List Bool) : List Bool × Bool := (List.range' 0 p.length).foldl (overOne p) (l, false)
def overF (p : List S39) : Nat → List Bool → List Bool
 | 0, l => l
 | d + 1, l => if (overPass p l).2 then overF p d (overPass p l).1 else (overPass p l).1
def overS (p : List S39) (i : Nat) : List Bool := (overF p 65 ((List.replicate 64 false).set i true)).set i false
def overL (p : List S39) (i : Int) : List Int := if hasB p i then (List.map Int.ofNat ((List.range' 0 64).filter fun (k : Nat) => (overS p i.toNat).getD k false)) else []
theorem over_lit (j : Int) (l : List Bool) (g : Nat) (w : World) (h : LeanAt w g l) (hl : l.length = 64) (h0 : 0 ≤ j) (h1 : j < 64) :
  Calls Tryz.prog 78 (#[.int .i64 j] ++ #[.pointer (some ⟨g, 0, none⟩)]) w fun e w' => e = .returned (.bool (l.getD j.toNat false)) ∧ Below w.heap.size w w' := by
 obtain ⟨n, rfl⟩ := Int.eq_ofNat_of_zero_le h0
 have y0 := h.cell n (by omega)
 rw [Int.toNat_natCast]
 clear h
 show Calls Tryz.prog 78 #[.int .i64 n, .pointer (some ⟨g, 0, none⟩)] w _
 cases hb : l.getD n false
 all_goals
  rw [hb] at y0
  simp only [Bool.false_eq_true, if_false, if_true] at y0
  clear hb
  go_enter Tryz.func78, Tryz.ntmps78
  go_wp2
  go_ret
  exact ⟨rfl, Below.refl _ _⟩
set_option maxHeartbeats 8000000 in
set_option maxRecDepth 100000 in
theorem over_walk_ {w : World} {g : Nat} {p : List S39} {A : Option Addr} {c : Nat} (h : ViewAt w g p A c) (hs : shapedB p = true) (i : Nat) (hi : i < p.length) : Calls Tryz.prog 49 #[.pointer (some ⟨g, 0, none⟩), .int .i64 i] w fun e w' => ∃ v, e = .returned v ∧ Kd.R (Kd.int .i64) 3 w' w.heap.size (fun _ => True) v (overL p i) ∧ Below w.heap.size w w' := by
 have hmf : ∀ (fn : Fn) (first cap : Array Value) (w : World), (Instr.makeFunc fn first cap).run Tryz.prog w = .ok (.func fn first cap) w := fun _ _ _ _ => rfl
 have HE := Aside0.mk (enters_of Tryz.func78 (P := Tryz.prog) (f := 78) (by kernel_rfl) rfl)
 have HH := Aside0.mk h
 have HHS := Aside0.mk (has_walk h i)
 have hn64 := (shaped_len hs).2
 have HJ : Aside0 (∀ k : Nat, k < p.length → ∀ j ∈ (rd_T39 p (k : Int)).f7, 0 ≤ j ∧ j < 64) := ⟨fun k hk j hj => by
  have hrd : rd_T39 p (k : Int) = p[k] := by unfold rd_T39; rw [Int.toNat_natCast, List.getD_eq_getElem?_getD, List.getElem?_eq_getElem hk]; rfl
  rw [hrd] at hj
  have := (itemB_alts (shaped_at hs hk)).2.2 j hj
  omega⟩
 have hb : hasB p (i : Int) = true := by unfold hasB; simp; omega
 rw [hb] at HHS
 obtain ⟨ai, A7, c7, e1, -⟩ := at_T39 h.pl (i : Int) (by omega) (by omega)
 subst e1
 have hi64 : (i : Int) < 64 := by omega
 have hi0 : (0 : Int) ≤ i := by omega
 have HI64 : Aside0 (i < 64) := ⟨by omega⟩
 have HOV : Aside0 (overL p (i : Int) = List.map Int.ofNat ((List.range' 0 64).filter fun (k : Nat) => (overS p i).getD k false)) := ⟨by unfold overL; rw [hb, Int.toNat_natCast]; rfl⟩
 clear hs hi hb h
 go_enter Tryz.func49, Tryz.ntmps49
 go_upto_region 4 with (first
  | (go_at_call 66; refine HHS.out.mono ?_; rintro e w2 ⟨rfl, rfl⟩)
  | ((with_reducible refine gate_dst (N := 5) rfl ?_); refine box_event ?hg (N := 5) ?hd (cs := leanC (List.replicate 64 false)) (t := 138) ?hr ?_; (case hd => rfl); (case hg => rfl); (case hr => first | (go_simp; done) | (go_simp; rfl)); intro gl hgl W0 hbox hb; have HL0' : Aside0 (LeanAt W0 gl (List.replicate 64 false)) := ⟨hbox⟩; have HB0 := Aside0.mk hb; have HGL := Aside0.mk (Nat.le_of_eq hgl.symm); clear hbox hb hgl))
 have y1 := HL0'.out.cell i (by have := HI64.out; simp; omega)
 have f1 := HL0'.out.free i
 go_wp2_with (fail)
 have HF0 : Aside0 (falses ((List.replicate 64 false).set i true) + 1 ≤ 65) := ⟨by
  have h1 := falses_set (List.replicate 64 false) i (by have := HI64.out; simp; omega) (by rw [List.getD_eq_getElem?_getD, List.getElem?_replicate]; split <;> rfl)
  have h2 : falses (List.replicate 64 false) = 64 := by decide
  omega⟩
 have HL1 := Aside0.mk (HL0'.out.put i true (v := .int .i64 1) rfl)
 have HB1 := Aside0.mk (below_set HB0.out HGL.out (j := i) (v := .int .i64 1))
 have HLL0 : Aside0 (((List.replicate 64 false).set i true).length = 64) := ⟨by simp⟩
 have HOS : Aside0 (overS p i = (overF p 65 ((List.replicate 64 false).set i true)).set i false) := ⟨rfl⟩
 generalize (List.replicate 64 false).set i true = l0 at HF0 HL1 HLL0 HOS
 clear y1 f1 HL0' HB0
 go_loopg [6] (falses l0 + 1) (fun kq v6 w' => ∃ (l : List Bool) (more : Bool) (f : Nat), v6 = .bool more ∧ Aside0 (kq = if more then falses l + 1 else 0) ∧ Aside0 (l.length = 64) ∧ Aside0 (LeanAt w' gl l) ∧ Aside0 ((if more then overF p f l else l) = overF p 65 l0) ∧ Aside0 (more = true → falses l + 1 ≤ f) ∧ Aside0 (Below w2.heap.size w2 w'))
 case atStart => exact ⟨l0, true, 65, rfl, ⟨rfl⟩, HLL0, HL1, ⟨rfl⟩, ⟨fun _ => HF0.out⟩, HB1⟩
 case round =>
  clear HL1 HB1 HF0
  obtain ⟨l, more, f, rfl, HKQ, HLL, HLA, HOF, HFF, HB⟩ := hrel
  cases more with
  | false =>
   have hgk := HKQ.out
   rw [if_neg (by simp)] at hgk
   subst hgk
   have HE : Aside0 (l = overF p 65 l0) := ⟨by have := HOF.out; rwa [if_neg (by simp)] at this⟩
   clear HKQ HOF HFF
   have y1 := HLA.out.cell i (by have := HI64.out; have := HLL.out; omega)
   have f1 := HLA.out.free i
   go_upto_region 16 with (fail)
   have HLF := Aside0.mk (HLA.out.put i false (v := .int .i64 0) rfl)
   have HBF := Aside0.mk (below_set HB.out HGL.out (j := i) (v := .int .i64 0))
   have HLS : Aside0 (l.set i false = overS p i) := ⟨by rw [HOS.out, HE.out]⟩
   have HLN : Aside0 ((l.set i false).length = 64) := ⟨by rw [List.length_set]; exact HLL.out⟩
   generalize l.set i false = ls at HLF HLS HLN
   obtain ⟨W1, hW1⟩ : ∃ W, W = wr.setCell ⟨gl, i, none⟩ (.int .i64 0) := ⟨_, rfl⟩
   rw [← hW1] at HLF HBF ⊢
   clear hW1 y1 f1 HLA HB HLL HE
   go_wp2_with ((with_reducible refine gate_dst (N := 45) rfl ?_); refine wpList_load_mid rfl 138 (.tmp 5) rfl gl 0 ?hx (ls.map fun b => Value.int .i64 (if b then 1 else 0)) _ ?hc Tryz.underlying138 rfl ?hi ?_; (case hx => first | rfl | (go_simp; done) | (go_simp; rfl)); (case hc => exact fun j v hv => by rw [Nat.zero_add]; exact (blk_cell HLF.out j).trans (by unfold leanC; rw [List.getElem?_toArray]; exact hv)); (case hi => rw [List.length_map, HLN.out]; kernel_rfl); rw [show (ls.map fun b => Value.int .i64 (if b then 1 else 0)).toArray = leanC ls from rfl])
   go_loopg [9, 46] 64 (fun kq v9 v46 w' => ∃ (k : Nat) (out : List Int), k + kq = 64 ∧ v46 = .int .i64 k ∧ (∃ A c, v9 = .slice A out.length c) ∧ Aside0 (out.length ≤ k) ∧ Aside0 (out ++ List.map Int.ofNat ((List.range' k kq).filter fun (k : Nat) => ls.getD k false) = overL p i) ∧ Aside0 (Kd.R (Kd.int .i64) 3 w' w2.heap.size (fun _ => True) v9 out) ∧ Aside0 (Below w2.heap.size w2 w'))
   case atStart => exact ⟨0, [], by omega, rfl, ⟨none, 0, rfl⟩, ⟨Nat.le_refl _⟩, ⟨by rw [HOV.out, HLS.out]; rfl⟩, ⟨Kd.R_nil _ _ _ _ _⟩, HBF⟩
   case round =>
    obtain ⟨k, out, hk, rfl, ⟨A5, c5, rfl⟩, HO1, HA, HO, HB⟩ := hrel
    cases gk with
    | zero =>
     have HE : Aside0 (out = overL p i) := ⟨by have := HA.out; simpa using this⟩
     obtain rfl : k = 64 := by omega
     clear hk HA
     go_wp2
     go_ret
     exact ⟨_, rfl, by rw [← HE.out]; exact HO.out, HB.out⟩
    | succ d =>
     have hkc := index_lean ls HLN.out k (by omega)
     have hk0 : (0 : Int) ≤ k := by omega
     have hk1 : (k : Int) < 64 := by omega
     have HK := Aside0.mk hk
     have HOL : Aside0 (out.length < 64) := ⟨by have := HO1.out; omega⟩
     have HA1 : Aside0 (out ++ (List.map Int.ofNat ((if ls.getD k false then [k] else []) ++ (List.range' (k + 1) d).filter fun (k : Nat) => ls.getD k false)) = overL p i) := ⟨by
      have := HA.out
      rw [List.range'_succ, List.filter_cons] at this
      rw [← this]
      split <;> simp⟩
     obtain ⟨lk, hlk⟩ : ∃ b, ls.getD k false = b := ⟨_, rfl⟩
     rw [hlk] at hkc HA1
     clear hk hlk HA
     cases lk with
     | false =>
      simp only [Bool.false_eq_true, if_false] at hkc
      go_wp2
      go_roundg d
      case measure => omega
      case rel => exact ⟨k + 1, out, by have := HK.out; omega, by go_num, ⟨A5, c5, rfl⟩, ⟨by have := HO1.out; omega⟩, ⟨by have := HA1.out; simpa using this⟩, HO, HB⟩
     | true =>
      simp only [if_true] at hkc
      go_wp2_with (((with_reducible refine gate_builtin (b := .append) (xs := #[.tmp 52, .tmp 54]) rfl ?_); (try (refine gate_guard (by rfl) ?_; dsimp only)); at_builtin; refine Kd.R_append (Kd.int .i64) (w0 := w2) w2.heap.size rfl (.tmp 52) (.tmp 54) 28 3 (.int .i64 0) 8 rfl Tryz.underlying28 info3_ rfl (by decide) (by omega) (.slice A5 out.length c5) out (k : Int) [.int .i64 (k : Int)] (fun _ => True) (fun _ => False) rfl (by simp [Act.eval]) ?aP (fun _ hk => hk.elim) ?aF ?aO ?aB ?aS ?aL ?_; (case aP => exact rfl); (case aF => exact (fun _ _ => trivial)); (case aO => exact (by (with_reducible repeat (first | apply Kd.R_alloc | apply Kd.R_drewN | apply Kd.R_drew)); exact HO.out)); (case aB => exact HB.out); (case aS => exact HB.out.size); (case aL => have := HOL.out; omega); intro v4 w4 ho hb hg hat; have HO4 := Aside0.mk ho; have HB4 := Aside0.mk hb; obtain ⟨A4, c4, hv4⟩ := Kd.R_slice ho; clear ho hb hg hat))
      subst hv4
      go_roundg d
      case measure => omega
      case rel => exact ⟨k + 1, out ++ [(k : Int)], by have := HK.out; omega, by go_num, ⟨A4, c4, by simp⟩, ⟨by have := HO1.out; simp; omega⟩, ⟨by have := HA1.out; simpa using this⟩, ⟨by have h := HO4.out; simpa using h⟩, HB4⟩
  | true =>
   have hgk := HKQ.out
   rw [if_pos rfl] at hgk
   subst hgk
   have hff := HFF.out rfl
   obtain ⟨f, rfl⟩ : ∃ m, f = m + 1 := ⟨f - 1, by omega⟩
   have HP : Aside0 ((if (overPass p l).2 then overF p f (overPass p l).1 else (overPass p l).1) = overF p 65 l0) := ⟨by have := HOF.out; rw [if_pos rfl, overF] at this; exact this⟩
   have HFF2 := Aside0.mk hff
   clear HKQ HOF HFF hff
   have y0 := (HH.out.below HB.out).cell
   go_wp2_with (fail)
   clear y0
   go_loopg [6, 25] p.length (fun kq v6 v25 w' => ∃ (k : Nat) (l1 : List Bool) (m1 : Bool), k + kq = p.length ∧ v6 = .bool m1 ∧ v25 = .int .i64 k ∧ Aside0 (l1.length = 64) ∧ Aside0 (LeanAt w' gl l1) ∧ Aside0 ((List.range' k kq).foldl (overOne p) (l1, m1) = overPass p l) ∧ Aside0 (falses l1 + (if m1 then 1 else 0) ≤ falses l) ∧ Aside0 (Below w2.heap.size w2 w'))
   case atStart => exact ⟨0, l, false, by omega, rfl, rfl, HLL, HLA, ⟨rfl⟩, ⟨by simp⟩, HB⟩
   case round =>
    clear HLL HLA HB
    obtain ⟨k, l1, m1, hk, rfl, rfl, HLL, HLA, HFO, HFS, HB⟩ := hrel
    cases gk with
    | zero =>
     obtain rfl : k = p.length := by omega
     have HE2 : Aside0 (overPass p l = (l1, m1)) := ⟨HFO.out.symm⟩
     have HM1 : Aside0 (m1 = true → falses l1 + 1 ≤ falses l) := ⟨fun h => by have := HFS.out; rw [if_pos h] at this; exact this⟩
     clear hk HFO
     go_wp2
     go_roundg (if m1 then falses l1 + 1 else 0)
     case measure =>
      cases m1
      ·simp
      ·have := HM1.out rfl
       simp; omega
     case rel => exact ⟨l1, m1, f, rfl, ⟨rfl⟩, HLL, HLA, ⟨by have := HP.out; rw [HE2.out] at this; exact this⟩, ⟨fun h => by have := HM1.out h; have := HFF2.out; omega⟩, HB⟩
    | succ dk =>
     have hk0 : (0 : Int) ≤ k := by omega
     have hk1 : (k : Int) < (p.length : Int) := by omega
     have hk64 : (k : Int) < 64 := by omega
     have HK := Aside0.mk hk
     have y0 := (HH.out.below HB.out).cell
     obtain ⟨ai2, A72, c72, e1, q0, q1, q2, q3, q4, q5, q6, q7, l7, g7⟩ := at_T39 (Kd.C_below HH.out.pl HB.out) (k : Int) hk0 hk1
     obtain rfl := Option.some.inj e1
     rw [Int.toNat_natCast] at q0 q1 q2 q3 q4 q5 q6 q7
     have HJk := Aside0.mk (HJ.out k (by omega))
     have HFO2 : Aside0 ((List.range' (k + 1) dk).foldl (overOne p) (overOne p (l1, m1) k) = overPass p l) := ⟨by have := HFO.out; rw [List.range'_succ, List.foldl_cons] at this; exact this⟩
     obtain ⟨lk, hlk⟩ : ∃ b, l1.getD k false = b := ⟨_, rfl⟩
     have HO1 : Aside0 (overOne p (l1, m1) k = if lk = false ∧ ((rd_T39 p (k : Int)).f7.any fun j => l1.getD j.toNat false) = true then (l1.set k true, true) else (l1, m1)) := ⟨by unfold overOne; rw [hlk]⟩
     generalize rd_T39 p (k : Int) = x at q0 q1 q2 q3 q4 q5 q6 q7 l7 g7 HJk HO1
     obtain ⟨p0, p1, p2, p3, p4, p5, p6, p7⟩ := x
     dsimp only at q0 q1 q2 q3 q4 q5 q6 q7 l7 g7 HJk HO1
     obtain ⟨an, han⟩ : ∃ b, (p7.any fun j => l1.getD j.toNat false) = b := ⟨_, rfl⟩
     rw [han] at HO1
     have HAN := Aside0.mk han
     have HLA1 : Aside0 (LeanAt (wr.alloc (.cells #[.string p0, .string p1, .bool p2, .bool p3, .int .i64 p4, .int .i64 p5, .int .i64 p6, .slice A72 p7.length c72] 39 (0, 0))) gl l1) := ⟨blk_alloc HLA.out _⟩
     have HBA := Aside0.mk (below_alloc HB.out (.cells #[.string p0, .string p1, .bool p2, .bool p3, .int .i64 p4, .int .i64 p5, .int .i64 p6, .slice A72 p7.length c72] 39 (0, 0)))
     have HG7 := Aside0.mk (Kd.C_alloc g7 (.cells #[.string p0, .string p1, .bool p2, .bool p3, .int .i64 p4, .int .i64 p5, .int .i64 p6, .slice A72 p7.length c72] 39 (0, 0)))
     have y1 := HLA1.out.cell k (by have := HLL.out; omega)
     have HLK := Aside0.mk hlk
     rw [hlk] at y1
     clear hk hlk han g7 l7
     cases lk with
     | true =>
      have HX : Aside0 (overOne p (l1, m1) k = (l1, m1)) := ⟨by rw [HO1.out]; simp⟩
      simp only [if_true] at y1
      go_wp2
      go_roundg dk
      case measure => omega
      case rel => exact ⟨k + 1, l1, m1, by have := HK.out; omega, rfl, by go_num, HLL, HLA1, ⟨by have := HFO2.out; rw [HX.out] at this; exact this⟩, HFS, HBA⟩
     | false =>
      simp only [Bool.false_eq_true, if_false] at y1
      cases an with
      | false =>
       have HX : Aside0 (overOne p (l1, m1) k = (l1, m1)) := ⟨by rw [HO1.out]; simp⟩
       go_wp2_with (go_at_call 77; refine (contains_func_int 78 #[.pointer (some ⟨gl, 0, none⟩)] HE.out (fun j => l1.getD j.toNat false) A72 c72 p7 _ HG7.out ?hp).mono ?_; (case hp => intro j hj W hW; exact over_lit _ l1 gl W (blk_below HLA1.out hW) HLL.out (HJk.out _ (List.getElem_mem hj)).1 (HJk.out _ (List.getElem_mem hj)).2); rintro e w5 ⟨rfl, hb⟩; rw [HAN.out]; have HB5 := Aside0.mk (HBA.out.trans (hb.mono HBA.out.size)); have HLA5 := Aside0.mk (show LeanAt w5 gl l1 from blk_below HLA1.out hb); clear hb)
       go_roundg dk
       case measure => omega
       case rel => exact ⟨k + 1, l1, m1, by have := HK.out; omega, rfl, by go_num, HLL, HLA5, ⟨by have := HFO2.out; rw [HX.out] at this; exact this⟩, HFS, HB5⟩
      | true =>
       have HX : Aside0 (overOne p (l1, m1) k = (l1.set k true, true)) := ⟨by rw [HO1.out]; simp⟩
       have HFN : Aside0 (falses (l1.set k true) + 1 = falses l1) := ⟨falses_set l1 k (by have := HLL.out; have := HK.out; omega) HLK.out⟩
       go_wp2_with (go_at_call 77; refine (contains_func_int 78 #[.pointer (some ⟨gl, 0, none⟩)] HE.out (fun j => l1.getD j.toNat false) A72 c72 p7 _ HG7.out ?hp).mono ?_; (case hp => intro j hj W hW; exact over_lit _ l1 gl W (blk_below HLA1.out hW) HLL.out (HJk.out _ (List.getElem_mem hj)).1 (HJk.out _ (List.getElem_mem hj)).2); rintro e w5 ⟨rfl, hb⟩; rw [HAN.out]; have HB5 := Aside0.mk (HBA.out.trans (hb.mono HBA.out.size)); have HLA5 := Aside0.mk (show LeanAt w5 gl l1 from blk_below HLA1.out hb); have y5 := HLA5.out.cell k (by have := HLL.out; have := HK.out; omega); have f5 := HLA5.out.free k; clear hb)
       go_roundg dk
       case measure => omega
       case rel => exact ⟨k + 1, l1.set k true, true, by have := HK.out; omega, rfl, by go_num, ⟨by have := HLL.out; simpa using this⟩, ⟨HLA5.out.put k true rfl⟩, ⟨by have := HFO2.out; rw [HX.out] at this; exact this⟩, ⟨by have := HFN.out; have := HFS.out; simp; split at this <;> omega⟩, ⟨below_set HB5.out HGL.out⟩⟩
end Go.Proofs.YtloijngccppfgaaGreat.F
end

section
namespace Go.Proofs.YtloijngccppfgaaGreat.F
open Go.RowKit Go.Proofs.YtloijngccppfgaaGreatW.PrintWords Go.Proofs.YtloijngccppfgaaGreatW.PrintLast Go.Proofs.YtloijngccppfgaaGreatW.PrintMore
attribute [local go_sem] max2_int min2_int max_two min_two max_three min_three max_four min_four
set_option linter.unusedVariables false
set_option linter.unusedSimpArgs false
structure Fl where
 cl : Bool
 tc : Bool
 dn : Bool
 sp : Bool
 ha : Bool
 at_ : Int
structure By where
 fa : Bool
 wh : Bool
 cl : Bool
structure St where
 it : Nat → Fl
 bo : Nat → Nat → By
def Fl.v (f : Fl) : Nat → Value
 | 0 => .bool f.cl
 | 1 => .bool f.tc
 | 2 => .bool f.dn
 | 3 => .bool f.sp
 | 4 => .bool f.ha
 | _ => .int .i64 f.at_
def By.v (b : By) : Nat → Value
 | 0 => .bool b.fa
 | 1 => .bool b.wh
 | _ => .bool b.cl
def memOf (pv lv : Value) (s : St) (j : Nat) : Value :=
 if j = 0 then pv else if j = 1 then lv else if j < 386 then (s.it ((j - 2) / 6)).v ((j - 2) % 6) else (s.bo ((j - 386) / 12) ((j - 386) % 12 / 3)).v ((j - 386) % 12 % 3)
def bCells (m : Nat → Value) : Array Value := Array.ofFn (n := 1154) fun j => m j
theorem bCells_at (m : Nat → Value) (j : Nat) (h : j < 1154) : (bCells m)[j]? = some (m j) := by
 unfold bCells
 rw [Array.getElem?_ofFn, dif_pos h]
theorem bCells_set (m : Nat → Value) (j : Nat) (v : Value) : (bCells m).setIfInBounds j v = bCells (fun k => if k = j then v else m k) := by
 apply Array.ext
 ·simp [bCells]
 ·intro k h1 h2
  rw [Array.getElem_setIfInBounds (by simpa using h1)]
  simp only [bCells, Array.getElem_ofFn]
  by_cases h : j = k
  ·rw [if_pos h, if_pos h.symm]
  ·rw [if_neg h, if_neg (fun e => h e.symm)]
theorem bCells_ext {m n : Nat → Value} (h : ∀ j, j < 1154 → m j = n j) : bCells m = bCells n := by
 apply Array.ext
 ·simp [bCells]
 ·intro k h1 h2
  simp only [bCells, Array.getElem_ofFn]
  exact h k (by simpa [bCells] using h1)
def St.setIt (s : St) (i : Nat) (f : Fl) : St := ⟨fun j => if j = i then f else s.it j, s.bo⟩
def St.setBo (s : St) (i k : Nat) (b : By) : St := ⟨s.it, fun j q => if j = i ∧ q = k then b else s.bo j q⟩
def BoardAt (w : World) (g : Nat) (pv lv : Value) (s : St) : Prop := w.heap[g]? = some (.cells (bCells (memOf pv lv s)) 130 (0, 0))
section
variable {w : World} {g : Nat} {pv lv : Value} {s : St}
theorem BoardAt.cell (h : BoardAt w g pv lv s) (j : Nat) (hj : j < 1154) : w.cell? ⟨g, j, none⟩ = some (memOf pv lv s j) := (blk_cell h j).trans (bCells_at _ j hj)
theorem BoardAt.free (h : BoardAt w g pv lv s) (j : Nat) : w.frozen? ⟨g, j, none⟩ = false := blk_frozen h j
theorem memOf_it (i k : Nat) (hi : i < 64) (hk : k < 6) : memOf pv lv s (2 + i * 6 + k) = (s.it i).v k := by
 unfold memOf
 rw [if_neg (by omega), if_neg (by omega), if_pos (by omega), show (2 + i * 6 + k - 2) / 6 = i from by omega, show (2 + i * 6 + k - 2) % 6 = k from by omega]
theorem memOf_bo (i k q : Nat) (hk : k < 4) (hq : q < 3) : memOf pv lv s (386 + i * 12 + k * 3 + q) = (s.bo i k).v q := by
 unfold memOf
 rw [if_neg (by omega), if_neg (by omega), if_neg (by omega), show (386 + i * 12 + k * 3 + q - 386) / 12 = i from by omega, show (386 + i * 12 + k * 3 + q - 386) % 12 / 3 = k from by omega, show (386 + i * 12 + k * 3 + q - 386) % 12 % 3 = q from by omega]
theorem BoardAt.it (h : BoardAt w g pv lv s) (i k : Nat) (hi : i < 64) (hk : k < 6) : w.cell? ⟨g, 2 + i * 6 + k, none⟩ = some ((s.it i).v k) := by
 rw [h.cell _ (by omega), memOf_it i k hi hk]
theorem BoardAt.bo (h : BoardAt w g pv lv s) (i k q : Nat) (hi : i < 64) (hk : k < 4) (hq : q < 3) : w.cell? ⟨g, 386 + i * 12 + k * 3 + q, none⟩ = some ((s.bo i k).v q) := by
 rw [h.cell _ (by omega), memOf_bo i k q hk hq]
theorem BoardAt.put {m : Nat → Value} (h : w.heap[g]? = some (.cells (bCells m) 130 (0, 0))) (j : Nat) (v : Value) : (w.setCell ⟨g, j, none⟩ v).heap[g]? = some (.cells (bCells (fun k => if k = j then v else m k)) 130 (0, 0)) := blk_put h j v (bCells_set m j v)
theorem BoardAt.of {m : Nat → Value} (h : w.heap[g]? = some (.cells (bCells m) 130 (0, 0))) (hm : ∀ j, j < 1154 → m j = memOf pv lv s j) : BoardAt w g pv lv s := by
 unfold BoardAt
 rw [h, bCells_ext hm]
def Fl.set (f : Fl) (k : Nat) (v : Value) : Nat → Value := fun q => if q = k then v else f.v q
theorem BoardAt.putIt (h : BoardAt w g pv lv s) (i k : Nat) (hi : i < 64) (hk : k < 6) (v : Value) (f : Fl) (hf : ∀ q, q < 6 → f.v q = if q = k then v else (s.it i).v q) : BoardAt (w.setCell ⟨g, 2 + i * 6 + k, none⟩ v) g pv lv (s.setIt i f) := by
 refine BoardAt.of (BoardAt.put h _ _) (fun j hj => ?_)
 unfold memOf St.setIt
 dsimp only
 by_cases h0 : j = 0
 ·rw [if_neg (by omega), if_pos h0, if_pos h0]
 by_cases h1 : j = 1
 ·rw [if_neg (by omega), if_neg h0, if_pos h1, if_neg h0, if_pos h1]
 by_cases h2 : j < 386
 ·rw [if_neg h0, if_neg h1, if_pos h2, if_neg h0, if_neg h1, if_pos h2]
  by_cases h3 : (j - 2) / 6 = i
  ·rw [if_pos h3, hf _ (by omega), h3]
   by_cases h4 : j = 2 + i * 6 + k
   ·rw [if_pos h4, if_pos (by omega)]
   ·rw [if_neg h4, if_neg (by omega)]
  ·rw [if_neg h3, if_neg (by omega)]
 ·rw [if_neg (by omega), if_neg h0, if_neg h1, if_neg h2, if_neg h0, if_neg h1, if_neg h2]
theorem BoardAt.putBo (h : BoardAt w g pv lv s) (i k q : Nat) (hi : i < 64) (hk : k < 4) (hq : q < 3) (v : Value) (b : By) (hf : ∀ r, r < 3 → b.v r = if r = q then v else (s.bo i k).v r) : BoardAt (w.setCell ⟨g, 386 + i * 12 + k * 3 + q, none⟩ v) g pv lv (s.setBo i k b) := by
 refine BoardAt.of (BoardAt.put h _ _) (fun j hj => ?_)
 unfold memOf St.setBo
 dsimp only
 by_cases h0 : j = 0
 ·rw [if_neg (by omega), if_pos h0, if_pos h0]
 by_cases h1 : j = 1
 ·rw [if_neg (by omega), if_neg h0, if_pos h1, if_neg h0, if_pos h1]
 by_cases h2 : j < 386
 ·rw [if_neg (by omega), if_neg h0, if_neg h1, if_pos h2, if_neg h0, if_neg h1, if_pos h2]
 ·rw [if_neg h0, if_neg h1, if_neg h2, if_neg h0, if_neg h1, if_neg h2]
  by_cases h3 : (j - 386) / 12 = i ∧ (j - 386) % 12 / 3 = k
  ·rw [if_pos h3, hf _ (by omega), h3.1, h3.2]
   by_cases h4 : j = 386 + i * 12 + k * 3 + q
   ·rw [if_pos h4, if_pos (by omega)]
   ·rw [if_neg h4, if_neg (by omega)]
  ·rw [if_neg h3, if_neg (by omega)]
end
theorem BoardAt.putFl {w : World} {g : Nat} {pv lv : Value} {s : St} (h : BoardAt w g pv lv s) (i : Nat) (hi : i < 64) (f : Fl) : BoardAt ((((((w.setCell ⟨g, 2 + i * 6, none⟩ (.bool f.cl)).setCell ⟨g, 2 + i * 6 + 1, none⟩ (.bool f.tc)).setCell ⟨g, 2 + i * 6 + 2, none⟩ (.bool f.dn)).setCell ⟨g, 2 + i * 6 + 3, none⟩ (.bool f.sp)).setCell ⟨g, 2 + i * 6 + 4, none⟩ (.bool f.ha)).setCell ⟨g, 2 + i * 6 + 5, none⟩ (.int .i64 f.at_)) g pv lv (s.setIt i f) := by
 refine BoardAt.of (BoardAt.put (BoardAt.put (BoardAt.put (BoardAt.put (BoardAt.put (BoardAt.put h _ _) _ _) _ _) _ _) _ _) _ _) (fun j hj => ?_)
 by_cases h3 : 2 ≤ j ∧ (j - 2) / 6 = i
 ·obtain ⟨r, hr, rfl⟩ : ∃ r, r < 6 ∧ j = 2 + i * 6 + r := ⟨(j - 2) % 6, by omega, by omega⟩
  have e : (s.setIt i f).it i = f := by simp [St.setIt]
  rw [memOf_it (s := s.setIt i f) i r hi hr, e]
  match r, hr with
  | 0, _ => simp [Fl.v]
  | 1, _ => simp [Fl.v]
  | 2, _ => simp [Fl.v]
  | 3, _ => simp [Fl.v]
  | 4, _ => simp [Fl.v]
  | 5, _ => simp [Fl.v]
  | r + 6, hr => omega
 ·rw [if_neg (by omega), if_neg (by omega), if_neg (by omega), if_neg (by omega), if_neg (by omega), if_neg (by omega)]
  unfold memOf St.setIt
  dsimp only
  by_cases h0 : j = 0
  ·rw [if_pos h0, if_pos h0]
  by_cases h1 : j = 1
  ·rw [if_neg h0, if_pos h1, if_neg h0, if_pos h1]
  rw [if_neg (show ¬ (j - 2) / 6 = i by omega)]
theorem BoardAt.drew {w : World} {g : Nat} {pv lv : Value} {s : St} (h : BoardAt w g pv lv s) : BoardAt w.drew g pv lv s := blk_drew h
theorem at_letter_ {P : Program} {c : Code} {Q : Exit → Act → World → Prop} {a : Act} {w : World} (S : World → Prop) (hS : S w) (h : ∀ W, S W → c.wp P Q a W) : c.wp P Q a w := h w hS
def stepS (f : S50) : Fl := ⟨f.f0 == 0 || (f.f0 == 3 || f.f3), f.f0 != 0, f.f0 == 2 && f.f1 == 0, false, false, 0⟩
def BoardP (B : Nat) (w w' : World) (g : Nat) (pv lv : Value) (s : St) : Prop := Below B w w' ∧ BoardAt w' g pv lv s
set_option maxHeartbeats 8000000 in
set_option maxRecDepth 100000 in
theorem step_walk (l : List S50) (Al : Option Addr) (cl : Nat) (pv : Value) (s : St) (w0 w : World) (g i : Nat) (hl : Kd.C k50 w0 Al l.length l) (hb : Below w0.heap.size w0 w) (hg : w0.heap.size ≤ g) (hG : BoardAt w g pv (.slice Al l.length cl) s) (hi : i < l.length) (h64 : l.length ≤ 64) :
  Calls Tryz.prog 96 #[.pointer (some ⟨g, 0, none⟩), .int .i64 i] w fun e w' => e = .returned (.tuple #[]) ∧ BoardP w0.heap.size w0 w' g pv (.slice Al l.length cl) (s.setIt i (stepS (rd_T50 l (i : Int)))) := by
 obtain ⟨ad, e0, x0, x1, x2, x3⟩ := at_T50 (Kd.C_below hl hb) (i : Int) (by omega) (by omega)
 subst e0
 rw [Int.toNat_natCast] at x0 x1 x2 x3
 have hlt : (i : Int) < (l.length : Int) := by omega
 have h0 : (0 : Int) ≤ i := by omega
 have h6 : (i : Int) < 64 := by omega
 have y1 : w.cell? ⟨g, 1, none⟩ = some (.slice (some ad) l.length cl) := hG.cell 1 (by omega)
 have HG := Aside0.mk hG
 have HB := Aside0.mk hb
 obtain ⟨⟨a, b, c, d⟩, hf⟩ : ∃ f, rd_T50 l (i : Int) = f := ⟨_, rfl⟩
 rw [hf] at x0 x1 x2 x3 ⊢
 dsimp only at x0 x1 x2 x3
 clear hl hb hG hf
 unfold stepS
 dsimp only
 cases c0 : a == 0
 case' false => cases c3 : a == 3
 all_goals cases c2 : a == 2
 all_goals
  go_enter Tryz.func96, Tryz.ntmps96
  go_wp2
  refine at_letter_ (fun W => Aside0 (Below w0.heap.size w0 W) ∧ Aside0 (BoardAt W g pv (.slice (some ad) l.length cl) s) ∧ Aside0 (W.heap[w.heap.size]? = some (.cells #[.int .i64 a, .int .i64 b, .int .i64 c, .bool d] 50 (0, 0)))) ⟨⟨below_step HB.out ((Below.refl _ _).alloc (Nat.le_refl _) _)⟩, ⟨blk_alloc HG.out _⟩, ⟨blk_new _ _⟩⟩ (fun W ⟨HB2, HG2, HF⟩ => ?_)
  clear y1 x0 x1 x2 x3 HG HB
  generalize w.heap.size = gb at HF ⊢
  have x0 : W.cell? ⟨gb, 0, none⟩ = some (.int .i64 a) := (blk_cell HF.out 0).trans rfl
  have x1 : W.cell? ⟨gb, 1, none⟩ = some (.int .i64 b) := (blk_cell HF.out 1).trans rfl
  have x2 : W.cell? ⟨gb, 2, none⟩ = some (.int .i64 c) := (blk_cell HF.out 2).trans rfl
  have x3 : W.cell? ⟨gb, 3, none⟩ = some (.bool d) := (blk_cell HF.out 3).trans rfl
  have y0 := HG2.out.free (2 + i * 6)
  have y1 := HG2.out.free (2 + i * 6 + 1)
  have y2 := HG2.out.free (2 + i * 6 + 2)
  have y3 := HG2.out.free (2 + i * 6 + 3)
  have y4 := HG2.out.free (2 + i * 6 + 4)
  have y5 := HG2.out.free (2 + i * 6 + 5)
  have z0 := HG2.out.cell (2 + i * 6) (by omega)
  have z1 := HG2.out.cell (2 + i * 6 + 1) (by omega)
  have z2 := HG2.out.cell (2 + i * 6 + 2) (by omega)
  have z3 := HG2.out.cell (2 + i * 6 + 3) (by omega)
  have z4 := HG2.out.cell (2 + i * 6 + 4) (by omega)
  have z5 := HG2.out.cell (2 + i * 6 + 5) (by omega)
  go_region
  refine bodyPost_end (results_none rfl _ _ _) rfl ?_
  exact ⟨rfl, below_drewN (((((((HB2.out.setCell hg _).setCell hg _).setCell hg _).setCell hg _).setCell hg _).setCell hg _)) 1, (HG2.out.putFl i (by omega) ⟨_, _, _, _, _, _⟩).drew⟩
end Go.Proofs.YtloijngccppfgaaGreat.F
end

section
namespace Go.Proofs.YtloijngccppfgaaGreat.F
open Go.RowKit Go.Proofs.YtloijngccppfgaaGreatW.PrintWords Go.Proofs.YtloijngccppfgaaGreatW.PrintLast Go.Proofs.YtloijngccppfgaaGreatW.PrintMore
attribute [local go_sem] max2_int min2_int max_two min_two max_three min_three max_four min_four
set_option linter.unusedVariables false
set_option linter.unusedSimpArgs false
def By.agg (y : By) : Value := .agg #[.bool y.fa, .bool y.wh, .bool y.cl]
theorem dirty_walk (y : By) (w : World) : Calls Tryz.prog 126 (#[y.agg] ++ #[]) w fun e w' => e = .returned (.bool (!y.cl)) ∧ Below w.heap.size w w' := by
 obtain ⟨a, b, c⟩ := y
 show Calls Tryz.prog 126 #[By.agg ⟨a, b, c⟩] w _
 unfold By.agg
 go_enter Tryz.func126, Tryz.ntmps126
 go_wp2
 go_ret
 exact ⟨rfl, below_alloc (Below.refl _ _) _⟩
theorem stays_walk (y : By) (w : World) : Calls Tryz.prog 127 (#[y.agg] ++ #[]) w fun e w' => e = .returned (.bool (!y.fa || !y.cl)) ∧ Below w.heap.size w w' := by
 obtain ⟨a, b, c⟩ := y
 show Calls Tryz.prog 127 #[By.agg ⟨a, b, c⟩] w _
 unfold By.agg
 cases a
 all_goals
  go_enter Tryz.func127, Tryz.ntmps127
  go_wp2
  go_ret
  exact ⟨rfl, below_alloc (Below.refl _ _) _⟩
theorem bel_drew_ {w w' : World} (h : Below w.drew.heap.size w.drew w') : Below w.heap.size w w' := (below_drewN (Below.refl w.heap.size w) 1).trans h
def firstF (pr : By → Bool) (f : Nat → By) : Nat → Nat → Int
 | _, 0 => -1
 | k, d + 1 => if pr (f k) then (k : Int) else firstF pr f (k + 1) d
set_option maxHeartbeats 8000000 in
set_option maxRecDepth 100000 in
theorem first_walk (gf : Nat) (eg : ∀ args w, (callFunc gf args).run Tryz.prog w = .ok (.enter gf args) w) (pr : By → Bool) (hp : ∀ y w, Calls Tryz.prog gf (#[By.agg y] ++ #[]) w fun e w' => e = .returned (.bool (pr y)) ∧ Below w.heap.size w w')
  (p : List S39) (Ap : Option Addr) (cp : Nat) (lv : Value) (s : St) (w : World) (g gb gi i n : Nat) (hr : Kd.C k39 w Ap p.length p) (hG : BoardAt w g (.slice Ap p.length cp) lv s) (hb : w.heap[gb]? = some (.cells #[.pointer (some ⟨g, 0, none⟩)] 77 (0, 0))) (hi : w.heap[gi]? = some (.cells #[.int .i64 i] 3 (0, 0)))
  (hip : i < p.length) (h64 : p.length ≤ 64) (hn : (rd_T39 p (i : Int)).f4 = n) (hn4 : n ≤ 4) :
  Calls Tryz.prog 125 #[.func (.func gf) #[] #[], .pointer (some ⟨gb, 0, none⟩), .pointer (some ⟨gi, 0, none⟩)] w fun e w' => e = .returned (.int .i64 (firstF pr (s.bo i) 0 n)) ∧ Below w.heap.size w w' := by
 obtain ⟨ad, A7, c7, e0, x0, x1, x2, x3, x4, x5, x6, x7, _, _⟩ := at_T39 hr (i : Int) (by omega) (by omega)
 subst e0
 rw [Int.toNat_natCast] at x4
 rw [hn] at x4
 clear x0 x1 x2 x3 x5 x6 x7
 have yb : w.cell? ⟨gb, 0, none⟩ = some (.pointer (some ⟨g, 0, none⟩)) := (blk_cell hb 0).trans rfl
 have yi : w.cell? ⟨gi, 0, none⟩ = some (.int .i64 i) := (blk_cell hi 0).trans rfl
 have y0 : w.cell? ⟨g, 0, none⟩ = some (.slice (some ad) p.length cp) := hG.cell 0 (by omega)
 have HG := Aside0.mk hG
 have HGB := Aside0.mk hb
 have HGI := Aside0.mk hi
 have HP := Aside0.mk hp
 have HN4 := Aside0.mk hn4
 have hlt : (i : Int) < (p.length : Int) := by omega
 have h0 : (0 : Int) ≤ i := by omega
 have h6 : (i : Int) < 64 := by omega
 clear hr hG hb hi hp hn
 go_enter Tryz.func125, Tryz.ntmps125
 go_wp2
 go_region
 go_wp2
 clear x4 y0 yb yi
 go_loopg [15] n (fun kq v15 w' => ∃ k : Nat, k + kq = n ∧ v15 = .int .i64 k ∧ Aside0 (firstF pr (s.bo i) 0 n = firstF pr (s.bo i) k kq) ∧ Aside0 (Below w.heap.size w w'))
 case atStart => exact ⟨0, by omega, rfl, ⟨rfl⟩, ⟨below_drewN (Below.refl _ _) 1⟩⟩
 case round =>
  obtain ⟨k, hk, rfl, HF, HB⟩ := hrel
  have hn4 := HN4.out
  cases gk with
  | zero =>
   obtain rfl : k = n := by omega
   have HE : Aside0 (firstF pr (s.bo i) 0 k = -1) := ⟨HF.out⟩
   clear eg
   go_wp2
   go_ret
   exact ⟨by rw [HE.out]; rfl, HB.out⟩
  | succ d =>
   have hlt2 : (k : Int) < (n : Int) := by omega
   have hk4 : (k : Int) < 4 := by omega
   have hk0 : (0 : Int) ≤ k := by omega
   have yb : wr.cell? ⟨gb, 0, none⟩ = some (.pointer (some ⟨g, 0, none⟩)) := (blk_cell (blk_below HGB.out HB.out) 0).trans rfl
   have yi : wr.cell? ⟨gi, 0, none⟩ = some (.int .i64 i) := (blk_cell (blk_below HGI.out HB.out) 0).trans rfl
   have HG2 : Aside0 (BoardAt wr g (.slice (some ad) p.length cp) lv s) := ⟨blk_below HG.out HB.out⟩
   have z0 : wr.cell? ⟨g, 386 + i * 12 + k * 3, none⟩ = some (.bool (s.bo i k).fa) := HG2.out.bo i k 0 (by omega) (by omega) (by omega)
   have z1 : wr.cell? ⟨g, 386 + i * 12 + k * 3 + 1, none⟩ = some (.bool (s.bo i k).wh) := HG2.out.bo i k 1 (by omega) (by omega) (by omega)
   have z2 : wr.cell? ⟨g, 386 + i * 12 + k * 3 + 2, none⟩ = some (.bool (s.bo i k).cl) := HG2.out.bo i k 2 (by omega) (by omega) (by omega)
   have HK := Aside0.mk hk
   obtain ⟨y, hy⟩ : ∃ y, s.bo i k = y := ⟨_, rfl⟩
   rw [hy] at z0 z1 z2
   have HY := Aside0.mk hy
   obtain ⟨v, hv⟩ : ∃ v, pr y = v := ⟨_, rfl⟩
   have HV := Aside0.mk hv
   have HC : Aside0 (∀ w, Calls Tryz.prog gf (#[.agg #[.bool y.fa, .bool y.wh, .bool y.cl]] ++ #[]) w fun e w' => e = .returned (.bool v) ∧ Below w.heap.size w w') := ⟨fun w => by have := HP.out y w; rw [hv] at this; exact this⟩
   clear hk hy hv
   go_wp2_with (fail)
   clear HGB HGI HP HG2 hn4 HN4
   have HS : Aside0 (firstF pr (s.bo i) 0 n = if v then (k : Int) else firstF pr (s.bo i) (k + 1) d) := ⟨by rw [HF.out, firstF, HY.out, HV.out]⟩
   clear HF HY HV
   cases v
   all_goals go_region_with ((go_at_fn gf; refine (HC.out _).mono ?_; rintro e w2 ⟨rfl, hB2⟩; have HB2 := Aside0.mk (HB.out.trans ((bel_drew_ hB2).mono HB.out.size)); clear hB2))
   all_goals go_wp2
   all_goals first
    | (go_ret; exact ⟨by rw [HS.out]; rfl, HB2.out⟩)
    | (go_roundg d; (case measure => omega); (case rel => exact ⟨k + 1, by have := HK.out; omega, by go_num, ⟨by rw [HS.out]; rfl⟩, ⟨HB2.out⟩⟩))
theorem BoardAt.reIt {w : World} {g : Nat} {pv lv : Value} {s : St} {i : Nat} {f : Fl} (h : BoardAt w g pv lv (s.setIt i f)) (k : Nat) (hi : i < 64) (hk : k < 6) (v : Value) (f' : Fl) (hf : ∀ q, q < 6 → f'.v q = if q = k then v else f.v q) : BoardAt (w.setCell ⟨g, 2 + i * 6 + k, none⟩ v) g pv lv (s.setIt i f') := by
 have h2 := h.putIt i k hi hk v f' (fun q hq => by rw [show (s.setIt i f).it i = f from by simp [St.setIt]]; exact hf q hq)
 have e : (s.setIt i f).setIt i f' = s.setIt i f' := by
  unfold St.setIt
  dsimp only
  congr 1
  funext j
  by_cases h : j = i
  ·rw [if_pos h, if_pos h]
  ·rw [if_neg h, if_neg h, if_neg h]
 rwa [e] at h2
theorem fl6_ {p : Nat → Prop} (h0 : p 0) (h1 : p 1) (h2 : p 2) (h3 : p 3) (h4 : p 4) (h5 : p 5) : ∀ q, q < 6 → p q := fun q hq => by
 match q, hq with
 | 0, _ => exact h0
 | 1, _ => exact h1
 | 2, _ => exact h2
 | 3, _ => exact h3
 | 4, _ => exact h4
 | 5, _ => exact h5
 | q + 6, h => omega
def sagaS (n : Nat) (f : Nat → By) (x : Fl) : Fl :=
 if firstF (fun y => !y.fa || !y.cl) f 0 n < 0 then ⟨decide (firstF (fun y => !y.cl) f 0 n < 0), x.tc, x.dn, true, x.ha, (n : Int) - 1⟩
 else ⟨decide (firstF (fun y => !y.cl) f 0 n < 0), x.tc, (f (firstF (fun y => !y.fa || !y.cl) f 0 n).toNat).wh, false, x.ha, firstF (fun y => !y.fa || !y.cl) f 0 n⟩
theorem firstF_lt (pr : By → Bool) (f : Nat → By) : ∀ (d k : Nat), firstF pr f k d < ((k + d : Nat) : Int) ∧ -1 ≤ firstF pr f k d
 | 0, k => by unfold firstF; omega
 | d + 1, k => by
  have := firstF_lt pr f d (k + 1)
  unfold firstF
  split <;> omega
set_option maxHeartbeats 8000000 in
set_option maxRecDepth 100000 in
theorem saga_walk (p : List S39) (Ap : Option Addr) (cp : Nat) (lv : Value) (s : St) (w0 w : World) (g i n : Nat) (hr : Kd.C k39 w0 Ap p.length p) (hb : Below w0.heap.size w0 w) (hg : w0.heap.size ≤ g) (hG : BoardAt w g (.slice Ap p.length cp) lv s)
  (hip : i < p.length) (h64 : p.length ≤ 64) (hn : (rd_T39 p (i : Int)).f4 = n) (hn4 : n ≤ 4) :
  Calls Tryz.prog 95 #[.pointer (some ⟨g, 0, none⟩), .int .i64 i] w fun e w' => e = .returned (.tuple #[]) ∧ BoardP w0.heap.size w0 w' g (.slice Ap p.length cp) lv (s.setIt i (sagaS n (s.bo i) (s.it i))) := by
 have hmf : ∀ (fn : Fn) (first cap : Array Value) (w : World), (Instr.makeFunc fn first cap).run Tryz.prog w = .ok (.func fn first cap) w := fun _ _ _ _ => rfl
 have eg := enters_of Tryz.func125 (P := Tryz.prog) (f := 125) (by kernel_rfl) rfl
 have E2 := Aside0.mk (enters_of Tryz.func126 (P := Tryz.prog) (f := 126) (by kernel_rfl) rfl)
 have E3 := Aside0.mk (enters_of Tryz.func127 (P := Tryz.prog) (f := 127) (by kernel_rfl) rfl)
 have HR := Aside0.mk hr
 have HN := Aside0.mk hn
 have HIP := Aside0.mk hip
 have H64 := Aside0.mk h64
 have HN4 := Aside0.mk hn4
 have h6 : (i : Int) < 64 := by omega
 have h0 : (0 : Int) ≤ i := by omega
 have HB0 := Aside0.mk hb
 have HG0 := Aside0.mk hG
 clear hr hn hip h64 hn4 hb hG
 go_enter Tryz.func95, Tryz.ntmps95
 go_wp2
 refine at_letter_ (fun W => Aside0 (Below w0.heap.size w0 W) ∧ Aside0 (BoardAt W g (.slice Ap p.length cp) lv s) ∧ Aside0 (W.heap[w.heap.size]? = some (.cells #[.pointer (some ⟨g, 0, none⟩)] 77 (0, 0))) ∧ Aside0 (W.heap[w.heap.size + 1]? = some (.cells #[.int .i64 i] 3 (0, 0))))
  ⟨⟨(HB0.out.alloc HB0.out.size _).alloc (HB0.out.alloc HB0.out.size _).size _⟩, ⟨blk_alloc (blk_alloc HG0.out _) _⟩, ⟨blk_alloc (blk_new _ _) _⟩, ⟨by have h := blk_new (w.alloc (.cells #[.pointer (some ⟨g, 0, none⟩)] 77 (0, 0))) (.cells #[.int .i64 i] 3 (0, 0)); rwa [show (w.alloc (.cells #[.pointer (some ⟨g, 0, none⟩)] 77 (0, 0))).heap.size = w.heap.size + 1 from by simp] at h⟩⟩ (fun W ⟨HB, HG, HGB, HGI⟩ => ?_)
 have HNE : Aside0 (g ≠ w.heap.size ∧ g ≠ w.heap.size + 1) := ⟨by have := blk_lt HG0.out; omega⟩
 clear HB0 HG0
 generalize w.heap.size + 1 = gi at HGI HNE ⊢
 generalize w.heap.size = gb at HGB HNE ⊢
 have yb : W.cell? ⟨gb, 0, none⟩ = some (.pointer (some ⟨g, 0, none⟩)) := (blk_cell HGB.out 0).trans rfl
 have yi : W.cell? ⟨gi, 0, none⟩ = some (.int .i64 i) := (blk_cell HGI.out 0).trans rfl
 have z0 := HG.out.cell (2 + i * 6) (by have := HIP.out; have := H64.out; omega)
 have z3 := HG.out.cell (2 + i * 6 + 3) (by have := HIP.out; have := H64.out; omega)
 have y0 := HG.out.free (2 + i * 6)
 have y3 := HG.out.free (2 + i * 6 + 3)
 go_region
 go_wp2_with (fail)
 clear yb yi z0 z3 y0 y3
 have h64 : i < 64 := by omega
 have HB1 : Aside0 (Below w0.heap.size w0 ((W.setCell ⟨g, 2 + i * 6, none⟩ (.bool true)).setCell ⟨g, 2 + i * 6 + 3, none⟩ (.bool true)).drew) := ⟨below_drewN ((HB.out.setCell hg _).setCell hg _) 1⟩
 have HG1 : Aside0 (BoardAt ((W.setCell ⟨g, 2 + i * 6, none⟩ (.bool true)).setCell ⟨g, 2 + i * 6 + 3, none⟩ (.bool true)).drew g (.slice Ap p.length cp) lv (s.setIt i ⟨true, (s.it i).tc, (s.it i).dn, true, (s.it i).ha, (s.it i).at_⟩)) :=
  ⟨((HG.out.putIt i 0 h64 (by omega) (.bool true) ⟨true, (s.it i).tc, (s.it i).dn, (s.it i).sp, (s.it i).ha, (s.it i).at_⟩ (by exact fl6_ rfl rfl rfl rfl rfl rfl)).reIt 3 h64 (by omega) (.bool true) _ (by exact fl6_ rfl rfl rfl rfl rfl rfl)).drew⟩
 have HGB1 : Aside0 (((W.setCell ⟨g, 2 + i * 6, none⟩ (.bool true)).setCell ⟨g, 2 + i * 6 + 3, none⟩ (.bool true)).drew.heap[gb]? = some (.cells #[.pointer (some ⟨g, 0, none⟩)] 77 (0, 0))) := ⟨blk_drew (blk_far (blk_far HGB.out (fun e => HNE.out.1 e.symm) _) (fun e => HNE.out.1 e.symm) _)⟩
 have HGI1 : Aside0 (((W.setCell ⟨g, 2 + i * 6, none⟩ (.bool true)).setCell ⟨g, 2 + i * 6 + 3, none⟩ (.bool true)).drew.heap[gi]? = some (.cells #[.int .i64 i] 3 (0, 0))) := ⟨blk_drew (blk_far (blk_far HGI.out (fun e => HNE.out.2 e.symm) _) (fun e => HNE.out.2 e.symm) _)⟩
 clear HB HG HGB HGI
 generalize ((W.setCell ⟨g, 2 + i * 6, none⟩ (.bool true)).setCell ⟨g, 2 + i * 6 + 3, none⟩ (.bool true)).drew = W1 at HB1 HG1 HGB1 HGI1 ⊢
 refine (first_walk 126 E2.out (fun y => !y.cl) dirty_walk p Ap cp lv _ W1 g gb gi i n (Kd.C_below HR.out HB1.out) HG1.out HGB1.out HGI1.out HIP.out H64.out HN.out HN4.out).mono ?_
 rintro e w2 ⟨rfl, hb2⟩
 have HB2 := Aside0.mk (HB1.out.trans (hb2.mono HB1.out.size))
 have HG2 : Aside0 (BoardAt w2 g (.slice Ap p.length cp) lv (s.setIt i ⟨true, (s.it i).tc, (s.it i).dn, true, (s.it i).ha, (s.it i).at_⟩)) := ⟨blk_below HG1.out hb2⟩
 have HGB2 := Aside0.mk (blk_below HGB1.out hb2)
 have HGI2 := Aside0.mk (blk_below HGI1.out hb2)
 clear HB1 HG1 HGB1 HGI1 hb2
 show (_ : Act → World → Prop) _ _
 have z0 := HG2.out.cell (2 + i * 6) (by omega)
 have y0 := HG2.out.free (2 + i * 6)
 obtain ⟨n1, hn1⟩ : ∃ n1, firstF (fun y => !y.cl) (s.bo i) 0 n = n1 := ⟨_, rfl⟩
 have HN1 := Aside0.mk hn1
 have hx : firstF (fun y => !y.cl) ((s.setIt i ⟨true, (s.it i).tc, (s.it i).dn, true, (s.it i).ha, (s.it i).at_⟩).bo i) 0 n = n1 := hn1
 rw [hx]
 clear hx hn1
 go_wp2_with (fail)
 generalize hb1 : decide (n1 < 0) = b1
 have HBD1 := Aside0.mk hb1
 clear hb1
 have HB3 : Aside0 (Below w0.heap.size w0 (w2.setCell ⟨g, 2 + i * 6, none⟩ (.bool b1))) := ⟨HB2.out.setCell hg _⟩
 have HG3 : Aside0 (BoardAt (w2.setCell ⟨g, 2 + i * 6, none⟩ (.bool b1)) g (.slice Ap p.length cp) lv (s.setIt i ⟨b1, (s.it i).tc, (s.it i).dn, true, (s.it i).ha, (s.it i).at_⟩)) := ⟨HG2.out.reIt 0 h64 (by omega) (.bool b1) ⟨b1, (s.it i).tc, (s.it i).dn, true, (s.it i).ha, (s.it i).at_⟩ (by exact fl6_ rfl rfl rfl rfl rfl rfl)⟩
 have HGB3 := Aside0.mk (blk_far (p := ⟨g, 2 + i * 6, none⟩) HGB2.out (fun e => HNE.out.1 e.symm) (.bool b1))
 have HGI3 := Aside0.mk (blk_far (p := ⟨g, 2 + i * 6, none⟩) HGI2.out (fun e => HNE.out.2 e.symm) (.bool b1))
 clear HB2 HG2 HGB2 HGI2 z0 y0
 generalize w2.setCell ⟨g, 2 + i * 6, none⟩ (.bool b1) = W3 at HB3 HG3 HGB3 HGI3 ⊢
 refine (first_walk 127 E3.out (fun y => !y.fa || !y.cl) stays_walk p Ap cp lv _ W3 g gb gi i n (Kd.C_below HR.out HB3.out) HG3.out HGB3.out HGI3.out HIP.out H64.out HN.out HN4.out).mono ?_
 rintro e w4 ⟨rfl, hb4⟩
 have HB4 := Aside0.mk (HB3.out.trans (hb4.mono HB3.out.size))
 have HG4 : Aside0 (BoardAt w4 g (.slice Ap p.length cp) lv (s.setIt i ⟨b1, (s.it i).tc, (s.it i).dn, true, (s.it i).ha, (s.it i).at_⟩)) := ⟨blk_below HG3.out hb4⟩
 have HGB4 := Aside0.mk (blk_below HGB3.out hb4)
 have HGI4 := Aside0.mk (blk_below HGI3.out hb4)
 clear HB3 HG3 HGB3 HGI3 hb4
 show (_ : Act → World → Prop) _ _
 have z5 := HG4.out.cell (2 + i * 6 + 5) (by omega)
 have y5 := HG4.out.free (2 + i * 6 + 5)
 have z3 := HG4.out.cell (2 + i * 6 + 3) (by omega)
 have y3 := HG4.out.free (2 + i * 6 + 3)
 obtain ⟨n2, hn2⟩ : ∃ n2, firstF (fun y => !y.fa || !y.cl) (s.bo i) 0 n = n2 := ⟨_, rfl⟩
 have HN2 := Aside0.mk hn2
 have hx : firstF (fun y => !y.fa || !y.cl) ((s.setIt i ⟨b1, (s.it i).tc, (s.it i).dn, true, (s.it i).ha, (s.it i).at_⟩).bo i) 0 n = n2 := hn2
 rw [hx]
 have HL2 := Aside0.mk (hn2 ▸ firstF_lt (fun y => !y.fa || !y.cl) (s.bo i) n 0)
 clear hx hn2
 by_cases hneg : n2 < 0
 ·have HNEG := Aside0.mk hneg
  go_wp2
  refine at_letter_ (fun W => Aside0 (Below w0.heap.size w0 W) ∧ Aside0 (BoardAt W g (.slice Ap p.length cp) lv (s.setIt i ⟨b1, (s.it i).tc, (s.it i).dn, true, (s.it i).ha, n2⟩)) ∧ Aside0 (W.heap[gb]? = some (.cells #[.pointer (some ⟨g, 0, none⟩)] 77 (0, 0))) ∧ Aside0 (W.heap[gi]? = some (.cells #[.int .i64 i] 3 (0, 0))))
   ⟨⟨(HB4.out.setCell hg _).setCell hg _⟩, ⟨(HG4.out.reIt 5 h64 (by omega) (.int .i64 n2) ⟨b1, (s.it i).tc, (s.it i).dn, true, (s.it i).ha, n2⟩ (by exact fl6_ rfl rfl rfl rfl rfl rfl)).reIt 3 h64 (by omega) (.bool true) ⟨b1, (s.it i).tc, (s.it i).dn, true, (s.it i).ha, n2⟩ (by exact fl6_ rfl rfl rfl rfl rfl rfl)⟩, ⟨blk_far (blk_far HGB4.out (fun e => HNE.out.1 e.symm) _) (fun e => HNE.out.1 e.symm) _⟩, ⟨blk_far (blk_far HGI4.out (fun e => HNE.out.2 e.symm) _) (fun e => HNE.out.2 e.symm) _⟩⟩ (fun W5 ⟨HB5, HG5, HGB5, HGI5⟩ => ?_)
  clear HB4 HG4 HGB4 HGI4 z5 y5 z3 y3 HNE
  have yb : W5.cell? ⟨gb, 0, none⟩ = some (.pointer (some ⟨g, 0, none⟩)) := (blk_cell HGB5.out 0).trans rfl
  have yi : W5.cell? ⟨gi, 0, none⟩ = some (.int .i64 i) := (blk_cell HGI5.out 0).trans rfl
  have hip := HIP.out
  obtain ⟨ad, A7, c7, e0, x0, x1, x2, x3, x4, x5, x6, x7, _, _⟩ := at_T39 (Kd.C_below HR.out HB5.out) (i : Int) (by omega) (by omega)
  subst e0
  rw [Int.toNat_natCast, HN.out] at x4
  clear x0 x1 x2 x3 x5 x6 x7
  have y0 : W5.cell? ⟨g, 0, none⟩ = some (.slice (some ad) p.length cp) := HG5.out.cell 0 (by omega)
  have z5 := HG5.out.cell (2 + i * 6 + 5) (by omega)
  have y5 := HG5.out.free (2 + i * 6 + 5)
  have hlt : (i : Int) < (p.length : Int) := by omega
  have hn4 : (n : Int) ≤ 4 := by have := HN4.out; omega
  have hn0 : (0 : Int) ≤ n := by omega
  go_region
  go_wp2
  refine bodyPost_ret (results_none rfl _ _ _) rfl ?_
  have hx : sagaS n (s.bo i) (s.it i) = ⟨b1, (s.it i).tc, (s.it i).dn, true, (s.it i).ha, (n : Int) - 1⟩ := by
   unfold sagaS
   rw [HN2.out, if_pos HNEG.out, HN1.out, HBD1.out]
  rw [hx]
  exact ⟨rfl, below_drewN (HB5.out.setCell hg _) 1, (HG5.out.reIt 5 h64 (by omega) (.int .i64 ((n : Int) - 1)) ⟨b1, (s.it i).tc, (s.it i).dn, true, (s.it i).ha, (n : Int) - 1⟩ (by exact fl6_ rfl rfl rfl rfl rfl rfl)).drew⟩
 ·have HNEG := Aside0.mk hneg
  obtain ⟨k, rfl⟩ := Int.eq_ofNat_of_zero_le (Int.not_lt.1 hneg)
  go_wp2
  refine at_letter_ (fun W => Aside0 (Below w0.heap.size w0 W) ∧ Aside0 (BoardAt W g (.slice Ap p.length cp) lv (s.setIt i ⟨b1, (s.it i).tc, (s.it i).dn, false, (s.it i).ha, (k : Int)⟩)) ∧ Aside0 (W.heap[gb]? = some (.cells #[.pointer (some ⟨g, 0, none⟩)] 77 (0, 0))) ∧ Aside0 (W.heap[gi]? = some (.cells #[.int .i64 i] 3 (0, 0))))
   ⟨⟨(HB4.out.setCell hg _).setCell hg _⟩, ⟨(HG4.out.reIt 5 h64 (by omega) (.int .i64 (k : Int)) ⟨b1, (s.it i).tc, (s.it i).dn, true, (s.it i).ha, (k : Int)⟩ (by exact fl6_ rfl rfl rfl rfl rfl rfl)).reIt 3 h64 (by omega) (.bool false) ⟨b1, (s.it i).tc, (s.it i).dn, false, (s.it i).ha, (k : Int)⟩ (by exact fl6_ rfl rfl rfl rfl rfl rfl)⟩, ⟨blk_far (blk_far HGB4.out (fun e => HNE.out.1 e.symm) _) (fun e => HNE.out.1 e.symm) _⟩, ⟨blk_far (blk_far HGI4.out (fun e => HNE.out.2 e.symm) _) (fun e => HNE.out.2 e.symm) _⟩⟩ (fun W5 ⟨HB5, HG5, HGB5, HGI5⟩ => ?_)
  clear HB4 HG4 HGB4 HGI4 z5 y5 z3 y3 HNE
  have yb : W5.cell? ⟨gb, 0, none⟩ = some (.pointer (some ⟨g, 0, none⟩)) := (blk_cell HGB5.out 0).trans rfl
  have yi : W5.cell? ⟨gi, 0, none⟩ = some (.int .i64 i) := (blk_cell HGI5.out 0).trans rfl
  have hk4 : k < 4 := by have := HL2.out; have := HN4.out; omega
  have y0 : W5.cell? ⟨g, 2 + i * 6 + 5, none⟩ = some (.int .i64 k) := HG5.out.it i 5 h64 (by omega) |>.trans (by simp [St.setIt, Fl.v])
  have yw : W5.cell? ⟨g, 386 + i * 12 + k * 3 + 1, none⟩ = some (.bool (s.bo i k).wh) := HG5.out.bo i k 1 h64 hk4 (by omega)
  have z2 := HG5.out.cell (2 + i * 6 + 2) (by omega)
  have y2 := HG5.out.free (2 + i * 6 + 2)
  have hk0 : (0 : Int) ≤ k := by omega
  have hk5 : (k : Int) < 4 := by omega
  go_region
  refine bodyPost_end (results_none rfl _ _ _) rfl ?_
  have hx : sagaS n (s.bo i) (s.it i) = ⟨b1, (s.it i).tc, (s.bo i k).wh, false, (s.it i).ha, k⟩ := by
   unfold sagaS
   rw [HN2.out, if_neg (by have := HNEG.out; omega), HN1.out, HBD1.out, Int.toNat_natCast]
  rw [hx]
  exact ⟨rfl, below_drewN (HB5.out.setCell hg _) 1, (HG5.out.reIt 2 h64 (by omega) (.bool (s.bo i k).wh) ⟨b1, (s.it i).tc, (s.bo i k).wh, false, (s.it i).ha, k⟩ (by exact fl6_ rfl rfl rfl rfl rfl rfl)).drew⟩
end Go.Proofs.YtloijngccppfgaaGreat.F
end

section
namespace Go.Proofs.YtloijngccppfgaaGreat.F
open Go.RowKit Go.Proofs.YtloijngccppfgaaGreatW.PrintWords Go.Proofs.YtloijngccppfgaaGreatW.PrintLast Go.Proofs.YtloijngccppfgaaGreatW.PrintMore
attribute [local go_sem] max2_int min2_int max_two min_two max_three min_three max_four min_four
set_option linter.unusedVariables false
set_option linter.unusedSimpArgs false
def handB (vi : Bool) (run : Int) (f : Fl) (y : By) : By := ⟨y.fa || (run == 3 || (vi && f.sp)), y.wh && (f.dn || (f.sp && !vi)), y.cl && f.cl⟩
def Fl.touch (x : Fl) (t : Bool) : Fl := ⟨x.cl, x.tc || t, x.dn, x.sp, x.ha, x.at_⟩
def handS (vi : Bool) (run : Int) (f : Fl) (s : St) (j k : Nat) : St := (s.setBo j k (handB vi run f (s.bo j k))).setIt j ((s.it j).touch f.tc)
theorem BoardAt.reBo {w : World} {g : Nat} {pv lv : Value} {s : St} {i k : Nat} {b : By} (h : BoardAt w g pv lv (s.setBo i k b)) (q : Nat) (hi : i < 64) (hk : k < 4) (hq : q < 3) (v : Value) (b' : By) (hf : ∀ r, r < 3 → b'.v r = if r = q then v else b.v r) : BoardAt (w.setCell ⟨g, 386 + i * 12 + k * 3 + q, none⟩ v) g pv lv (s.setBo i k b') := by
 have h2 := h.putBo i k q hi hk hq v b' (fun r hr => by rw [show (s.setBo i k b).bo i k = b from by simp [St.setBo]]; exact hf r hr)
 have e : (s.setBo i k b).setBo i k b' = s.setBo i k b' := by
  unfold St.setBo
  dsimp only
  congr 1
  funext j r
  by_cases h : j = i ∧ r = k
  ·rw [if_pos h, if_pos h]
  ·rw [if_neg h, if_neg h, if_neg h]
 rwa [e] at h2
theorem by3_ {p : Nat → Prop} (h0 : p 0) (h1 : p 1) (h2 : p 2) : ∀ q, q < 3 → p q := fun q hq => by
 match q, hq with
 | 0, _ => exact h0
 | 1, _ => exact h1
 | 2, _ => exact h2
 | q + 3, h => omega
theorem blkB_ (w : World) (o1 o2 : Obj) : ((w.alloc o1).alloc o2).heap[w.heap.size + 1]? = some o2 := by
 have h := blk_new (w.alloc o1) o2
 rwa [show (w.alloc o1).heap.size = w.heap.size + 1 from by simp] at h
def HandI (w0 W : World) (g g4 g5 : Nat) (pv lv : Value) (s : St) (ci cf : Array Value) : Prop := Below w0.heap.size w0 W ∧ BoardAt W g pv lv s ∧ W.heap[g4]? = some (.cells ci 39 (0, 0)) ∧ W.heap[g5]? = some (.cells cf 123 (0, 0)) ∧ g ≠ g4 ∧ g ≠ g5
theorem HandI.put {w0 W : World} {g g4 g5 : Nat} {pv lv : Value} {s s' : St} {ci cf : Array Value} (h : HandI w0 W g g4 g5 pv lv s ci cf) (hg : w0.heap.size ≤ g) (j : Nat) (v : Value) (hs : BoardAt (W.setCell ⟨g, j, none⟩ v) g pv lv s') : HandI w0 (W.setCell ⟨g, j, none⟩ v) g g4 g5 pv lv s' ci cf :=
 ⟨h.1.setCell hg _, hs, blk_far h.2.2.1 (fun e => h.2.2.2.2.1 e.symm) _, blk_far h.2.2.2.1 (fun e => h.2.2.2.2.2 e.symm) _, h.2.2.2.2⟩
theorem HandI.drew {w0 W : World} {g g4 g5 : Nat} {pv lv : Value} {s : St} {ci cf : Array Value} (h : HandI w0 W g g4 g5 pv lv s ci cf) : HandI w0 W.drew g g4 g5 pv lv s ci cf :=
 ⟨below_drewN h.1 1, h.2.1.drew, blk_drew h.2.2.1, blk_drew h.2.2.2.1, h.2.2.2.2⟩
set_option maxHeartbeats 8000000 in
set_option maxRecDepth 100000 in
theorem hand_walk (p : List S39) (Ap : Option Addr) (cp : Nat) (l : List S50) (Al : Option Addr) (cl : Nat) (s : St) (w0 w : World) (g i j k : Nat) (hr : Kd.C k39 w0 Ap p.length p) (hl : Kd.C k50 w0 Al l.length l) (hpl : l.length = p.length) (hb : Below w0.heap.size w0 w) (hg : w0.heap.size ≤ g) (hG : BoardAt w g (.slice Ap p.length cp) (.slice Al l.length cl) s)
  (hip : i < p.length) (h64 : p.length ≤ 64) (hj : (rd_T39 p (i : Int)).f5 = j) (hk : (rd_T39 p (i : Int)).f6 = k) (hj64 : j < 64) (hk4 : k < 4) :
  Calls Tryz.prog 97 #[.pointer (some ⟨g, 0, none⟩), .int .i64 i] w fun e w' => e = .returned (.tuple #[]) ∧ BoardP w0.heap.size w0 w' g (.slice Ap p.length cp) (.slice Al l.length cl) (handS (rd_T39 p (i : Int)).f3 (rd_T50 l (i : Int)).f0 (s.it i) s j k) := by
 obtain ⟨ad, A7, c7, e0, x0, x1, x2, x3, x4, x5, x6, x7, _, _⟩ := at_T39 (Kd.C_below hr hb) (i : Int) (by omega) (by omega)
 obtain ⟨al, e1, _⟩ := at_T50 hl (i : Int) (by omega) (by omega)
 subst e0
 subst e1
 rw [Int.toNat_natCast] at x0 x1 x2 x3 x4 x5 x6 x7
 rw [hj] at x5
 rw [hk] at x6
 obtain ⟨⟨p0, p1, p2, vi, p4, p5, p6, p7⟩, hx⟩ : ∃ x, rd_T39 p (i : Int) = x := ⟨_, rfl⟩
 rw [hx] at x0 x1 x2 x3 x4 x7 ⊢
 dsimp only at x0 x1 x2 x3 x4 x7 ⊢
 clear hj hk hx
 obtain ⟨⟨fcl, ftc, fdn, fsp, fha, fat⟩, hf⟩ : ∃ f, s.it i = f := ⟨_, rfl⟩
 have hi64 : i < 64 := by omega
 have z0 : w.cell? ⟨g, 2 + i * 6, none⟩ = some (.bool fcl) := (hG.it i 0 hi64 (by omega)).trans (by rw [hf]; rfl)
 have z1 : w.cell? ⟨g, 2 + i * 6 + 1, none⟩ = some (.bool ftc) := (hG.it i 1 hi64 (by omega)).trans (by rw [hf]; rfl)
 have z2 : w.cell? ⟨g, 2 + i * 6 + 2, none⟩ = some (.bool fdn) := (hG.it i 2 hi64 (by omega)).trans (by rw [hf]; rfl)
 have z3 : w.cell? ⟨g, 2 + i * 6 + 3, none⟩ = some (.bool fsp) := (hG.it i 3 hi64 (by omega)).trans (by rw [hf]; rfl)
 have z4 : w.cell? ⟨g, 2 + i * 6 + 4, none⟩ = some (.bool fha) := (hG.it i 4 hi64 (by omega)).trans (by rw [hf]; rfl)
 have z5 : w.cell? ⟨g, 2 + i * 6 + 5, none⟩ = some (.int .i64 fat) := (hG.it i 5 hi64 (by omega)).trans (by rw [hf]; rfl)
 have y0 : w.cell? ⟨g, 0, none⟩ = some (.slice (some ad) p.length cp) := hG.cell 0 (by omega)
 rw [hf]
 have HB := Aside0.mk hb
 have HG := Aside0.mk hG
 have HL := Aside0.mk hl
 have HPL := Aside0.mk hpl
 have hlt : (i : Int) < (p.length : Int) := by omega
 have h0 : (0 : Int) ≤ i := by omega
 have h6 : (i : Int) < 64 := by omega
 clear hr hl hb hG hf hpl
 go_enter Tryz.func97, Tryz.ntmps97
 go_wp2_with (fail)
 go_cut [4, 5] (fun v4 v5 wc => ∃ g4 g5, v4 = .pointer (some ⟨g4, 0, none⟩) ∧ v5 = .pointer (some ⟨g5, 0, none⟩) ∧ Aside0 (HandI w0 wc g g4 g5 (.slice (some ad) p.length cp) (.slice (some al) l.length cl) s #[.string p0, .string p1, .bool p2, .bool vi, .int .i64 p4, .int .i64 j, .int .i64 k, .slice A7 p7.length c7] #[.bool fcl, .bool ftc, .bool fdn, .bool fsp, .bool fha, .int .i64 fat]))
 case first =>
  go_region_held2 (fun w' => w'.cell? (ad.add (i * 8)) = some (.string p0) ∧ w'.cell? ⟨(ad.add (i * 8)).block, (ad.add (i * 8)).off + 1, none⟩ = some (.string p1) ∧ w'.cell? ⟨(ad.add (i * 8)).block, (ad.add (i * 8)).off + 2, none⟩ = some (.bool p2) ∧ w'.cell? ⟨(ad.add (i * 8)).block, (ad.add (i * 8)).off + 3, none⟩ = some (.bool vi) ∧ w'.cell? ⟨(ad.add (i * 8)).block, (ad.add (i * 8)).off + 4, none⟩ = some (.int .i64 p4) ∧ w'.cell? ⟨(ad.add (i * 8)).block, (ad.add (i * 8)).off + 5, none⟩ = some (.int .i64 j) ∧ w'.cell? ⟨(ad.add (i * 8)).block, (ad.add (i * 8)).off + 6, none⟩ = some (.int .i64 k) ∧ w'.cell? ⟨(ad.add (i * 8)).block, (ad.add (i * 8)).off + 7, none⟩ = some (.slice A7 p7.length c7) ∧ w'.cell? ⟨g, 2 + i * 6, none⟩ = some (.bool fcl) ∧ w'.cell? ⟨g, 2 + i * 6 + 1, none⟩ = some (.bool ftc) ∧ w'.cell? ⟨g, 2 + i * 6 + 2, none⟩ = some (.bool fdn) ∧ w'.cell? ⟨g, 2 + i * 6 + 3, none⟩ = some (.bool fsp) ∧ w'.cell? ⟨g, 2 + i * 6 + 4, none⟩ = some (.bool fha) ∧ w'.cell? ⟨g, 2 + i * 6 + 5, none⟩ = some (.int .i64 fat) ∧ w'.cell? ⟨g, 0, none⟩ = some (.slice (some ad) p.length cp)) (go_keep) (fail)
  all_goals
   go_wp2
   go_meet
   case rel =>
    have hlt := blk_lt HG.out
    first
    | exact ⟨_, _, rfl, rfl, ⟨⟨below_drewN (below_step HB.out (below_alloc (below_alloc (Below.refl _ _) _) _)) 1, (show BoardAt _ _ _ _ _ from blk_alloc (blk_alloc HG.out _) _).drew, blk_drew (blk_alloc (blk_new _ _) _), blk_drew (blkB_ _ _ _), by omega, by omega⟩⟩⟩
    | exact ⟨_, _, rfl, rfl, ⟨⟨below_drewN (below_step HB.out (below_alloc (below_alloc (Below.refl _ _) _) _)) 1, (show BoardAt _ _ _ _ _ from blk_alloc (blk_alloc HG.out _) _).drew, blk_drew (blkB_ _ _ _), blk_drew (blk_alloc (blk_new _ _) _), by omega, by omega⟩⟩⟩
 case rest =>
  obtain ⟨g4, g5, rfl, rfl, HI⟩ := hcut
  clear x0 x1 x2 x3 x4 x5 x6 x7 z0 z1 z2 z3 z4 z5 y0
  obtain ⟨⟨yfa, ywh, ycl⟩, hy⟩ : ∃ y, s.bo j k = y := ⟨_, rfl⟩
  have HY := Aside0.mk hy
  have HYY := Aside0.mk hy
  have hj6 : (j : Int) < 64 := by omega
  have hj0 : (0 : Int) ≤ j := by omega
  have hk6 : (k : Int) < 4 := by omega
  have hk0 : (0 : Int) ≤ k := by omega
  have x5 : wc.cell? ⟨g4, 5, none⟩ = some (.int .i64 j) := (blk_cell HI.out.2.2.1 5).trans rfl
  have x6 : wc.cell? ⟨g4, 6, none⟩ = some (.int .i64 k) := (blk_cell HI.out.2.2.1 6).trans rfl
  clear hy
  go_wp2_with (fail)
  go_region
  go_upto_region 2 with (fail)
  clear x5 x6
  have y2 : wc.cell? ⟨g, 386 + j * 12 + k * 3 + 2, none⟩ = some (.bool ycl) := (HI.out.2.1.bo j k 2 hj64 hk4 (by omega)).trans (by rw [HY.out]; rfl)
  have ww2 := HI.out.2.1.free (386 + j * 12 + k * 3 + 2)
  have f0 : wc.cell? ⟨g5, 0, none⟩ = some (.bool fcl) := (blk_cell HI.out.2.2.2.1 0).trans rfl
  go_cut [] (fun wc => Aside0 (HandI w0 wc g g4 g5 (.slice (some ad) p.length cp) (.slice (some al) l.length cl) (s.setBo j k ⟨yfa, ywh, ycl && fcl⟩) #[.string p0, .string p1, .bool p2, .bool vi, .int .i64 p4, .int .i64 j, .int .i64 k, .slice A7 p7.length c7] #[.bool fcl, .bool ftc, .bool fdn, .bool fsp, .bool fha, .int .i64 fat]))
  case first =>
   cases ycl
   all_goals
    go_wp2
    go_meet
    case rel => exact ⟨(HI.out.put hg _ _ (HI.out.2.1.putBo j k 2 hj64 hk4 (by omega) (.bool _) ⟨yfa, ywh, _⟩ (by rw [HY.out]; exact by3_ rfl rfl rfl))).drew⟩
  case rest =>
   clear HI y2 ww2 f0 HY
   have HI := hcut
   clear hcut
   have y0 : wc.cell? ⟨g, 386 + j * 12 + k * 3, none⟩ = some (.bool yfa) := (HI.out.2.1.bo j k 0 hj64 hk4 (by omega)).trans (by simp [St.setBo, By.v])
   have ww0 := HI.out.2.1.free (386 + j * 12 + k * 3)
   have f3 : wc.cell? ⟨g5, 3, none⟩ = some (.bool fsp) := (blk_cell HI.out.2.2.2.1 3).trans rfl
   have x3 : wc.cell? ⟨g4, 3, none⟩ = some (.bool vi) := (blk_cell HI.out.2.2.1 3).trans rfl
   have z1 : wc.cell? ⟨g, 1, none⟩ = some (.slice (some al) l.length cl) := HI.out.2.1.cell 1 (by omega)
   have hli : (i : Int) < (l.length : Int) := by have := HPL.out; omega
   obtain ⟨al2, e1, q0, q1, q2, q3⟩ := at_T50 (Kd.C_below HL.out HI.out.1) (i : Int) h0 hli
   obtain rfl := Option.some.inj e1
   rw [Int.toNat_natCast] at q0
   clear q1 q2 q3 e1
   obtain ⟨run, hrun⟩ : ∃ r, (rd_T50 l (i : Int)).f0 = r := ⟨_, rfl⟩
   rw [hrun] at q0
   have HRUN := Aside0.mk hrun
   clear hrun
   go_upto_region 3 with (fail)
   go_cut [] (fun wc => Aside0 (HandI w0 wc g g4 g5 (.slice (some ad) p.length cp) (.slice (some al) l.length cl) (s.setBo j k ⟨yfa || (run == 3 || (vi && fsp)), ywh, ycl && fcl⟩) #[.string p0, .string p1, .bool p2, .bool vi, .int .i64 p4, .int .i64 j, .int .i64 k, .slice A7 p7.length c7] #[.bool fcl, .bool ftc, .bool fdn, .bool fsp, .bool fha, .int .i64 fat]))
   case first =>
    cases yfa
    case' false =>
     cases c3 : run == 3
     case' false => cases vi
    all_goals
     go_wp2
     go_meet
     case rel =>
      (try rw [c3])
      exact ⟨HI.out.put hg _ _ (HI.out.2.1.reBo 0 hj64 hk4 (by omega) (.bool _) ⟨_, ywh, _⟩ (by exact by3_ rfl rfl rfl))⟩
   case rest =>
    clear HI y0 ww0 f3 x3 z1 q0
    have HI := hcut
    clear hcut
    have y1 : wc.cell? ⟨g, 386 + j * 12 + k * 3 + 1, none⟩ = some (.bool ywh) := (HI.out.2.1.bo j k 1 hj64 hk4 (by omega)).trans (by simp [St.setBo, By.v])
    have ww1 := HI.out.2.1.free (386 + j * 12 + k * 3 + 1)
    have f2 : wc.cell? ⟨g5, 2, none⟩ = some (.bool fdn) := (blk_cell HI.out.2.2.2.1 2).trans rfl
    have f3 : wc.cell? ⟨g5, 3, none⟩ = some (.bool fsp) := (blk_cell HI.out.2.2.2.1 3).trans rfl
    have x3 : wc.cell? ⟨g4, 3, none⟩ = some (.bool vi) := (blk_cell HI.out.2.2.1 3).trans rfl
    go_upto_region 4 with (fail)
    go_cut [] (fun wc => Aside0 (HandI w0 wc g g4 g5 (.slice (some ad) p.length cp) (.slice (some al) l.length cl) (s.setBo j k ⟨yfa || (run == 3 || (vi && fsp)), ywh && (fdn || (fsp && !vi)), ycl && fcl⟩) #[.string p0, .string p1, .bool p2, .bool vi, .int .i64 p4, .int .i64 j, .int .i64 k, .slice A7 p7.length c7] #[.bool fcl, .bool ftc, .bool fdn, .bool fsp, .bool fha, .int .i64 fat]))
    case first =>
     cases ywh
     case' true =>
      cases fdn
      case' false => cases fsp
     all_goals
      go_wp2
      go_meet
      case rel => exact ⟨HI.out.put hg _ _ (HI.out.2.1.reBo 1 hj64 hk4 (by omega) (.bool _) ⟨_, _, _⟩ (by exact by3_ rfl rfl rfl))⟩
    case rest =>
     clear HI y1 ww1 f2 f3 x3
     have HI := hcut
     clear hcut
     have x5 : wc.cell? ⟨g4, 5, none⟩ = some (.int .i64 j) := (blk_cell HI.out.2.2.1 5).trans rfl
     have f1 : wc.cell? ⟨g5, 1, none⟩ = some (.bool ftc) := (blk_cell HI.out.2.2.2.1 1).trans rfl
     go_wp2_with (fail)
     go_region
     have v1 : wc.cell? ⟨g, 2 + j * 6 + 1, none⟩ = some (.bool (s.it j).tc) := (HI.out.2.1.it j 1 hj64 (by omega)).trans (by simp [St.setBo, Fl.v])
     have ww1 := HI.out.2.1.free (2 + j * 6 + 1)
     obtain ⟨⟨tcl, ttc, tdn, tsp, tha, tat⟩, ht⟩ : ∃ x, s.it j = x := ⟨_, rfl⟩
     have HT := Aside0.mk ht
     rw [ht] at v1
     clear ht
     have HX : Aside0 (handS vi (rd_T50 l (i : Int)).f0 ⟨fcl, ftc, fdn, fsp, fha, fat⟩ s j k = (s.setBo j k ⟨yfa || (run == 3 || (vi && fsp)), ywh && (fdn || (fsp && !vi)), ycl && fcl⟩).setIt j ⟨tcl, ttc || ftc, tdn, tsp, tha, tat⟩) := ⟨by
      unfold handS handB
      rw [HRUN.out, HYY.out, HT.out]
      rfl⟩
     cases ttc
     all_goals
      go_wp2
      refine bodyPost_end (results_none rfl _ _ _) rfl ?_
      rw [HX.out]
      exact ⟨rfl, below_drewN (HI.out.1.setCell hg _) 1, (HI.out.2.1.putIt j 1 hj64 (by omega) (.bool _) ⟨tcl, _, tdn, tsp, tha, tat⟩ (by rw [show (s.setBo j k _).it j = s.it j from rfl, HT.out]; exact fl6_ rfl rfl rfl rfl rfl rfl)).drew⟩
end Go.Proofs.YtloijngccppfgaaGreat.F
end

section
namespace Go.Proofs.YtloijngccppfgaaGreat.F
open Go.RowKit Go.Proofs.YtloijngccppfgaaGreatW.PrintWords Go.Proofs.YtloijngccppfgaaGreatW.PrintLast Go.Proofs.YtloijngccppfgaaGreatW.PrintMore
attribute [local go_sem] max2_int min2_int max_two min_two max_three min_three max_four min_four
set_option linter.unusedVariables false
set_option linter.unusedSimpArgs false
def fineB (f : S50) : Bool := decide (0 ≤ f.f0) && decide (f.f0 ≤ 3) && decide (0 ≤ f.f2) && decide (f.f2 ≤ 3) && (decide (f.f1 = f.f2) || decide (f.f1 = f.f2 + 1)) && (!decide (f.f1 > 0) || decide (f.f0 = 2)) && (!f.f3 || decide (f.f1 > f.f2))
def zeroB (f : S50) : Bool := !((!((f.f0) == 0) || (!((f.f1) == 0) || (!((f.f2) == 0) || ((f.f3))))))
def factOk (p : List S39) (l : List S50) (j : Nat) : Bool := fineB (rd_T50 l j) && (!(rd_T39 p j).f2 || zeroB (rd_T50 l j))
def factsB (p : List S39) (l : List S50) : Bool := decide (l.length = p.length) && (rightB p && (List.range' 0 l.length).all (factOk p l))
def smallP (p : List S39) : Bool := p.all fun x => decide (x.f7.length ≤ 1000000)
theorem fine_ways (a b c : Int) : a < 0 ∨ (¬ a < 0 ∧ a > 3) ∨ (¬ a < 0 ∧ ¬ a > 3 ∧ c < 0) ∨ (¬ a < 0 ∧ ¬ a > 3 ∧ ¬ c < 0 ∧ c > 3) ∨ (¬ a < 0 ∧ ¬ a > 3 ∧ ¬ c < 0 ∧ ¬ c > 3 ∧
  (b = c ∨ (¬ b = c ∧ b = c + 1) ∨ (¬ b = c ∧ ¬ b = c + 1)) ∧ (¬ b > 0 ∨ (b > 0 ∧ ¬ a = 2) ∨ (b > 0 ∧ a = 2))) := by omega
set_option maxHeartbeats 8000000 in
theorem fine_walk (f : S50) (w : World) : Calls Tryz.prog 84 #[.agg #[.int .i64 f.f0, .int .i64 f.f1, .int .i64 f.f2, .bool f.f3]] w fun e w' => e = .returned (.bool (fineB f)) ∧ Below w.heap.size w w' := by
 obtain ⟨a, b, c, d⟩ := f
 unfold fineB
 dsimp only
 rcases fine_ways a b c with h | ⟨h1, h⟩ | ⟨h1, h2, h⟩ | ⟨h1, h2, h3, h⟩ | ⟨h1, h2, h3, h4, h5 | ⟨h5, h7⟩ | ⟨h5, h7⟩, h6 | ⟨h6, h8⟩ | ⟨h6, h8⟩⟩
 all_goals
  try (have hw : wrap64 (c + 1) = c + 1 := by unfold wrap64; omega)
  cases d
 all_goals first | (exfalso; omega) | skip
 all_goals
  go_enter Tryz.func84, Tryz.ntmps84
  go_wp2
  go_ret
  refine ⟨?_, below_alloc (Below.refl _ _) _⟩
  first | rfl | (simp [*]; done) | (simp [*] <;> omega)
theorem zero_eq (f : S50) (h : zeroB f = true) : f = ⟨0, 0, 0, false⟩ := by
 obtain ⟨a, b, c, d⟩ := f
 unfold zeroB at h
 simp at h
 obtain ⟨rfl, rfl, rfl, rfl⟩ := h
 rfl
def fact_Check.f (k : Nat) (l0_0 : List S39) (l1 : List S50) : Option Int := if smallP l0_0 && decide (l1.length ≤ 1000000) then some (if factsB l0_0 l1 then 0 else 2) else none
set_option maxHeartbeats 8000000 in
set_option maxRecDepth 100000 in
theorem fact_check_walk (A0_0 : Option Addr) (c0_0 : Nat) (p : List S39) (A1 : Option Addr) (c1 : Nat) (l : List S50) (w : World) (hr0_0 : Kd.C k39 w A0_0 p.length p) (hc0_0 : p.length ≤ c0_0) (hr1 : Kd.C k50 w A1 l.length l) (hc1 : l.length ≤ c1) (hsm : smallP p = true) (hl6 : l.length ≤ 1000000) :
  Calls Tryz.prog 54 #[.agg #[.slice A0_0 p.length c0_0], .slice A1 l.length c1] w fun e w' => e = .returned (.int .i64 (if factsB p l then 0 else 2)) ∧ Below w.heap.size w w' := by
 have HP := Aside0.mk hr0_0
 have HL := Aside0.mk hr1
 have HB0 := Aside0.mk (below_alloc (Below.refl w.heap.size w) (.cells #[.slice A0_0 p.length c0_0] 24 (0, 0)))
 have HG0 := Aside0.mk (blk_new w (.cells #[.slice A0_0 p.length c0_0] 24 (0, 0)))
 have HR := Aside0.mk (fun (W : World) (hb : Below w.heap.size w W) => plan_Right.calls A0_0 c0_0 p (rightB p) W (Kd.C_below hr0_0 hb) hc0_0 (by unfold plan_Right.f; rw [if_pos (by exact hsm)]))
 have HM := Aside0.mk (Kd.C_max hr0_0)
 obtain ⟨tR, htR⟩ : ∃ q, factsB p l = q := ⟨_, rfl⟩
 have HTR := Aside0.mk htR
 obtain ⟨rr, hrr⟩ : ∃ q : Int, (if factsB p l then (0 : Int) else 2) = q := ⟨_, rfl⟩
 rw [hrr]
 have HYES : Aside0 (tR = true → rr = 0) := ⟨fun e => by rw [← hrr, htR, e]; rfl⟩
 have HNO : Aside0 (tR = false → rr = 2) := ⟨fun e => by rw [← hrr, htR, e]; rfl⟩
 clear hr0_0 hr1 hsm hc0_0 hc1 htR hrr
 by_cases hpl : l.length = p.length
 case neg =>
  have hne : ¬ (l.length : Int) = (p.length : Int) := by omega
  have hbn : ((l.length : Int) == (p.length : Int)) = false := beq_eq_false_iff_ne.2 hne
  have hFB : Aside0 (tR = false) := ⟨by rw [← HTR.out]; unfold factsB; rw [decide_eq_false hpl]; rfl⟩
  clear hpl HTR
  go_enter Tryz.func54, Tryz.ntmps54
  go_wp2
  go_ret
  exact ⟨by rw [HNO.out hFB.out]; rfl, HB0.out⟩
 have hee : (l.length : Int) = (p.length : Int) := by omega
 have HPL := Aside0.mk hpl
 obtain ⟨b, hb⟩ : ∃ b, rightB p = b := ⟨_, rfl⟩
 have HRB := Aside0.mk hb
 rw [hb] at HR
 clear hb hpl
 cases b with
 | false =>
  have hFB : Aside0 (tR = false) := ⟨by rw [← HTR.out]; unfold factsB; rw [HRB.out, Bool.false_and, Bool.and_false]⟩
  clear HTR
  go_enter Tryz.func54, Tryz.ntmps54
  go_wp2_with (go_at_call 83; refine (HR.out _ HB0.out).mono ?_; rintro e w2 ⟨rfl, hb⟩; have HB2 := Aside0.mk (HB0.out.trans (hb.mono HB0.out.size)); clear hb)
  go_ret
  exact ⟨by rw [HNO.out hFB.out]; rfl, HB2.out⟩
 | true =>
  have HAL : Aside0 (tR = (List.range' 0 l.length).all (factOk p l)) := ⟨by rw [← HTR.out]; unfold factsB; rw [HRB.out, decide_eq_true HPL.out]; rfl⟩
  clear HTR
  go_enter Tryz.func54, Tryz.ntmps54
  go_wp2_with (go_at_call 83; refine (HR.out _ HB0.out).mono ?_; rintro e w2 ⟨rfl, hb⟩; have HB2 := Aside0.mk (HB0.out.trans (hb.mono HB0.out.size)); have HG2 := Aside0.mk (blk_below HG0.out hb); clear hb)
  go_loopg [20] l.length (fun kq v20 w' => ∃ i : Nat, i + kq = l.length ∧ v20 = .int .i64 i ∧ Aside0 (tR = (List.range' i (l.length - i)).all (factOk p l)) ∧ Aside0 (Below w2.heap.size w2 w'))
  case atStart => exact ⟨0, by omega, rfl, HAL, ⟨Below.refl _ _⟩⟩
  case round =>
   obtain ⟨i, hi, rfl, HI, HB⟩ := hrel
   have HBw := Aside0.mk (HB2.out.trans (HB.out.mono HB2.out.size))
   cases gk with
   | zero =>
    obtain rfl : i = l.length := by omega
    have HE : Aside0 (tR = true) := ⟨by rw [HI.out, Nat.sub_self]; rfl⟩
    go_wp2
    go_ret
    exact ⟨by rw [HYES.out HE.out]; rfl, HBw.out⟩
   | succ d =>
    have hlt : i < l.length := by omega
    have hlp : i < p.length := by have := HPL.out; omega
    have HI2 : Aside0 (tR = (factOk p l i && (List.range' (i + 1) (l.length - (i + 1))).all (factOk p l))) := ⟨by rw [HI.out, show l.length - i = (l.length - (i + 1)) + 1 from by omega, List.range'_succ, List.all_cons]⟩
    have HW := Aside0.mk hi
    have h0i : (0 : Int) ≤ i := by omega
    have h1i : (i : Int) < (l.length : Int) := by omega
    have h2i : (i : Int) < (p.length : Int) := by omega
    obtain ⟨al, e2, s0, s1, s2, s3⟩ := at_T50 (Kd.C_below HL.out HBw.out) (i : Int) h0i h1i
    obtain ⟨ai, A7, c7, e1, q0, q1, q2, q3, q4, q5, q6, q7, q8, q9⟩ := at_T39 (Kd.C_below HP.out HBw.out) (i : Int) h0i h2i
    obtain rfl := e1
    obtain rfl := e2
    rw [Int.toNat_natCast] at s0 s1 s2 s3 q2
    have x0 : wr.cell? ⟨w.heap.size, 0, none⟩ = some (.slice (some ai) p.length c0_0) := (blk_cell (blk_below HG2.out HB.out) 0).trans rfl
    unfold factOk at HI2
    obtain ⟨f, hf⟩ : ∃ f, rd_T50 l (i : Int) = f := ⟨_, rfl⟩
    rw [hf] at s0 s1 s2 s3 HI2
    obtain ⟨u, hu⟩ : ∃ u, (rd_T39 p (i : Int)).f2 = u := ⟨_, rfl⟩
    rw [hu] at q2 HI2
    obtain ⟨z, hz⟩ : ∃ z, zeroB f = z := ⟨_, rfl⟩
    have HZ := Aside0.mk hz
    obtain ⟨v, hv⟩ : ∃ v, fineB f = v := ⟨_, rfl⟩
    have HV := Aside0.mk hv
    rw [hz, hv] at HI2
    have HF := Aside0.mk (fine_walk f (wr.alloc (.cells #[.int .i64 f.f0, .int .i64 f.f1, .int .i64 f.f2, .bool f.f3] 50 (0, 0))))
    rw [hv] at HF
    have HB3 := Aside0.mk (HB.out.trans ((below_alloc (Below.refl wr.heap.size wr) (.cells #[.int .i64 f.f0, .int .i64 f.f1, .int .i64 f.f2, .bool f.f3] 50 (0, 0))).mono HB.out.size))
    have HG3 := Aside0.mk (blk_new wr (.cells #[.int .i64 f.f0, .int .i64 f.f1, .int .i64 f.f2, .bool f.f3] 50 (0, 0)))
    replace x0 := cell_al (o := .cells #[.int .i64 f.f0, .int .i64 f.f1, .int .i64 f.f2, .bool f.f3] 50 (0, 0)) x0
    replace q2 := cell_al (o := .cells #[.int .i64 f.f0, .int .i64 f.f1, .int .i64 f.f2, .bool f.f3] 50 (0, 0)) q2
    have hwi : wrap64 ((i : Int) + 1) = ((i + 1 : Nat) : Int) := by have := HM.out; unfold wrap64; omega
    have HWI := Aside0.mk hwi
    obtain ⟨f0, f1, f2, f3⟩ := f
    dsimp only at s0 s1 s2 s3 HF HB3 HG3 x0 q2
    clear q0 q1 q3 q4 q5 q6 q7 q8 q9 hf hu hz hv hi hlt hlp hwi HAL
    cases v with
    | false =>
     have HE : Aside0 (tR = false) := ⟨by rw [HI2.out]; rfl⟩
     go_wp2_with (go_at_call 84; refine HF.out.mono ?_; rintro e w4 ⟨rfl, hb⟩; have HB4 := Aside0.mk (HB2.out.trans ((HB3.out.trans (hb.mono HB3.out.size)).mono HB2.out.size)); clear hb)
     go_ret
     exact ⟨by rw [HNO.out HE.out]; rfl, HB4.out⟩
    | true =>
     cases u with
     | false =>
      have HE : Aside0 (tR = (List.range' (i + 1) (l.length - (i + 1))).all (factOk p l)) := ⟨by rw [HI2.out]; rfl⟩
      go_wp2_with (go_at_call 84; refine HF.out.mono ?_; rintro e w4 ⟨rfl, hb⟩; have HB4 := Aside0.mk (HB3.out.trans (hb.mono HB3.out.size)); have x4 := cell_bel hb x0; have q4 := cell_bel hb q2; clear hb)
      go_roundg d
      case measure => omega
      case rel => exact ⟨i + 1, by have := HW.out; omega, by go_num, HE, HB4⟩
     | true =>
      cases z with
      | true =>
       have hfz := zero_eq _ HZ.out
       simp only [S50.mk.injEq] at hfz
       obtain ⟨rfl, rfl, rfl, rfl⟩ := hfz
       have HE : Aside0 (tR = (List.range' (i + 1) (l.length - (i + 1))).all (factOk p l)) := ⟨by rw [HI2.out]; rfl⟩
       go_wp2_with (go_at_call 84; refine HF.out.mono ?_; rintro e w4 ⟨rfl, hb⟩; have HB4 := Aside0.mk (HB3.out.trans (hb.mono HB3.out.size)); have x4 := cell_bel hb x0; have q4 := cell_bel hb q2; have HG4 := Aside0.mk (blk_below HG3.out hb); have g0 : w4.cell? ⟨wr.heap.size, 0, none⟩ = some (.int .i64 0) := (blk_cell HG4.out 0).trans rfl; have g1 : w4.cell? ⟨wr.heap.size, 1, none⟩ = some (.int .i64 0) := (blk_cell HG4.out 1).trans rfl; have g2 : w4.cell? ⟨wr.heap.size, 2, none⟩ = some (.int .i64 0) := (blk_cell HG4.out 2).trans rfl; have g3 : w4.cell? ⟨wr.heap.size, 3, none⟩ = some (.bool false) := (blk_cell HG4.out 3).trans rfl; clear hb)
       go_roundg d
       case measure => omega
       case rel => exact ⟨i + 1, by have := HW.out; omega, by go_num, HE, HB4⟩
      | false =>
       have HE : Aside0 (tR = false) := ⟨by rw [HI2.out]; rfl⟩
       have hnz : ¬ (f0 = 0 ∧ f1 = 0 ∧ f2 = 0 ∧ f3 = false) := fun ⟨e0, e1, e2, e3⟩ => by have h := HZ.out; rw [e0, e1, e2, e3] at h; cases h
       have HNZ := Aside0.mk hnz
       clear hnz
       go_wp2_with (go_at_call 84; refine HF.out.mono ?_; rintro e w4 ⟨rfl, hb⟩; have HB4 := Aside0.mk (HB2.out.trans ((HB3.out.trans (hb.mono HB3.out.size)).mono HB2.out.size)); have x4 := cell_bel hb x0; have q4 := cell_bel hb q2; have HG4 := Aside0.mk (blk_below HG3.out hb); have g0 : w4.cell? ⟨wr.heap.size, 0, none⟩ = some (.int .i64 f0) := (blk_cell HG4.out 0).trans rfl; have g1 : w4.cell? ⟨wr.heap.size, 1, none⟩ = some (.int .i64 f1) := (blk_cell HG4.out 1).trans rfl; have g2 : w4.cell? ⟨wr.heap.size, 2, none⟩ = some (.int .i64 f2) := (blk_cell HG4.out 2).trans rfl; have g3 : w4.cell? ⟨wr.heap.size, 3, none⟩ = some (.bool f3) := (blk_cell HG4.out 3).trans rfl; clear hb)
       all_goals first
        | (go_ret; exact ⟨by rw [HNO.out HE.out]; rfl, HB4.out⟩)
        | exact absurd ⟨by assumption, by assumption, by assumption, by first | assumption | exact eq_false_of_ne_true (by assumption)⟩ HNZ.out
theorem fact_Check.calls (k : Nat) (A0_0 : Option Addr) (c0_0 : Nat) (l0_0 : List S39) (A1 : Option Addr) (c1 : Nat) (l1 : List S50) (r : Int) (w : World) (hr0_0 : Kd.C k39 w A0_0 l0_0.length l0_0) (hc0_0 : l0_0.length ≤ c0_0) (hr1 : Kd.C k50 w A1 l1.length l1) (hc1 : l1.length ≤ c1) (h : fact_Check.f k l0_0 l1 = some r) :
  Calls Tryz.prog 54 #[.agg #[.slice A0_0 l0_0.length c0_0], .slice A1 l1.length c1] w fun e w' => e = .returned (.int .i64 r) ∧ Below w.heap.size w w' := by
 unfold fact_Check.f at h
 by_cases hok : (smallP l0_0 && decide (l1.length ≤ 1000000)) = true
 ·rw [if_pos hok] at h
  obtain rfl := Option.some.inj h
  rw [Bool.and_eq_true, decide_eq_true_eq] at hok
  exact fact_check_walk A0_0 c0_0 l0_0 A1 c1 l1 w hr0_0 hc0_0 hr1 hc1 hok.1 hok.2
 ·rw [if_neg hok] at h
  cases h
theorem fact_check_at (p : List S39) (l : List S50) (hp : smallP p = true) (hl : l.length ≤ 1000000) : fact_Check.f (l.length + 2 + 1) p l = some (if factsB p l then 0 else 2) := by unfold fact_Check.f; rw [hp, decide_eq_true hl]; rfl
theorem fact_check_eq (p : List S39) (l : List S50) (hp : smallP p = true) (hl : l.length ≤ 1000000) : ∃ k, fact_Check.f k p l = some (if factsB p l then 0 else 2) := ⟨_, fact_check_at p l hp hl⟩
end Go.Proofs.YtloijngccppfgaaGreat.F
end

section
namespace Go.Proofs.YtloijngccppfgaaGreat.F
open Go.RowKit Go.Proofs.YtloijngccppfgaaGreatW.PrintWords Go.Proofs.YtloijngccppfgaaGreatW.PrintLast Go.Proofs.YtloijngccppfgaaGreatW.PrintMore
attribute [local go_sem] max2_int min2_int max_two min_two max_three min_three max_four min_four
set_option linter.unusedVariables false
set_option linter.unusedSimpArgs false
theorem info56_ : (Tryz.prog.info? 50).map (fun i => (i.zero, i.size, i.bytes)) = some (some (.agg #[(.int .i64 0), (.int .i64 0), (.int .i64 0), (.bool false)]), 4, 32) := by kernel_rfl
set_option maxHeartbeats 8000000 in
set_option maxRecDepth 100000 in
theorem clone_walk (A : Option Addr) (c : Nat) (l : List S50) (w : World) (hr : Kd.C k50 w A l.length l) (hl : l.length ≤ 1000000) :
  Calls Tryz.prog 94 #[.slice A l.length c] w fun e w' => ∃ v, e = .returned v ∧ Kd.R k50 50 w' w.heap.size (fun _ => True) v l ∧ Below w.heap.size w w' := by
 have HR := Aside0.mk hr
 have HL := Aside0.mk hl
 have HB := Aside0.mk (Below.refl w.heap.size w)
 have he := fun (B : Option Addr) (n c : Nat) (w : World) => Lib.run_eql_slice_nil (P := Tryz.prog) w 25 50 B n c 0 0 Tryz.underlying25
 clear hr hl
 cases A with
 | none =>
  have h0 : l = [] := by
   cases l with
   | nil => rfl
   | cons x l => obtain ⟨ad, h, _⟩ := HR.out.2.2 (by simp); cases h
  subst h0
  go_enter Tryz.func94, Tryz.ntmps94
  go_wp2
  go_ret
  exact ⟨_, rfl, Kd.R_nil _ _ _ _ _, HB.out⟩
 | some ad =>
  have h2 := World.ownsRow_lit (base := w.heap.size) (e := 50) (size := k50.sz) w #[] 0 (Nat.le_refl _) (by simp) (by simp)
  have HO0 : Aside0 (Kd.R k50 50 (w.alloc (.cells #[] 50 (0, 0))) w.heap.size (fun _ => True) (.slice (some ⟨w.heap.size, 0, none⟩) 0 0) []) := ⟨⟨fun _ _ => trivial, [], by simpa using h2, Reps.none _ _⟩⟩
  clear h2
  go_enter Tryz.func94, Tryz.ntmps94
  go_wp2_with ((with_reducible refine gate_builtin (b := .append) (xs := #[.tmp 5, .tmp 6]) rfl ?_); at_builtin; refine Kd.R_append_rows k50 (w0 := w) w.heap.size rfl (.tmp 5) (.tmp 6) 25 50 (.agg #[(.int .i64 0), (.int .i64 0), (.int .i64 0), (.bool false)]) 32 rfl Tryz.underlying25 info56_ rfl (by decide) (by omega) (.slice (some ⟨w.heap.size, 0, none⟩) 0 0) [] l _ _ _ (fun _ => True) (fun _ => False) rfl rfl HO0.out (Kd.C_below HR.out (below_alloc (Below.refl _ _) _)) (fun _ _ h => h) (fun _ h => h.elim) (fun _ _ => trivial) (HB.out.alloc (Nat.le_refl _) _) (by simp) (by have := HL.out; simp; omega) ?_; intro v1 w1 hR hB hg hx; have HR1 := Aside0.mk hR; have HB1 := Aside0.mk hB; clear hR hB hg hx)
  go_ret
  exact ⟨_, rfl, HR1.out, HB1.out⟩
end Go.Proofs.YtloijngccppfgaaGreat.F
end
