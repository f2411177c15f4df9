-- Texts of this seat's, joined.
import Derived.Test.YtloijngccppfgaaGreatZTaskOrder1
import Derived.Recover
import Derived.WalkSmall
import Derived.Shelf.Abstract
import Derived.Laws.RangeAny
import Derived.Lib.RuneCountTail
import Derived.Lib.BufferRune
import Derived.Lib.BufferKept
section
namespace Go.Proofs.YtloijngccppfgaaGreat.F
open Go.RowKit Go.Proofs.YtloijngccppfgaaGreatW.PrintWords Go.Proofs.YtloijngccppfgaaGreatW.PrintLast Go.Proofs.YtloijngccppfgaaGreatW.PrintMore
attribute [local go_sem] max2_int min2_int max_two min_two max_three min_three max_four min_four
set_option linter.unusedVariables false
set_option linter.unusedSimpArgs false
abbrev BodyK := S110
abbrev NodeK := S112
abbrev ItemK := S39
theorem info93_ : (Tryz.prog.info? 112).map (fun i => (i.zero, i.size, i.bytes)) = some (some (.agg #[.string ⟨#[]⟩, .string ⟨#[]⟩, .slice none 0 0, .bool false, .bool false, .slice none 0 0]), 6, 88) := by kernel_rfl
theorem info9_ : (Tryz.prog.info? 9).map (fun i => (i.zero, i.size, i.bytes)) = some (some (.string ⟨#[]⟩), 1, 16) := by kernel_rfl
def setNode (os : List BodyK) (j : Nat) (x : NodeK) : List BodyK := os.set j ⟨(os.getD j ⟨[]⟩).f0 ++ [x]⟩
def nodeOf (p : List ItemK) (x : ItemK) (kids : List BodyK) : NodeK := ⟨x.f0, x.f1, x.f7.map (fun k => (rd_T39 p k).f0), x.f2, x.f3, kids⟩
def addL (p : List ItemK) (i : Nat) (rec : Nat → List BodyK) : Nat → List ItemK → List BodyK → List BodyK
 | _, [], out => out
 | j, x :: l, out => addL p i rec (j + 1) l (if j = 0 ∨ x.f5 ≠ (i : Int) then out else setNode out x.f6.toNat (nodeOf p x (rec j)))
def bodiesF (p : List ItemK) : Nat → Nat → List BodyK
 | 0, _ => []
 | d + 1, i => addL p i (fun j => bodiesF p d j) 0 p (List.replicate (rd_T39 p (i : Int)).f4.toNat ⟨[]⟩)
theorem shapedL_at (p : List ItemK) : ∀ (l : List ItemK) (i : Nat), shapedL p i l = true → ∀ (k : Nat) (h : k < l.length), itemB p (i + k) l[k] = true
 | [], _, _, k, h => by simp at h
 | x :: l, i, hs, k, h => by
  simp only [shapedL, Bool.and_eq_true] at hs
  cases k with
  | zero => exact hs.1
  | succ k =>
   have := shapedL_at p l (i + 1) hs.2 k (by simpa using h)
   rw [show i + 1 + k = i + (k + 1) by omega] at this
   exact this
theorem shaped_at {p : List ItemK} (hs : shapedB p = true) {k : Nat} (h : k < p.length) : itemB p k p[k] = true := by
 unfold shapedB at hs
 rw [Bool.and_eq_true] at hs
 have := shapedL_at p p 0 hs.1 k h
 rwa [Nat.zero_add] at this
theorem shaped_len {p : List ItemK} (hs : shapedB p = true) : 0 < p.length ∧ p.length ≤ 64 := by
 unfold shapedB at hs
 simp only [Bool.and_eq_true, decide_eq_true_eq] at hs
 exact hs.2
theorem itemB_alts {p : List ItemK} {k : Nat} {x : ItemK} (h : itemB p k x = true) : 0 ≤ x.f4 ∧ x.f4 ≤ 4 ∧ (∀ q ∈ x.f7, 1 ≤ q ∧ q < (p.length : Int)) := by
 unfold itemB at h
 split at h
 ·cases h
 ·rename_i h1
  split at h
  ·cases h
  ·rename_i h2
   split at h
   ·cases h
   ·rename_i h3
    refine ⟨by omega, by omega, fun q hq => ?_⟩
    have h4 : x.f7.any (strayB p.length) = false := by simpa using h3
    rw [List.any_eq_false] at h4
    have h5 := h4 q hq
    simp [strayB] at h5
    omega
theorem itemB_in {p : List ItemK} {k : Nat} {x : ItemK} (h : itemB p k x = true) (hk : k ≠ 0) : 0 ≤ x.f5 ∧ x.f5 < (k : Int) ∧ 0 ≤ x.f6 ∧ x.f6 < (rd_T39 p x.f5).f4 := by
 unfold itemB at h
 split at h
 ·cases h
 ·split at h
  ·cases h
  ·split at h
   ·cases h
   ·try rw [if_neg hk] at h
    split at h
    ·cases h
    ·split at h
     ·cases h
     ·split at h
      ·cases h
      ·have := of_decide_eq_true h
       refine ⟨by omega, by omega, by omega, this⟩
theorem push_get {W : World} {base b0 s0 g n cap : Nat} {os : List BodyK} {j : Nat} (HS : Kd.S k110 110 W base (fun k => b0 < k ∧ k < s0) (.slice (some ⟨g, 0, none⟩) n cap) os) (hj : j < n) :
  ∃ (oki : Nat → Prop) (ve : Value), W.cell? ⟨g, j, none⟩ = some ve ∧ W.frozen? ⟨g, j, none⟩ = false ∧ Kd.R k112 112 W base oki ve (os.getD j ⟨[]⟩).f0 ∧ (∀ k, oki k → (b0 < k ∧ k < s0) ∧ k ≠ g) ∧ Kd.H k110 110 W base (fun k => b0 < k ∧ k < s0) (.slice (some ⟨g, 0, none⟩) n cap) os (j : Int) oki [ve] := by
 obtain ⟨oki, c, hcl, hM, hcc, hfr, hoki, hH⟩ := Kd.S_elem HS ⟨[]⟩ (j : Int) (by omega) (by omega)
 obtain ⟨ve, rfl, hR⟩ := k110_openM hM
 have h1 := hcc 0 ve rfl
 have h2 := hfr 0
 rw [Int.toNat_natCast] at h1 hR h2
 refine ⟨oki, ve, ?_, ?_, hR, hoki, hH⟩
 ·simpa [show (k110).sz = 1 from rfl] using h1
 ·simpa [show (k110).sz = 1 from rfl] using h2
theorem push_back {W w1 : World} {base b0 s0 g n cap : Nat} {os : List BodyK} {j : Nat} {oki : Nat → Prop} {ve v1 : Value} {l : List NodeK} (hj : j < n) (hb0 : b0 < s0)
  (hH : Kd.H k110 110 W base (fun k => b0 < k ∧ k < s0) (.slice (some ⟨g, 0, none⟩) n cap) os (j : Int) oki [ve]) (hg : W.grownBy w1 ve.ownBlock) (hve : ∀ k, ve.ownBlock = some k → oki k)
  (hR : Kd.R k112 112 w1 base (fun k => oki k ∨ s0 ≤ k) v1 l) :
  Kd.S k110 110 (w1.setCell ⟨g, j, none⟩ v1) base (fun k => b0 < k) (.slice (some ⟨g, 0, none⟩) n cap) (os.set j ⟨l⟩) ∧ w1.grownBy (w1.setCell ⟨g, j, none⟩ v1) (some g) := by
 have h1 : Kd.H k110 110 W base (fun k => b0 < k ∧ ¬ s0 ≤ k) (.slice (some ⟨g, 0, none⟩) n cap) os (j : Int) oki [ve] := Kd.H_mono hH (fun k hk => ⟨hk.1, by omega⟩)
 have h2 := Kd.H_more (ok := fun k => b0 < k) (okg := fun k => s0 ≤ k) h1 (fun k hk => by show b0 < k; omega)
 have h3 := Kd.H_grown h2 hg (fun k hk => .inl (hve k hk))
 have h4 := Kd.S_seg0 h3 (by omega) (by omega) (seg := [v1]) (j := 0) (Nat.le_refl 1) (x' := (⟨l⟩ : BodyK)) (okp := fun k => oki k ∨ s0 ≤ k) (k110_mkM _ _ _ _ hR) (fun _ hk => hk)
 rw [Int.toNat_natCast] at h4
 simpa [show (k110).sz = 1 from rfl, World.setCells] using h4
theorem out_form {w : World} {base n : Nat} {v : Value} {z : BodyK} {ok : Nat → Prop} (h : Kd.S k110 110 w base ok v (List.replicate n z)) {N : Nat} (hb : ∃ b, v.ownBlock = some b ∧ N ≤ b) : ∃ g c, v = .slice (some ⟨g, 0, none⟩) n c ∧ Aside0 (N ≤ g) := by
 obtain ⟨A, c, e⟩ := Kd.S_slice h
 rw [List.length_replicate] at e
 subst e
 obtain ⟨b, hb, hN⟩ := hb
 cases A with
 | none => simp [Value.ownBlock] at hb
 | some a =>
  obtain ⟨g, rfl⟩ := Kd.R_head (Kd.S_R h)
  have : g = b := by simpa [Value.ownBlock] using hb
  exact ⟨g, c, rfl, ⟨by omega⟩⟩
structure KidsP (W1 w' : World) (vk : Value) (g8 : Nat) (kids : List BodyK) : Prop where
 below : Below W1.heap.size W1 w'
 node : w'.heap[g8]? = some (.cells #[.string ⟨#[]⟩, .string ⟨#[]⟩, .slice none 0 0, .bool false, .bool false, .slice none 0 0] 112 (0, 0))
 old : W1.heap.size ≤ g8
 rows : Kd.R k110 110 w' W1.heap.size (fun k => k ≠ g8) vk kids
theorem kids_after {W1 w2 : World} {vk : Value} {kids : List BodyK} (hb : Below W1.drew.heap.size W1.drew w2) (hk : Kd.R k110 110 w2 W1.drew.heap.size (fun _ => True) vk kids) :
  KidsP W1 (w2.alloc (.cells #[.string ⟨#[]⟩, .string ⟨#[]⟩, .slice none 0 0, .bool false, .bool false, .slice none 0 0] 112)) vk w2.heap.size kids where
 below := ((below_drew (Below.refl W1.heap.size W1)).trans hb).alloc hb.size _
 node := blk_new _ _
 old := hb.size
 rows := Kd.R_alloc (Kd.R_mono (Kd.R_bound hk) (fun k hk => by have := hk.2.2.1; omega)) _
theorem kids_ahead {W1 w2 : World} {vk : Value} {kids : List BodyK} (hb : Below (W1.alloc (.cells #[.string ⟨#[]⟩, .string ⟨#[]⟩, .slice none 0 0, .bool false, .bool false, .slice none 0 0] 112)).drew.heap.size (W1.alloc (.cells #[.string ⟨#[]⟩, .string ⟨#[]⟩, .slice none 0 0, .bool false, .bool false, .slice none 0 0] 112)).drew w2)
  (hk : Kd.R k110 110 w2 (W1.alloc (.cells #[.string ⟨#[]⟩, .string ⟨#[]⟩, .slice none 0 0, .bool false, .bool false, .slice none 0 0] 112)).drew.heap.size (fun _ => True) vk kids) : KidsP W1 w2 vk W1.heap.size kids where
 below := (below_drew ((Below.refl W1.heap.size W1).alloc (Nat.le_refl _) _)).trans (hb.mono (by simp))
 node := blk_below (blk_drew (blk_new W1 _)) hb
 old := Nat.le_refl _
 rows := Kd.R_lower (Kd.R_mono (Kd.R_bound hk) (fun k hk => by have h1 := hk.2.1; simp at h1; omega)) (by simp)
structure NodeP (W1 W7 : World) (N g8 : Nat) (vk : Value) (kids : List BodyK) (nm un : ByteArray) (va : Value) (sb vi : Bool) : Prop where
 below : Below W1.heap.size W1 W7
 node : W7.heap[g8]? = some (.cells #[.string nm, .string un, va, .bool sb, .bool vi, vk] 112 (0, 0))
 old : W1.heap.size ≤ g8
 lt : g8 < N
 size : N ≤ W7.heap.size
 rows : Kd.R k110 110 W7 W1.heap.size (fun k => k ≠ g8 ∧ k < N) vk kids
theorem node_stored {W1 W6 : World} {vk : Value} {g8 : Nat} {kids : List BodyK} (h : KidsP W1 W6 vk g8 kids) (nm un : ByteArray) (sb vi : Bool) :
  NodeP W1 ((((((W6.setCell ⟨g8, 0, none⟩ (.string nm)).setCell ⟨g8, 1, none⟩ (.string un)).setCell ⟨g8, 2, none⟩ (.slice none 0 0)).setCell ⟨g8, 3, none⟩ (.bool sb)).setCell ⟨g8, 4, none⟩ (.bool vi)).setCell ⟨g8, 5, none⟩ vk) W6.heap.size g8 vk kids nm un (.slice none 0 0) sb vi where
 below := (((((h.below.setCell (p := ⟨g8, 0, none⟩) h.old _).setCell (p := ⟨g8, 1, none⟩) h.old _).setCell (p := ⟨g8, 2, none⟩) h.old _).setCell (p := ⟨g8, 3, none⟩) h.old _).setCell (p := ⟨g8, 4, none⟩) h.old _).setCell (p := ⟨g8, 5, none⟩) h.old _
 node := blk_put (blk_put (blk_put (blk_put (blk_put (blk_put h.node 0 _ rfl) 1 _ rfl) 2 _ rfl) 3 _ rfl) 4 _ rfl) 5 _ rfl
 old := h.old
 lt := blk_lt h.node
 size := by simp [World.setCell]
 rows := by
  have hk : ∀ (W : World) (i : Nat) (u : Value), Kd.R k110 110 W W1.heap.size (fun k => k ≠ g8 ∧ k < W6.heap.size) vk kids → Kd.R k110 110 (W.setCell ⟨g8, i, none⟩ u) W1.heap.size (fun k => k ≠ g8 ∧ k < W6.heap.size) vk kids := fun W i u hh => Kd.R_far (p := ⟨g8, i, none⟩) hh (fun _ hk => hk.1) u
  exact hk _ _ _ (hk _ _ _ (hk _ _ _ (hk _ _ _ (hk _ _ _ (hk _ _ _ (Kd.R_mono (Kd.R_bound h.rows) (fun _ hk => ⟨hk.1, hk.2.2.1⟩)))))))
theorem node_step {W1 W Wd w1 : World} {N g8 : Nat} {vk va v1 : Value} {kids : List BodyK} {nm un : ByteArray} {sb vi : Bool} (h : NodeP W1 W N g8 vk kids nm un va sb vi) (hd : Below W.heap.size W Wd) (hb : Below N Wd w1) :
  NodeP W1 (w1.setCell ⟨g8, 2, none⟩ v1) N g8 vk kids nm un v1 sb vi where
 below := (((h.below.trans (hd.mono h.below.size)).trans (hb.mono (Nat.le_trans h.old (Nat.le_of_lt h.lt))))).setCell (p := ⟨g8, 2, none⟩) h.old _
 node := blk_put ((hb.block g8 h.lt).trans (blk_below h.node hd)) 2 _ rfl
 old := h.old
 lt := h.lt
 size := by have h1 := hb.size; have h2 := hd.size; have h3 := h.size; simp [World.setCell]; omega
 rows := Kd.R_far (p := ⟨g8, 2, none⟩) (Kd.R_step (Kd.R_below h.rows hd) (fun k hk _ => hb.block k hk.2)) (fun _ hk => hk.1) _
theorem cell_al {W : World} {a : Addr} {v : Value} {o : Obj} (h : W.cell? a = some v) : (W.alloc o).cell? a = some v := (World.cell?_alloc_lt _ _ _ (World.block_lt_of_cell? W a h)).trans h
theorem frozen_grown {W w1 : World} {row : Option Nat} (hg : W.grownBy w1 row) {a : Addr} {v : Value} (h : W.cell? a = some v) (hf : W.frozen? a = false) (hne : some a.block ≠ row) : w1.frozen? a = false := by
 have := hg.block a.block (World.block_lt_of_cell? W a h) hne
 simpa [World.frozen?, this] using hf
theorem node_made {W1 W : World} {N g8 : Nat} {vk va : Value} {kids : List BodyK} {nms : List ByteArray} {nm un : ByteArray} {sb vi : Bool} {base : Nat} (h : NodeP W1 W N g8 vk kids nm un va sb vi) (ha : Kd.R Kd.string 9 W N (fun k => k ≠ g8) va nms) (hb : base ≤ W1.heap.size) :
  (k112).M W.drew base (fun k => W1.heap.size ≤ k) ⟨nm, un, nms, sb, vi, kids⟩ [.string nm, .string un, va, .bool sb, .bool vi, vk] := by
 have h1 := h.old
 have h2 := h.lt
 refine k112_mkM _ _ _ _ (Kd.R_drew (Kd.R_mono (Kd.R_bound (Kd.R_lower (Kd.R_mono (Kd.R_bound ha) (fun k hk => (⟨hk.1, hk.2.1⟩ : k ≠ g8 ∧ N ≤ k))) (by omega))) (fun k hk => by have := hk.1.2; omega))) (Kd.R_drew (Kd.R_mono (Kd.R_bound (Kd.R_lower (Kd.R_mono (Kd.R_bound h.rows) (fun k hk => hk.2.1)) hb)) (fun k hk => hk.1)))
def BodiesP (p : List ItemK) (d i : Nat) (w : World) (e : Ending) (w' : World) : Prop := Below w.heap.size w w' ∧ ∃ v, e = .returned v ∧ Kd.R k110 110 w' w.heap.size (fun _ => True) v (bodiesF p d i)
set_option maxHeartbeats 16000000 in
set_option maxRecDepth 100000 in
theorem planBodies_walk (p : List ItemK) (hsh : shapedB p = true) (hbig : ∀ x ∈ p, x.f7.length ≤ 1000000) (d : Nat) : ∀ (A : Option Addr) (c : Nat) (i : Nat) (w : World), Kd.C k39 w A p.length p → p.length ≤ c → i < p.length → p.length ≤ i + d →
  Calls Tryz.prog 136 #[.agg #[.slice A p.length c], .int .i64 i] w (BodiesP p d i w) := by
 induction d with
 | zero => intro A c i w _ _ h1 h2; omega
 | succ d ih =>
  intro A c i w hC hc hi hd
  have IH := Aside0.mk ih
  have HC := Aside0.mk hC
  have HM := Aside0.mk (shaped_len hsh)
  have HSH := Aside0.mk hsh
  have HG0 := Aside0.mk (blk_new w (.cells #[.slice A p.length c] 24 (0, 0)))
  have HB0 := Aside0.mk ((Below.refl w.heap.size w).alloc (Nat.le_refl _) (.cells #[.slice A p.length c] 24 (0, 0)))
  have HBIG := Aside0.mk hbig
  obtain ⟨ad, A7, c7, e0, z0, z1, z2, z3, z4, z5, z6, z7, l7, g7⟩ := at_T39 (Kd.C_below HC.out HB0.out) (i : Int) (by omega) (by omega)
  subst e0
  clear z0 z1 z2 z3 z5 z6 z7 l7 g7 ih hC hsh hbig
  obtain ⟨pi, hpi⟩ : ∃ x, rd_T39 p (i : Int) = x := ⟨_, rfl⟩
  have HPI := Aside0.mk hpi
  rw [hpi] at z4
  clear hpi
  have h0i : (0 : Int) ≤ (i : Int) := by omega
  have hii : (i : Int) < (p.length : Int) := by omega
  rw [Int.toNat_natCast] at z4
  have hit : itemB p i pi = true := by
   have := shaped_at HSH.out hi
   rwa [← show rd_T39 p (i : Int) = p[i] from by unfold rd_T39; rw [Int.toNat_natCast, List.getD_eq_getElem?_getD, List.getElem?_eq_getElem hi]; rfl, HPI.out] at this
  obtain ⟨ha0, ha4, _⟩ := itemB_alts hit
  clear hit
  have HA0 := Aside0.mk ha0
  have HA4 := Aside0.mk ha4
  go_enter Tryz.func136, Tryz.ntmps136
  go_wp2_with ((with_reducible refine gate_dst (N := 17) rfl ?_); refine Kd.S_make k110 (w0 := w) w.heap.size 110 rfl (N := 17) rfl 52 _ _ rfl pi.f4 rfl rfl Tryz.underlying52 (.agg #[.slice none 0 0]) 24 info110 rfl (by decide) (by omega) (⟨[]⟩ : BodyK) (ok := fun k => w.heap.size < k) (okp := fun k => w.heap.size < k) ⟨_, rfl, Kd.R_nil _ _ _ _ _⟩ (fun _ hk => hk) (by simp) HA0.out (by have := HA4.out; omega) HB0.out (by simp) ?_; intro vO wO hO hb hg hbk; obtain ⟨gO, cO, rfl, HbO⟩ := out_form hO hbk; have HO := Aside0.mk hO; have HBO := Aside0.mk hb; have HGO := Aside0.mk ((hg.block _ (blk_lt HG0.out) (by simp)).trans HG0.out); have x0 : wO.cell? ⟨w.heap.size, 0, none⟩ = some (.slice (some ad) p.length c) := (blk_cell HGO.out 0).trans rfl; clear hO hb hg hbk z4)
  have HbO' := Aside0.mk HbO
  obtain ⟨na, hna⟩ : ∃ n, pi.f4.toNat = n := ⟨_, rfl⟩
  have HNA := Aside0.mk hna
  rw [hna] at HO ⊢
  clear hna
  clear HbO
  go_loopg [21] p.length (fun kq v21 w' => ∃ (j : Nat) (os : List BodyK), j + kq = p.length ∧ v21 = .int .i64 j ∧ Aside0 (os.length = na) ∧ Aside0 (∀ b ∈ os, b.f0.length ≤ j) ∧ Aside0 (bodiesF p (d + 1) i = addL p i (fun j => bodiesF p d j) j (p.drop j) os) ∧ Aside0 (Kd.S k110 110 w' w.heap.size (fun k => w.heap.size < k) (.slice (some ⟨gO, 0, none⟩) na cO) os) ∧ Aside0 (w'.heap[w.heap.size]? = some (.cells #[.slice (some ad) p.length c] 24 (0, 0))) ∧ Aside0 (Below w.heap.size w w'))
  case atStart => exact ⟨0, _, by omega, rfl, ⟨by simp⟩, ⟨by intro b hb; rw [List.eq_of_mem_replicate hb]; simp⟩, ⟨by rw [← HNA.out, ← HPI.out]; rfl⟩, HO, HGO, HBO⟩
  case round =>
   obtain ⟨wo, hwo⟩ : ∃ x, x = wr := ⟨_, rfl⟩
   subst hwo
   obtain ⟨j, os, hj, rfl, HOL, HON, HI, HS, HG, HB⟩ := hrel
   cases gk with
   | zero =>
    obtain rfl : j = p.length := by omega
    have HE : Aside0 (bodiesF p (d + 1) i = os) := ⟨by rw [HI.out, List.drop_eq_nil_of_le (Nat.le_refl _)]; rfl⟩
    go_wp2
    go_ret
    refine ⟨HB.out, _, rfl, ?_⟩
    rw [HE.out]
    exact Kd.R_mono (Kd.S_R HS.out) (fun _ _ => trivial)
   | succ k =>
    have hlt : j < p.length := by omega
    obtain ⟨ad', A8, c8, e0, x0, x1, x2, x3, x4, x5, x6, x7, l7, g7⟩ := at_T39 (Kd.C_below HC.out HB.out) (j : Int) (by omega) (by omega)
    obtain rfl := Option.some.inj e0
    rw [Int.toNat_natCast] at x0 x1 x2 x3 x4 x5 x6 x7
    have hrd : rd_T39 p (j : Int) = p[j] := by unfold rd_T39; rw [Int.toNat_natCast, List.getD_eq_getElem?_getD, List.getElem?_eq_getElem hlt]; rfl
    rw [hrd] at x0 x1 x2 x3 x4 x5 x6 x7 l7 g7
    obtain ⟨x, hx⟩ : ∃ x, p[j] = x := ⟨_, rfl⟩
    rw [hx] at x0 x1 x2 x3 x4 x5 x6 x7 l7 g7
    have HIT : Aside0 (itemB p j x = true) := ⟨by have := shaped_at HSH.out hlt; rwa [hx] at this⟩
    have HXB : Aside0 (x.f7.length ≤ 1000000) := ⟨by have := HBIG.out p[j] (List.getElem_mem hlt); rwa [hx] at this⟩
    have HD : Aside0 (addL p i (fun j => bodiesF p d j) j (p.drop j) os = addL p i (fun j => bodiesF p d j) (j + 1) (p.drop (j + 1)) (if j = 0 ∨ x.f5 ≠ (i : Int) then os else setNode os x.f6.toNat (nodeOf p x (bodiesF p d j)))) := ⟨by rw [List.drop_eq_getElem_cons hlt, hx]; rfl⟩
    have hlt' : (j : Int) < (p.length : Int) := by omega
    have h0 : (0 : Int) ≤ j := by omega
    have HJ := Aside0.mk hj
    have HJL := Aside0.mk hlt
    have HX := Aside0.mk (blk_new wo (.cells #[.string x.f0, .string x.f1, .bool x.f2, .bool x.f3, .int .i64 x.f4, .int .i64 x.f5, .int .i64 x.f6, .slice A8 x.f7.length c8] 39 (0, 0)))
    have HGX := Aside0.mk (blk_alloc HG.out (.cells #[.string x.f0, .string x.f1, .bool x.f2, .bool x.f3, .int .i64 x.f4, .int .i64 x.f5, .int .i64 x.f6, .slice A8 x.f7.length c8] 39 (0, 0)))
    have HBX := Aside0.mk (HB.out.alloc HB.out.size (.cells #[.string x.f0, .string x.f1, .bool x.f2, .bool x.f3, .int .i64 x.f4, .int .i64 x.f5, .int .i64 x.f6, .slice A8 x.f7.length c8] 39 (0, 0)))
    have HSX := Aside0.mk (Kd.S_alloc HS.out (.cells #[.string x.f0, .string x.f1, .bool x.f2, .bool x.f3, .int .i64 x.f4, .int .i64 x.f5, .int .i64 x.f6, .slice A8 x.f7.length c8] 39 (0, 0)))
    have HF7 := Aside0.mk (Kd.C_alloc g7 (.cells #[.string x.f0, .string x.f1, .bool x.f2, .bool x.f3, .int .i64 x.f4, .int .i64 x.f5, .int .i64 x.f6, .slice A8 x.f7.length c8] 39 (0, 0)))
    have HL7 := Aside0.mk l7
    have HX0 := Aside0.mk hx
    have HNX : Aside0 (Value.int .i64 (wrap64 ((j : Int) + 1)) = .int .i64 ((j + 1 : Nat) : Int)) := ⟨by rw [show wrap64 ((j : Int) + 1) = ((j + 1 : Nat) : Int) from by unfold wrap64; have := HM.out.2; omega]⟩
    clear hx hrd hj g7 l7
    by_cases hz : j = 0
    ·have hz1 : ((j : Int) == 0) = true := by simp [hz]
     have hz2 : decide ((j : Int) = 0) = true := decide_eq_true (by omega)
     have hz3 : decide (j = 0) = true := decide_eq_true hz
     have hz4 : (j == 0) = true := by simp [hz]
     have HZ := Aside0.mk hz
     clear hz
     go_wp2
     go_roundg k
     case measure => omega
     case rel => exact ⟨j + 1, os, by have := HJ.out; omega, by first | exact HNX.out | go_num, HOL, ⟨fun b hb => Nat.le_succ_of_le (HON.out b hb)⟩, ⟨by rw [HI.out, HD.out, if_pos (Or.inl HZ.out)]⟩, HSX, HGX, HBX⟩
    ·have hz1 : ((j : Int) == 0) = false := by simpa using hz
     have hz2 : decide ((j : Int) = 0) = false := decide_eq_false (by omega)
     have hz3 : decide (j = 0) = false := decide_eq_false hz
     have hz4 : (j == 0) = false := by simpa using hz
     have HZ := Aside0.mk hz
     by_cases h5 : x.f5 = (i : Int)
     ·have h51 : (x.f5 != (i : Int)) = false := by simp [h5]
      have h52 : decide (x.f5 = (i : Int)) = true := decide_eq_true h5
      have h53 : (x.f5 == (i : Int)) = true := by simp [h5]
      have H5 := Aside0.mk h5
      clear h5 hz
      go_wp2
      have HC1 := Aside0.mk (Kd.C_below HC.out HBX.out)
      have HLC := Aside0.mk hc
      obtain ⟨kids, hkids⟩ : ∃ l, bodiesF p d j = l := ⟨_, rfl⟩
      have HKI := Aside0.mk hkids
      clear hkids
      have HJD : Aside0 (p.length ≤ j + d) := ⟨by have h1 := (itemB_in HIT.out HZ.out).2.1; have h2 := H5.out; omega⟩
      have HSZ : Aside0 ((wo.alloc (.cells #[.string x.f0, .string x.f1, .bool x.f2, .bool x.f3, .int .i64 x.f4, .int .i64 x.f5, .int .i64 x.f6, .slice A8 x.f7.length c8] 39)).heap.size = wo.heap.size + 1) := ⟨by simp⟩
      generalize wo.alloc (.cells #[.string x.f0, .string x.f1, .bool x.f2, .bool x.f3, .int .i64 x.f4, .int .i64 x.f5, .int .i64 x.f6, .slice A8 x.f7.length c8] 39) = W1 at HX HGX HBX HSX HF7 HC1 HSZ ⊢
      --MARK6
      refine start_ (n := 14) (S := fun w' => w'.cell? ⟨wo.heap.size, 0, none⟩ = some (.string x.f0) ∧ w'.cell? ⟨wo.heap.size, 1, none⟩ = some (.string x.f1) ∧ w'.cell? ⟨wo.heap.size, 2, none⟩ = some (.bool x.f2) ∧ w'.cell? ⟨wo.heap.size, 3, none⟩ = some (.bool x.f3) ∧ w'.cell? ⟨w.heap.size, 0, none⟩ = some (.slice (some ad) p.length c)) (ds := [13]) #[false, false, false, false, false, false, false, false, false, false, false, false, false, false] (by kernel_rfl) rfl rfl ⟨((blk_cell (blk_drew HX.out) 0).trans rfl), ((blk_cell (blk_drew HX.out) 1).trans rfl), ((blk_cell (blk_drew HX.out) 2).trans rfl), ((blk_cell (blk_drew HX.out) 3).trans rfl), ((blk_cell (blk_drew HGX.out) 0).trans rfl)⟩ (fun hHeld => ?_)
      refine pure_ (i := 0) (N := some 34) (v := ?_) (a' := ?_) #[true, false, false, false, false, false, false, false, false, false, false, false, false, false] rfl rfl (by kernel_rfl) (fun _ _ _ h => h) (Or.inl ⟨by rfl, ?_⟩) ?_ ?_
      rotate_left
      ·intro w'
       go_simp
       with_reducible rfl
      rotate_left
      ·simp only [Act.put, List.setIfInBounds_toArray, List.set_cons_zero, List.set_cons_succ, i64_w, i32_w]
       rfl
      refine pure_ (i := 2) (N := some 36) (v := ?_) (a' := ?_) #[true, false, true, false, false, false, false, false, false, false, false, false, false, false] rfl rfl (by kernel_rfl) (fun _ _ _ h => h) (Or.inl ⟨by rfl, ?_⟩) ?_ ?_
      rotate_left
      ·intro w'
       go_simp
       with_reducible rfl
      rotate_left
      ·simp only [Act.put, List.setIfInBounds_toArray, List.set_cons_zero, List.set_cons_succ, i64_w, i32_w]
       rfl
      refine pure_ (i := 4) (N := some 38) (v := ?_) (a' := ?_) #[true, false, true, false, true, false, false, false, false, false, false, false, false, false] rfl rfl (by kernel_rfl) (fun _ _ _ h => h) (Or.inl ⟨by rfl, ?_⟩) ?_ ?_
      rotate_left
      ·intro w'
       go_simp
       with_reducible rfl
      rotate_left
      ·simp only [Act.put, List.setIfInBounds_toArray, List.set_cons_zero, List.set_cons_succ, i64_w, i32_w]
       rfl
      refine pure_ (i := 6) (N := some 40) (v := ?_) (a' := ?_) #[true, false, true, false, true, false, true, false, false, false, false, false, false, false] rfl rfl (by kernel_rfl) (fun _ _ _ h => h) (Or.inl ⟨by rfl, ?_⟩) ?_ ?_
      rotate_left
      ·intro w'
       go_simp
       with_reducible rfl
      rotate_left
      ·simp only [Act.put, List.setIfInBounds_toArray, List.set_cons_zero, List.set_cons_succ, i64_w, i32_w]
       rfl
      refine pure_ (i := 9) (N := some 43) (v := ?_) (a' := ?_) #[true, false, true, false, true, false, true, false, false, true, false, false, false, false] rfl rfl (by kernel_rfl) (fun _ _ _ h => h) (Or.inl ⟨by rfl, ?_⟩) ?_ ?_
      rotate_left
      ·intro w'
       go_simp
       with_reducible rfl
      rotate_left
      ·simp only [Act.put, List.setIfInBounds_toArray, List.set_cons_zero, List.set_cons_succ, i64_w, i32_w]
       rfl
      refine take_ (i := 1) (N := some 35) (v := ?_) (a' := ?_) #[true, true, true, false, true, false, true, false, false, true, false, false, false, false] rfl rfl (by kernel_rfl) (fun _ _ _ h => h) (Or.inl ⟨by rfl, ?_⟩) hHeld ?_ ?_
      rotate_left
      ·rintro w' ⟨s0, s1, s2, s3, s4⟩
       go_simp
       with_reducible rfl
      rotate_left
      ·simp only [Act.put, List.setIfInBounds_toArray, List.set_cons_zero, List.set_cons_succ, i64_w, i32_w]
       rfl
      refine take_ (i := 3) (N := some 37) (v := ?_) (a' := ?_) #[true, true, true, true, true, false, true, false, false, true, false, false, false, false] rfl rfl (by kernel_rfl) (fun _ _ _ h => h) (Or.inl ⟨by rfl, ?_⟩) hHeld ?_ ?_
      rotate_left
      ·rintro w' ⟨s0, s1, s2, s3, s4⟩
       go_simp
       with_reducible rfl
      rotate_left
      ·simp only [Act.put, List.setIfInBounds_toArray, List.set_cons_zero, List.set_cons_succ, i64_w, i32_w]
       rfl
      refine take_ (i := 5) (N := some 39) (v := ?_) (a' := ?_) #[true, true, true, true, true, true, true, false, false, true, false, false, false, false] rfl rfl (by kernel_rfl) (fun _ _ _ h => h) (Or.inl ⟨by rfl, ?_⟩) hHeld ?_ ?_
      rotate_left
      ·rintro w' ⟨s0, s1, s2, s3, s4⟩
       go_simp
       with_reducible rfl
      rotate_left
      ·simp only [Act.put, List.setIfInBounds_toArray, List.set_cons_zero, List.set_cons_succ, i64_w, i32_w]
       rfl
      refine take_ (i := 7) (N := some 41) (v := ?_) (a' := ?_) #[true, true, true, true, true, true, true, true, false, true, false, false, false, false] rfl rfl (by kernel_rfl) (fun _ _ _ h => h) (Or.inl ⟨by rfl, ?_⟩) hHeld ?_ ?_
      rotate_left
      ·rintro w' ⟨s0, s1, s2, s3, s4⟩
       go_simp
       with_reducible rfl
      rotate_left
      ·simp only [Act.put, List.setIfInBounds_toArray, List.set_cons_zero, List.set_cons_succ, i64_w, i32_w]
       rfl
      refine take_ (i := 8) (N := some 42) (v := ?_) (a' := ?_) #[true, true, true, true, true, true, true, true, true, true, false, false, false, false] rfl rfl (by kernel_rfl) (fun _ _ _ h => h) (Or.inl ⟨by rfl, ?_⟩) hHeld ?_ ?_
      rotate_left
      ·rintro w' ⟨s0, s1, s2, s3, s4⟩
       go_simp
       with_reducible rfl
      rotate_left
      ·simp only [Act.put, List.setIfInBounds_toArray, List.set_cons_zero, List.set_cons_succ, i64_w, i32_w]
       rfl
      refine join_ (σ := Option Addr × Nat × Nat) 1 #[true, true, true, true, true, true, true, true, true, true, true, true, true, false] (fun s => [(44, .slice s.1 kids.length s.2.1), (8, .pointer (some ⟨s.2.2, 0, none⟩)), (45, .agg #[.string x.f0, .string x.f1, .slice none 0 0, .bool x.f2, .bool x.f3, .slice s.1 kids.length s.2.1])]) (fun s w' => KidsP W1 w' (.slice s.1 kids.length s.2.1) s.2.2 kids) ?_ ?_
      rotate_left
      ·intro hCont
       refine two_ (i := 10) (j := 12) (Ni := some 44) (Nj := some 8) #[true, true, true, true, true, true, true, true, true, true, true, false, false, false] #[true, true, true, true, true, true, true, true, true, true, false, false, true, false] rfl rfl rfl rfl (by kernel_rfl) (by decide) (by decide) (fun K hK => ?_) (fun K hK => ?_)
       ·skip
        refine goes_ Tryz.func136 (by kernel_rfl) rfl #[.agg #[.slice (some ad) p.length c], .int .i64 j] (by rfl) rfl rfl (by first | rfl | (simp only [List.map_toArray, List.map_cons, List.map_nil]; rfl)) ?_
        with_reducible refine ((IH.out (some ad) c j W1.drew (Kd.C_drew HC1.out) HLC.out HJL.out HJD.out)).mono ?_
        rintro e w2 ⟨hb, vk, rfl, hK2⟩
        refine ⟨_, rfl, ?_⟩
        rw [HKI.out] at hK2
        obtain ⟨Ak, ck, rfl⟩ := Kd.R_slice hK2
        have HBK := Aside0.mk hb
        have HK2 := Aside0.mk hK2
        clear hb hK2
        refine hK.out _ _ ⟨((blk_cell (blk_below (blk_drew HX.out) HBK.out) 0).trans rfl), ((blk_cell (blk_below (blk_drew HX.out) HBK.out) 1).trans rfl), ((blk_cell (blk_below (blk_drew HX.out) HBK.out) 2).trans rfl), ((blk_cell (blk_below (blk_drew HX.out) HBK.out) 3).trans rfl), ((blk_cell (blk_below (blk_drew HGX.out) HBK.out) 0).trans rfl)⟩ (fun hHeld => ?_)
        clear hK K
        refine norm_ (a' := ?_) ?_ ?_
        rotate_left
        ·show Act.put _ (some 44) _ = _
         simp only [Act.put, List.setIfInBounds_toArray, List.set_cons_zero, List.set_cons_succ, i64_w, i32_w]
         rfl
        refine pure_ (i := 11) (N := some 45) (v := ?_) (a' := ?_) #[true, true, true, true, true, true, true, true, true, true, true, true, false, false] rfl rfl (by kernel_rfl) (fun _ _ _ h => h) (Or.inl ⟨by rfl, ?_⟩) ?_ ?_
        rotate_left
        ·intro w'
         go_simp
         with_reducible rfl
        rotate_left
        ·simp only [Act.put, List.setIfInBounds_toArray, List.set_cons_zero, List.set_cons_succ, i64_w, i32_w]
         rfl
        refine one_ (i := 12) (N := some 8) #[true, true, true, true, true, true, true, true, true, true, true, true, true, false] rfl rfl (by kernel_rfl) (by decide) (fun K hK => ?_)
        refine value_ (w1 := ?_) (v := ?_) (by rfl) rfl ?_ ?_
        rotate_left 2
        ·go_simp
         constructor
         ·rfl
         ·rfl
        refine hK.out _ _ ⟨((blk_cell (blk_alloc (blk_below (blk_drew HX.out) HBK.out) _) 0).trans rfl), ((blk_cell (blk_alloc (blk_below (blk_drew HX.out) HBK.out) _) 1).trans rfl), ((blk_cell (blk_alloc (blk_below (blk_drew HX.out) HBK.out) _) 2).trans rfl), ((blk_cell (blk_alloc (blk_below (blk_drew HX.out) HBK.out) _) 3).trans rfl), ((blk_cell (blk_alloc (blk_below (blk_drew HGX.out) HBK.out) _) 0).trans rfl)⟩ (fun hHeld => ?_)
        clear hK K
        refine norm_ (a' := ?_) ?_ ?_
        rotate_left
        ·show Act.put _ (some 8) _ = _
         simp only [Act.put, List.setIfInBounds_toArray, List.set_cons_zero, List.set_cons_succ, i64_w, i32_w]
         rfl
        exact norm_ (by simp only [putAll, Act.put, List.setIfInBounds_toArray, List.set_cons_zero, List.set_cons_succ]) (hCont (Ak, ck, w2.heap.size) _ (kids_after HBK.out HK2.out))
       ·skip
        refine value_ (w1 := ?_) (v := ?_) (by rfl) rfl ?_ ?_
        rotate_left 2
        ·go_simp
         constructor
         ·rfl
         ·rfl
        refine hK.out _ _ ⟨((blk_cell (blk_drew (blk_alloc HX.out _)) 0).trans rfl), ((blk_cell (blk_drew (blk_alloc HX.out _)) 1).trans rfl), ((blk_cell (blk_drew (blk_alloc HX.out _)) 2).trans rfl), ((blk_cell (blk_drew (blk_alloc HX.out _)) 3).trans rfl), ((blk_cell (blk_drew (blk_alloc HGX.out _)) 0).trans rfl)⟩ (fun hHeld => ?_)
        clear hK K
        refine norm_ (a' := ?_) ?_ ?_
        rotate_left
        ·show Act.put _ (some 8) _ = _
         simp only [Act.put, List.setIfInBounds_toArray, List.set_cons_zero, List.set_cons_succ, i64_w, i32_w]
         rfl
        refine one_ (i := 10) (N := some 44) #[true, true, true, true, true, true, true, true, true, true, true, false, true, false] rfl rfl (by kernel_rfl) (by decide) (fun K hK => ?_)
        refine goes_ Tryz.func136 (by kernel_rfl) rfl #[.agg #[.slice (some ad) p.length c], .int .i64 j] (by rfl) rfl rfl (by first | rfl | (simp only [List.map_toArray, List.map_cons, List.map_nil]; rfl)) ?_
        with_reducible refine ((IH.out (some ad) c j _ (Kd.C_drew (Kd.C_alloc HC1.out _)) HLC.out HJL.out HJD.out)).mono ?_
        rintro e w2 ⟨hb, vk, rfl, hK2⟩
        refine ⟨_, rfl, ?_⟩
        rw [HKI.out] at hK2
        obtain ⟨Ak, ck, rfl⟩ := Kd.R_slice hK2
        have HBK := Aside0.mk hb
        have HK2 := Aside0.mk hK2
        clear hb hK2
        refine hK.out _ _ ⟨((blk_cell (blk_below (blk_drew (blk_alloc HX.out _)) HBK.out) 0).trans rfl), ((blk_cell (blk_below (blk_drew (blk_alloc HX.out _)) HBK.out) 1).trans rfl), ((blk_cell (blk_below (blk_drew (blk_alloc HX.out _)) HBK.out) 2).trans rfl), ((blk_cell (blk_below (blk_drew (blk_alloc HX.out _)) HBK.out) 3).trans rfl), ((blk_cell (blk_below (blk_drew (blk_alloc HGX.out _)) HBK.out) 0).trans rfl)⟩ (fun hHeld => ?_)
        clear hK K
        refine norm_ (a' := ?_) ?_ ?_
        rotate_left
        ·show Act.put _ (some 44) _ = _
         simp only [Act.put, List.setIfInBounds_toArray, List.set_cons_zero, List.set_cons_succ, i64_w, i32_w]
         rfl
        refine pure_ (i := 11) (N := some 45) (v := ?_) (a' := ?_) #[true, true, true, true, true, true, true, true, true, true, true, true, true, false] rfl rfl (by kernel_rfl) (fun _ _ _ h => h) (Or.inl ⟨by rfl, ?_⟩) ?_ ?_
        rotate_left
        ·intro w'
         go_simp
         with_reducible rfl
        rotate_left
        ·simp only [Act.put, List.setIfInBounds_toArray, List.set_cons_zero, List.set_cons_succ, i64_w, i32_w]
         rfl
        exact norm_ (by simp only [putAll, Act.put, List.setIfInBounds_toArray, List.set_cons_zero, List.set_cons_succ]) (hCont (Ak, ck, W1.heap.size) _ (kids_ahead HBK.out HK2.out))
      rintro ⟨Ak, ck, g8⟩ W6 HF6
      have HKP := Aside0.mk HF6
      have q0 := (blk_cell HF6.node 0).trans rfl
      have q1 := (blk_cell HF6.node 1).trans rfl
      have q2 := (blk_cell HF6.node 2).trans rfl
      have q3 := (blk_cell HF6.node 3).trans rfl
      have q4 := (blk_cell HF6.node 4).trans rfl
      have q5 := (blk_cell HF6.node 5).trans rfl
      have y0 := blk_frozen HF6.node 0
      have y1 := blk_frozen HF6.node 1
      have y2 := blk_frozen HF6.node 2
      have y3 := blk_frozen HF6.node 3
      have y4 := blk_frozen HF6.node 4
      have y5 := blk_frozen HF6.node 5
      clear HF6
      refine norm_ (a' := ?_) ?_ ?_
      rotate_left
      ·simp only [putAll, Act.put, List.setIfInBounds_toArray, List.set_cons_zero, List.set_cons_succ]
       rfl
      refine last_ (i := 13) (N := none) #[true, true, true, true, true, true, true, true, true, true, true, true, true, true] rfl rfl (by kernel_rfl) (by decide) (fun K hK => ?_)
      refine skip_ (w1 := ?_) (by rfl) rfl ?_ ?_
      rotate_left
      ·go_simp
       rfl
      refine hK.out _ _ ?_
      clear hK K
      refine done_ (by kernel_rfl) ?_
      --END6
      have HNP := Aside0.mk (node_stored HKP.out x.f0 x.f1 x.f2 x.f3)
      have HNN : Aside0 (W6.heap.size ≤ W6.heap.size) := ⟨Nat.le_refl _⟩
      clear q0 q1 q2 q3 q4 q5 y0 y1 y2 y3 y4 y5 hHeld
      generalize ((((((W6.setCell ⟨g8, 0, none⟩ (.string x.f0)).setCell ⟨g8, 1, none⟩ (.string x.f1)).setCell ⟨g8, 2, none⟩ (.slice none 0 0)).setCell ⟨g8, 3, none⟩ (.bool x.f2)).setCell ⟨g8, 4, none⟩ (.bool x.f3)).setCell ⟨g8, 5, none⟩ (.slice Ak kids.length ck)) = W7 at HNP ⊢
      generalize W6.heap.size = N at HNP
      clear HKP HNN
      have HX7 := Aside0.mk (blk_below HX.out HNP.out.below)
      have c7 := (blk_cell HX7.out 7).trans rfl
      have HIN := Aside0.mk (itemB_in HIT.out HZ.out)
      have H7 := Aside0.mk (itemB_alts HIT.out).2.2
      have HAF0 := Aside0.mk (Kd.R_nil Kd.string 9 W7 N (fun k => k ≠ g8))
      have HW1 : Aside0 (w.heap.size < W1.heap.size) := ⟨by have h1 := HSZ.out; have h2 := blk_lt HG.out; omega⟩
      have HGX7 : Aside0 (∀ W, Below W1.heap.size W1 W → W.heap[w.heap.size]? = some (.cells #[.slice (some ad) p.length c] 24 (0, 0))) := ⟨fun W h => blk_below HGX.out h⟩
      have HXX7 : Aside0 (∀ W, Below W1.heap.size W1 W → W.heap[wo.heap.size]? = some (.cells #[.string x.f0, .string x.f1, .bool x.f2, .bool x.f3, .int .i64 x.f4, .int .i64 x.f5, .int .i64 x.f6, .slice A8 x.f7.length c8] 39 (0, 0))) := ⟨fun W h => blk_below HX.out h⟩
      have hm7 := HXB.out
      go_wp2
      clear c7
      go_loopg [49] x.f7.length (fun kq v49 w' => ∃ (q : Nat) (va : Value), q + kq = x.f7.length ∧ v49 = .int .i64 q ∧ Aside0 (NodeP W1 w' N g8 (.slice Ak kids.length ck) kids x.f0 x.f1 va x.f2 x.f3) ∧ Aside0 (Kd.R Kd.string 9 w' N (fun k => k ≠ g8) va ((x.f7.take q).map fun k => (rd_T39 p k).f0)))
      case atStart => exact ⟨0, _, by omega, rfl, HNP, HAF0⟩
      case round =>
       obtain ⟨q, va, hq, rfl, HNQ, HAQ⟩ := hrel
       cases gk with
       | zero =>
        obtain rfl : q = x.f7.length := by omega
        have hal0 := HIN.out.2.2.1
        obtain ⟨al, hal⟩ : ∃ a : Nat, x.f6 = (a : Int) := ⟨x.f6.toNat, by omega⟩
        have HAL := Aside0.mk hal
        have HALN : Aside0 (al < na) := ⟨by have h1 := HIN.out.2.2.2; rw [H5.out, HPI.out, hal] at h1; have h2 := HNA.out; omega⟩
        obtain ⟨nms, hnms⟩ : ∃ l, (x.f7.map fun k => (rd_T39 p k).f0) = l := ⟨_, rfl⟩
        have HNMS := Aside0.mk hnms
        rw [List.take_length, hnms] at HAQ
        clear hnms
        obtain ⟨Aa, ca, rfl⟩ := Kd.R_slice HAQ.out
        have HS8 := Aside0.mk (Kd.S_mono (Kd.S_below (Kd.S_bound HSX.out) HNQ.out.below) (fun k hk => (⟨hk.1, hk.2.2.1⟩ : w.heap.size < k ∧ k < W1.heap.size)))
        obtain ⟨oki, ve, hc8, hf8, hR8, hoki, hH8⟩ := push_get HS8.out HALN.out
        obtain ⟨nds, hnds⟩ : ∃ l, (os.getD al ⟨[]⟩).f0 = l := ⟨_, rfl⟩
        have HNDS := Aside0.mk hnds
        rw [hnds] at hR8
        have HNJ : Aside0 (nds.length ≤ j) := ⟨by have h1 := HOL.out; have h2 := HALN.out; have h3 := HON.out (os[al]'(by omega)) (List.getElem_mem (by omega)); rw [← hnds, List.getD_eq_getElem?_getD, List.getElem?_eq_getElem (by omega)]; simpa using h3⟩
        have HNL : Aside0 (nds.length ≤ 64) := ⟨by have h3 := HNJ.out; have h4 := HM.out.2; have h5 := HJL.out; omega⟩
        clear hnds
        obtain ⟨Ae, ce, rfl⟩ := Kd.R_slice hR8
        have HR8 := Aside0.mk hR8
        have HH8 := Aside0.mk hH8
        have HK8 := Aside0.mk hoki
        have HC8 := Aside0.mk hc8
        have HF8 := Aside0.mk hf8
        have HX8 := Aside0.mk (HXX7.out wr HNQ.out.below)
        rw [hal] at HX8
        have hb1 : (al : Int) < (na : Int) := by have := HALN.out; omega
        have hb2 : (0 : Int) ≤ (al : Int) := by omega
        clear hR8 hH8 hoki hc8 hf8 hal
        go_wp2
        --MARK12
        refine start_ (n := 15) (S := fun w' => w'.cell? ⟨wo.heap.size, 6, none⟩ = some (.int .i64 al) ∧ w'.cell? ⟨gO, al, none⟩ = some (.slice Ae nds.length ce) ∧ w'.cell? ⟨g8, 0, none⟩ = some (.string x.f0) ∧ w'.cell? ⟨g8, 1, none⟩ = some (.string x.f1) ∧ w'.cell? ⟨g8, 2, none⟩ = some (.slice Aa nms.length ca) ∧ w'.cell? ⟨g8, 3, none⟩ = some (.bool x.f2) ∧ w'.cell? ⟨g8, 4, none⟩ = some (.bool x.f3) ∧ w'.cell? ⟨g8, 5, none⟩ = some (.slice Ak kids.length ck)) (ds := [14]) #[false, false, false, false, false, false, false, false, false, false, false, false, false, false, false] (by kernel_rfl) rfl rfl ⟨((blk_cell (blk_drew HX8.out) 6).trans rfl), HC8.out, ((blk_cell (blk_drew HNQ.out.node) 0).trans rfl), ((blk_cell (blk_drew HNQ.out.node) 1).trans rfl), ((blk_cell (blk_drew HNQ.out.node) 2).trans rfl), ((blk_cell (blk_drew HNQ.out.node) 3).trans rfl), ((blk_cell (blk_drew HNQ.out.node) 4).trans rfl), ((blk_cell (blk_drew HNQ.out.node) 5).trans rfl)⟩ (fun hHeld => ?_)
        refine pure_ (i := 0) (N := some 65) (v := ?_) (a' := ?_) #[true, false, false, false, false, false, false, false, false, false, false, false, false, false, false] rfl rfl (by kernel_rfl) (fun _ _ _ h => h) (Or.inl ⟨by rfl, ?_⟩) ?_ ?_
        rotate_left
        ·intro w'
         go_simp
         with_reducible rfl
        rotate_left
        ·simp only [Act.put, List.setIfInBounds_toArray, List.set_cons_zero, List.set_cons_succ, i64_w, i32_w]
         rfl
        refine pure_ (i := 1) (N := some 66) (v := ?_) (a' := ?_) #[true, true, false, false, false, false, false, false, false, false, false, false, false, false, false] rfl rfl (by kernel_rfl) (fun _ _ _ h => h) (Or.inl ⟨by rfl, ?_⟩) ?_ ?_
        rotate_left
        ·intro w'
         go_simp
         with_reducible rfl
        rotate_left
        ·simp only [Act.put, List.setIfInBounds_toArray, List.set_cons_zero, List.set_cons_succ, i64_w, i32_w]
         rfl
        refine pure_ (i := 3) (N := some 68) (v := ?_) (a' := ?_) #[true, true, false, true, false, false, false, false, false, false, false, false, false, false, false] rfl rfl (by kernel_rfl) (fun _ _ _ h => h) (Or.inl ⟨by rfl, ?_⟩) ?_ ?_
        rotate_left
        ·intro w'
         go_simp
         with_reducible rfl
        rotate_left
        ·simp only [Act.put, List.setIfInBounds_toArray, List.set_cons_zero, List.set_cons_succ, i64_w, i32_w]
         rfl
        refine pure_ (i := 4) (N := some 69) (v := ?_) (a' := ?_) #[true, true, false, true, true, false, false, false, false, false, false, false, false, false, false] rfl rfl (by kernel_rfl) (fun _ _ _ h => h) (Or.inl ⟨by rfl, ?_⟩) ?_ ?_
        rotate_left
        ·intro w'
         go_simp
         with_reducible rfl
        rotate_left
        ·simp only [Act.put, List.setIfInBounds_toArray, List.set_cons_zero, List.set_cons_succ, i64_w, i32_w]
         rfl
        refine take_ (i := 2) (N := some 67) (v := ?_) (a' := ?_) #[true, true, true, true, true, false, false, false, false, false, false, false, false, false, false] rfl rfl (by kernel_rfl) (fun _ _ _ h => h) (Or.inl ⟨by rfl, ?_⟩) hHeld ?_ ?_
        rotate_left
        ·rintro w' ⟨s0, s1, s2, s3, s4, s5, s6, s7⟩
         go_simp
         with_reducible rfl
        rotate_left
        ·simp only [Act.put, List.setIfInBounds_toArray, List.set_cons_zero, List.set_cons_succ, i64_w, i32_w]
         rfl
        refine take_ (i := 5) (N := some 70) (v := ?_) (a' := ?_) #[true, true, true, true, true, true, false, false, false, false, false, false, false, false, false] rfl rfl (by kernel_rfl) (fun _ _ _ h => h) (Or.inl ⟨by rfl, ?_⟩) hHeld ?_ ?_
        rotate_left
        ·rintro w' ⟨s0, s1, s2, s3, s4, s5, s6, s7⟩
         go_simp
         with_reducible rfl
        rotate_left
        ·simp only [Act.put, List.setIfInBounds_toArray, List.set_cons_zero, List.set_cons_succ, i64_w, i32_w]
         rfl
        refine pure_ (i := 6) (N := some 71) (v := ?_) (a' := ?_) #[true, true, true, true, true, true, true, false, false, false, false, false, false, false, false] rfl rfl (by kernel_rfl) (fun _ _ _ h => h) (Or.inl ⟨by rfl, ?_⟩) ?_ ?_
        rotate_left
        ·intro w'
         go_simp
         with_reducible rfl
        rotate_left
        ·simp only [Act.put, List.setIfInBounds_toArray, List.set_cons_zero, List.set_cons_succ, i64_w, i32_w]
         rfl
        refine pure_ (i := 7) (N := some 72) (v := ?_) (a' := ?_) #[true, true, true, true, true, true, true, true, false, false, false, false, false, false, false] rfl rfl (by kernel_rfl) (fun _ _ _ h => h) (Or.inl ⟨by rfl, ?_⟩) ?_ ?_
        rotate_left
        ·intro w'
         go_simp
         with_reducible rfl
        rotate_left
        ·simp only [Act.put, List.setIfInBounds_toArray, List.set_cons_zero, List.set_cons_succ, i64_w, i32_w]
         rfl
        refine take_ (i := 8) (N := some 73) (v := ?_) (a' := ?_) #[true, true, true, true, true, true, true, true, true, false, false, false, false, false, false] rfl rfl (by kernel_rfl) (fun _ _ _ h => h) (Or.inl ⟨by rfl, ?_⟩) hHeld ?_ ?_
        rotate_left
        ·rintro w' ⟨s0, s1, s2, s3, s4, s5, s6, s7⟩
         go_simp
         with_reducible rfl
        rotate_left
        ·simp only [Act.put, List.setIfInBounds_toArray, List.set_cons_zero, List.set_cons_succ, i64_w, i32_w]
         rfl
        refine take_ (i := 9) (N := some 74) (v := ?_) (a' := ?_) #[true, true, true, true, true, true, true, true, true, true, false, false, false, false, false] rfl rfl (by kernel_rfl) (fun _ _ _ h => h) (Or.inl ⟨by rfl, ?_⟩) hHeld ?_ ?_
        rotate_left
        ·rintro w' ⟨s0, s1, s2, s3, s4, s5, s6, s7⟩
         go_simp
         with_reducible rfl
        rotate_left
        ·simp only [Act.put, List.setIfInBounds_toArray, List.set_cons_zero, List.set_cons_succ, i64_w, i32_w]
         rfl
        refine one_ (i := 10) (N := some 75) #[true, true, true, true, true, true, true, true, true, true, true, false, false, false, false] rfl rfl (by kernel_rfl) (by decide) (fun K hK => ?_)
        refine value_ (w1 := ?_) (v := ?_) (by rfl) rfl ?_ ?_
        rotate_left 2
        ·go_simp
         constructor
         ·rfl
         ·rfl
        refine hK.out _ _ ⟨(cell_al hHeld.1), (cell_al hHeld.2.1), (cell_al hHeld.2.2.1), (cell_al hHeld.2.2.2.1), (cell_al hHeld.2.2.2.2.1), (cell_al hHeld.2.2.2.2.2.1), (cell_al hHeld.2.2.2.2.2.2.1), (cell_al hHeld.2.2.2.2.2.2.2)⟩ (fun hHeld => ?_)
        clear hK K
        refine norm_ (a' := ?_) ?_ ?_
        rotate_left
        ·show Act.put _ (some 75) _ = _
         simp only [Act.put, List.setIfInBounds_toArray, List.set_cons_zero, List.set_cons_succ, i64_w, i32_w]
         rfl
        refine one_ (i := 11) (N := some 76) #[true, true, true, true, true, true, true, true, true, true, true, true, false, false, false] rfl rfl (by kernel_rfl) (by decide) (fun K hK => ?_)
        refine Kd.R_append_step k112 (w0 := w) w.heap.size (by rfl) (.tmp 73) (.tmp 75) 108 112 (.agg #[.string ⟨#[]⟩, .string ⟨#[]⟩, .slice none 0 0, .bool false, .bool false, .slice none 0 0]) 88 rfl Tryz.underlying108 info93_ rfl (by decide) (by omega) (.slice Ae nds.length ce) nds ⟨x.f0, x.f1, nms, x.f2, x.f3, kids⟩ [.string x.f0, .string x.f1, .slice Aa nms.length ca, .bool x.f2, .bool x.f3, .slice Ak kids.length ck] (fun k => oki k ∨ W1.heap.size ≤ k) (fun k => W1.heap.size ≤ k) rfl rfl (node_made HNQ.out HAQ.out (Nat.le_of_lt HW1.out)) (fun k hk => ⟨.inr hk, fun e => by have h1 := (HK8.out k (HR8.out.1 k e.symm)).1.2; omega⟩) (fun k hk => .inr (Nat.le_trans HNQ.out.below.size hk)) (Kd.R_drew (Kd.R_mono HR8.out (fun _ hk => .inl hk))) ((HBX.out.trans (HNQ.out.below.mono (Nat.le_of_lt HW1.out))).drew) (Nat.le_trans (Nat.le_of_lt HW1.out) HNQ.out.below.size) (by have := HNL.out; omega) ?_
        intro v1 w9 hR9 hb9 hg9 hat9
        obtain ⟨A9, c9, rfl⟩ := Kd.R_slice hR9
        have HB9 := Aside0.mk hb9
        have HR9 := Aside0.mk hR9
        have HG9 := Aside0.mk hg9
        have q9 : w9.cell? ⟨gO, al, none⟩ = some (.slice Ae nds.length ce) := cell_grown hg9 HC8.out (fun e => (HK8.out gO (HR8.out.1 gO e.symm)).2 rfl)
        have f9 : w9.frozen? ⟨gO, al, none⟩ = false := frozen_grown hg9 HC8.out HF8.out (fun e => (HK8.out gO (HR8.out.1 gO e.symm)).2 rfl)
        have hne8 : some g8 ≠ (Value.slice Ae nds.length ce).ownBlock := fun e => by have h1 := (HK8.out g8 (HR8.out.1 g8 e.symm)).1.2; have h2 := HNQ.out.old; omega
        have HNE8 := Aside0.mk hne8
        clear hb9 hg9 hat9 hR9 hne8
        refine hK.out _ _ ⟨(cell_grown HG9.out ((blk_cell (blk_drew HX8.out) 6).trans rfl) (Kd.R_ne HR8.out HX8.out (by decide))), q9, (cell_grown HG9.out ((blk_cell (blk_drew HNQ.out.node) 0).trans rfl) HNE8.out), (cell_grown HG9.out ((blk_cell (blk_drew HNQ.out.node) 1).trans rfl) HNE8.out), (cell_grown HG9.out ((blk_cell (blk_drew HNQ.out.node) 2).trans rfl) HNE8.out), (cell_grown HG9.out ((blk_cell (blk_drew HNQ.out.node) 3).trans rfl) HNE8.out), (cell_grown HG9.out ((blk_cell (blk_drew HNQ.out.node) 4).trans rfl) HNE8.out), (cell_grown HG9.out ((blk_cell (blk_drew HNQ.out.node) 5).trans rfl) HNE8.out)⟩ (fun hHeld => ?_)
        clear hK K
        refine norm_ (a' := ?_) ?_ ?_
        rotate_left
        ·show Act.put _ (some 76) _ = _
         simp only [Act.put, List.setIfInBounds_toArray, List.set_cons_zero, List.set_cons_succ, i64_w, i32_w]
         rfl
        refine pure_ (i := 12) (N := some 77) (v := ?_) (a' := ?_) #[true, true, true, true, true, true, true, true, true, true, true, true, true, false, false] rfl rfl (by kernel_rfl) (fun _ _ _ h => h) (Or.inl ⟨by rfl, ?_⟩) ?_ ?_
        rotate_left
        ·intro w'
         go_simp
         with_reducible rfl
        rotate_left
        ·simp only [Act.put, List.setIfInBounds_toArray, List.set_cons_zero, List.set_cons_succ, i64_w, i32_w]
         rfl
        refine pure_ (i := 13) (N := some 78) (v := ?_) (a' := ?_) #[true, true, true, true, true, true, true, true, true, true, true, true, true, true, false] rfl rfl (by kernel_rfl) (fun _ _ _ h => h) (Or.inl ⟨by rfl, ?_⟩) ?_ ?_
        rotate_left
        ·intro w'
         go_simp
         with_reducible rfl
        rotate_left
        ·simp only [Act.put, List.setIfInBounds_toArray, List.set_cons_zero, List.set_cons_succ, i64_w, i32_w]
         rfl
        refine last_ (i := 14) (N := none) #[true, true, true, true, true, true, true, true, true, true, true, true, true, true, true] rfl rfl (by kernel_rfl) (by decide) (fun K hK => ?_)
        refine skip_ (w1 := ?_) (by rfl) rfl ?_ ?_
        rotate_left
        ·go_simp
         rfl
        refine hK.out _ _ ?_
        clear hK K
        refine done_ (by kernel_rfl) ?_
        --END12
        go_wp2
        go_roundg k
        case measure => omega
        case rel =>
         have hGO : w.heap.size < gO := by have h1 := HbO'.out.out; simp at h1; omega
         refine ⟨j + 1, os.set al ⟨nds ++ [⟨x.f0, x.f1, nms, x.f2, x.f3, kids⟩]⟩, by have := HJ.out; omega, by first | exact HNX.out | go_num, ⟨by rw [List.length_set]; exact HOL.out⟩, ⟨fun b hb => ?_⟩, ⟨?_⟩, ⟨by have hS := (push_back HALN.out HW1.out (Kd.H_drew HH8.out) HG9.out HR8.out.1 HR9.out).1; rw [List.length_append] at hS; exact hS⟩, ⟨?_⟩, ⟨HB9.out.setCell (p := ⟨gO, al, none⟩) (Nat.le_of_lt hGO) _⟩⟩
         ·rcases List.mem_or_eq_of_mem_set hb with hb | rfl
          ·exact Nat.le_succ_of_le (HON.out b hb)
          ·simp only [List.length_append, List.length_singleton]; exact Nat.succ_le_succ HNJ.out
         ·rw [HI.out, HD.out, if_neg (fun h => h.elim HZ.out (fun h => h H5.out))]
          unfold setNode nodeOf
          rw [HAL.out, Int.toNat_natCast, HNDS.out, HNMS.out, HKI.out]
         ·exact (Below.heap_setCell _ _ _ _ (by show w.heap.size ≠ gO; omega)).trans (blk_grown (blk_drew (HGX7.out wr HNQ.out.below)) HG9.out (fun e => by have := (HK8.out _ (HR8.out.1 _ e.symm)).1.1; omega))
       | succ k2 =>
        have hlt2 : q < x.f7.length := by omega
        obtain ⟨ad2, e2, y0⟩ := Kd.at_int (Kd.C_below HF7.out HNQ.out.below) (q : Int) (by omega) (by omega)
        subst e2
        rw [Int.toNat_natCast] at y0
        have hrd2 : rd x.f7 (q : Int) = x.f7[q] := by unfold rd; rw [Int.toNat_natCast, List.getD_eq_getElem?_getD, List.getElem?_eq_getElem hlt2]; rfl
        rw [hrd2] at y0
        obtain ⟨m, hm⟩ : ∃ m, x.f7[q] = m := ⟨_, rfl⟩
        rw [hm] at y0
        have HMB : Aside0 (1 ≤ m ∧ m < (p.length : Int)) := ⟨by have := H7.out m (hm ▸ List.getElem_mem hlt2); exact this⟩
        have HNS : Aside0 (((x.f7.take (q + 1)).map fun k => (rd_T39 p k).f0) = ((x.f7.take q).map fun k => (rd_T39 p k).f0) ++ [(rd_T39 p m).f0]) := ⟨by rw [List.take_succ_eq_append_getElem hlt2, hm, List.map_append]; rfl⟩
        obtain ⟨ad9, A9, c9, e9, u0, _⟩ := at_T39 (Kd.C_below HC1.out HNQ.out.below) m (by have := HMB.out; omega) (by have := HMB.out; omega)
        obtain rfl := Option.some.inj e9
        have HU0 := Aside0.mk u0
        obtain ⟨nms, hnms⟩ : ∃ l, ((x.f7.take q).map fun k => (rd_T39 p k).f0) = l := ⟨_, rfl⟩
        have HNLL : Aside0 (nms.length ≤ 1000000) := ⟨by rw [← hnms, List.length_map, List.length_take]; have := HXB.out; omega⟩
        rw [hnms] at HAQ HNS
        clear hnms
        obtain ⟨Aa, ca, rfl⟩ := Kd.R_slice HAQ.out
        have hm0 : (0 : Int) ≤ m := by have := HMB.out; omega
        have hm1 : m < (p.length : Int) := by have := HMB.out; omega
        have hqq : (q : Int) < (x.f7.length : Int) := by omega
        have hq0 : (0 : Int) ≤ (q : Int) := by omega
        have HQ2 := Aside0.mk hq
        clear hm hrd2 u0 hq
        go_wp2
        --MARK10
        refine start_ (n := 12) (S := fun w' => w'.cell? ⟨g8, 2, none⟩ = some (.slice Aa nms.length ca) ∧ w'.cell? ⟨w.heap.size, 0, none⟩ = some (.slice (some ad) p.length c) ∧ w'.cell? (ad.add (m.toNat * 8)) = some (.string (rd_T39 p m).f0)) (ds := [9, 11]) #[false, false, false, false, false, false, false, false, false, false, false, false] (by kernel_rfl) rfl rfl ⟨((blk_cell (blk_drew HNQ.out.node) 2).trans rfl), ((blk_cell (blk_drew (HGX7.out wr HNQ.out.below)) 0).trans rfl), HU0.out⟩ (fun hHeld => ?_)
        refine pure_ (i := 0) (N := some 53) (v := ?_) (a' := ?_) #[true, false, false, false, false, false, false, false, false, false, false, false] rfl rfl (by kernel_rfl) (fun _ _ _ h => h) (Or.inl ⟨by rfl, ?_⟩) ?_ ?_
        rotate_left
        ·intro w'
         go_simp
         with_reducible rfl
        rotate_left
        ·simp only [Act.put, List.setIfInBounds_toArray, List.set_cons_zero, List.set_cons_succ, i64_w, i32_w]
         rfl
        refine pure_ (i := 2) (N := some 55) (v := ?_) (a' := ?_) #[true, false, true, false, false, false, false, false, false, false, false, false] rfl rfl (by kernel_rfl) (fun _ _ _ h => h) (Or.inl ⟨by rfl, ?_⟩) ?_ ?_
        rotate_left
        ·intro w'
         go_simp
         with_reducible rfl
        rotate_left
        ·simp only [Act.put, List.setIfInBounds_toArray, List.set_cons_zero, List.set_cons_succ, i64_w, i32_w]
         rfl
        refine pure_ (i := 4) (N := some 57) (v := ?_) (a' := ?_) #[true, false, true, false, true, false, false, false, false, false, false, false] rfl rfl (by kernel_rfl) (fun _ _ _ h => h) (Or.inl ⟨by rfl, ?_⟩) ?_ ?_
        rotate_left
        ·intro w'
         go_simp
         with_reducible rfl
        rotate_left
        ·simp only [Act.put, List.setIfInBounds_toArray, List.set_cons_zero, List.set_cons_succ, i64_w, i32_w]
         rfl
        refine take_ (i := 1) (N := some 54) (v := ?_) (a' := ?_) #[true, true, true, false, true, false, false, false, false, false, false, false] rfl rfl (by kernel_rfl) (fun _ _ _ h => h) (Or.inl ⟨by rfl, ?_⟩) hHeld ?_ ?_
        rotate_left
        ·rintro w' ⟨s0, s1, s2⟩
         go_simp
         with_reducible rfl
        rotate_left
        ·simp only [Act.put, List.setIfInBounds_toArray, List.set_cons_zero, List.set_cons_succ, i64_w, i32_w]
         rfl
        refine take_ (i := 3) (N := some 56) (v := ?_) (a' := ?_) #[true, true, true, true, true, false, false, false, false, false, false, false] rfl rfl (by kernel_rfl) (fun _ _ _ h => h) (Or.inl ⟨by rfl, ?_⟩) hHeld ?_ ?_
        rotate_left
        ·rintro w' ⟨s0, s1, s2⟩
         go_simp
         with_reducible rfl
        rotate_left
        ·simp only [Act.put, List.setIfInBounds_toArray, List.set_cons_zero, List.set_cons_succ, i64_w, i32_w]
         rfl
        refine pure_ (i := 5) (N := some 58) (v := ?_) (a' := ?_) #[true, true, true, true, true, true, false, false, false, false, false, false] rfl rfl (by kernel_rfl) (fun _ _ _ h => h) (Or.inl ⟨by rfl, ?_⟩) ?_ ?_
        rotate_left
        ·intro w'
         go_simp
         with_reducible rfl
        rotate_left
        ·simp only [Act.put, List.setIfInBounds_toArray, List.set_cons_zero, List.set_cons_succ, i64_w, i32_w]
         rfl
        refine pure_ (i := 6) (N := some 59) (v := ?_) (a' := ?_) #[true, true, true, true, true, true, true, false, false, false, false, false] rfl rfl (by kernel_rfl) (fun _ _ _ h => h) (Or.inl ⟨by rfl, ?_⟩) ?_ ?_
        rotate_left
        ·intro w'
         go_simp
         with_reducible rfl
        rotate_left
        ·simp only [Act.put, List.setIfInBounds_toArray, List.set_cons_zero, List.set_cons_succ, i64_w, i32_w]
         rfl
        refine take_ (i := 7) (N := some 60) (v := ?_) (a' := ?_) #[true, true, true, true, true, true, true, true, false, false, false, false] rfl rfl (by kernel_rfl) (fun _ _ _ h => h) (Or.inl ⟨by rfl, ?_⟩) hHeld ?_ ?_
        rotate_left
        ·rintro w' ⟨s0, s1, s2⟩
         go_simp
         with_reducible rfl
        rotate_left
        ·simp only [Act.put, List.setIfInBounds_toArray, List.set_cons_zero, List.set_cons_succ, i64_w, i32_w]
         rfl
        refine one_ (i := 8) (N := some 61) #[true, true, true, true, true, true, true, true, true, false, false, false] rfl rfl (by kernel_rfl) (by decide) (fun K hK => ?_)
        refine value_ (w1 := ?_) (v := ?_) (by rfl) rfl ?_ ?_
        rotate_left 2
        ·go_simp
         constructor
         ·rfl
         ·rfl
        refine hK.out _ _ ⟨(cell_al hHeld.1), (cell_al hHeld.2.1), (cell_al hHeld.2.2)⟩ (fun hHeld => ?_)
        clear hK K
        refine norm_ (a' := ?_) ?_ ?_
        rotate_left
        ·show Act.put _ (some 61) _ = _
         simp only [Act.put, List.setIfInBounds_toArray, List.set_cons_zero, List.set_cons_succ, i64_w, i32_w]
         rfl
        refine last_ (i := 9) (N := some 62) #[true, true, true, true, true, true, true, true, true, true, false, false] rfl rfl (by kernel_rfl) (by decide) (fun K hK => ?_)
        refine Kd.R_append_step Kd.string (w0 := wr.drew) N (by rfl) (.tmp 54) (.tmp 61) 103 9 (.string ⟨#[]⟩) 16 rfl Tryz.underlying103 info9_ rfl (by decide) (by omega) (.slice Aa nms.length ca) nms (rd_T39 p m).f0 [.string (rd_T39 p m).f0] (fun k => k ≠ g8) (fun _ => False) rfl rfl rfl (fun _ hk => hk.elim) (fun k hk => by have h1 := HNQ.out.lt; have h2 := HNQ.out.size; simp at hk; omega) (Kd.R_drew HAQ.out) (Below.refl _ _) HNQ.out.size (by have := HNLL.out; omega) ?_
        intro v1 w9 hR9 hb9 hg9 hat9
        obtain ⟨A9, c9, rfl⟩ := Kd.R_slice hR9
        have HB9 := Aside0.mk hb9
        have HR9 := Aside0.mk hR9
        have hz9 := (hb9.block g8 HNQ.out.lt).trans (blk_drew HNQ.out.node)
        have q9 : w9.cell? ⟨g8, 2, none⟩ = some (.slice Aa nms.length ca) := (blk_cell hz9 2).trans rfl
        have f9 := blk_frozen hz9 2
        clear hb9 hg9 hat9 hR9 hz9
        refine hK.out _ _ ?_
        clear hK K
        refine norm_ (a' := ?_) ?_ ?_
        rotate_left
        ·show Act.put _ (some 62) _ = _
         simp only [Act.put, List.setIfInBounds_toArray, List.set_cons_zero, List.set_cons_succ, i64_w, i32_w]
         rfl
        refine pure_ (i := 10) (N := some 63) (v := ?_) (a' := ?_) #[true, true, true, true, true, true, true, true, true, true, true, false] rfl rfl (by kernel_rfl) (fun _ _ _ h => h) (Or.inl ⟨by rfl, ?_⟩) ?_ ?_
        rotate_left
        ·intro w'
         go_simp
         with_reducible rfl
        rotate_left
        ·simp only [Act.put, List.setIfInBounds_toArray, List.set_cons_zero, List.set_cons_succ, i64_w, i32_w]
         rfl
        refine last_ (i := 11) (N := none) #[true, true, true, true, true, true, true, true, true, true, true, true] rfl rfl (by kernel_rfl) (by decide) (fun K hK => ?_)
        refine skip_ (w1 := ?_) (by rfl) rfl ?_ ?_
        rotate_left
        ·go_simp
         rfl
        refine hK.out _ _ ?_
        clear hK K
        refine done_ (by kernel_rfl) ?_
        --END10
        go_wp2
        go_roundg k2
        case measure => omega
        case rel => exact ⟨q + 1, _, by have := HQ2.out; omega, by go_num, ⟨node_step HNQ.out (below_drew (Below.refl _ _)) HB9.out⟩, ⟨by rw [HNS.out]; have hS := HR9.out; rw [List.length_append] at hS; exact Kd.R_far (p := ⟨g8, 2, none⟩) hS (fun _ hk => hk) _⟩⟩
     ·have h51 : (x.f5 != (i : Int)) = true := by simpa using h5
      have h52 : decide (x.f5 = (i : Int)) = false := decide_eq_false h5
      have h53 : (x.f5 == (i : Int)) = false := by simpa using h5
      have H5 := Aside0.mk h5
      clear h5 hz
      go_wp2
      go_roundg k
      case measure => omega
      case rel => exact ⟨j + 1, os, by have := HJ.out; omega, by first | exact HNX.out | go_num, HOL, ⟨fun b hb => Nat.le_succ_of_le (HON.out b hb)⟩, ⟨by rw [HI.out, HD.out, if_pos (Or.inr H5.out)]⟩, HSX, HGX, HBX⟩
end Go.Proofs.YtloijngccppfgaaGreat.F
end

section
namespace Go.Proofs.YtloijngccppfgaaGreat.F
open Go.RowKit Go.Proofs.YtloijngccppfgaaGreatW.PrintWords Go.Proofs.YtloijngccppfgaaGreatW.PrintLast Go.Proofs.YtloijngccppfgaaGreatW.PrintMore
attribute [local go_sem] max2_int min2_int max_two min_two max_three min_three max_four min_four
set_option linter.unusedVariables false
set_option linter.unusedSimpArgs false
set_option maxHeartbeats 4000000 in
set_option maxRecDepth 100000 in
theorem index_func_node (gf : Nat) (lb : Array Value) (eg : ∀ args w, (callFunc gf args).run Tryz.prog w = .ok (.enter gf args) w) (p : S112 → Bool) (A0 : Option Addr) (c0 : Nat) (l0 : List S112) (w : World) (hr0 : Kd.C k112 w A0 l0.length l0)
  (hp : ∀ (i : Nat) (h : i < l0.length) (W : World), Below w.heap.size w W → ∀ cs, k112.K W l0[i] cs → Calls Tryz.prog gf (#[.agg cs.toArray] ++ lb) W fun e W' => e = .returned (.bool (p l0[i])) ∧ Below W.heap.size W W') :
  Calls Tryz.prog 113 #[.slice A0 l0.length c0, .func (.func gf) #[] lb] w fun e w' => e = .returned (.int .i64 (idxF p l0 0)) ∧ Below w.heap.size w w' := by
 have HR := Aside0.mk hr0
 have HB := Aside0.mk (Below.refl w.heap.size w)
 have HM := Aside0.mk (Kd.C_max hr0)
 have HL := Aside0.mk (idxF_drop p l0)
 have HP := Aside0.mk hp
 clear hr0 hp
 go_enter Tryz.func113, Tryz.ntmps113
 go_wp2
 go_loopg [5, 8] l0.length (fun kq v5 v8 w' => ∃ i : Nat, i + kq = l0.length ∧ v8 = .int .i64 i ∧ Aside0 (idxF p l0 0 = idxF p (l0.drop i) i) ∧ Aside0 (Below w.heap.size w w'))
 case atStart => exact ⟨0, by omega, rfl, ⟨rfl⟩, ⟨Below.refl _ _⟩⟩
 case round =>
  obtain ⟨i, hi, rfl, HI, HB⟩ := hrel
  have hm := HM.out
  cases gk with
  | zero =>
   obtain rfl : i = l0.length := by omega
   have HE : Aside0 (idxF p l0 0 = -1) := ⟨by rw [HI.out, List.drop_eq_nil_of_le (Nat.le_refl _)]; rfl⟩
   clear eg
   go_wp2
   go_ret
   exact ⟨by rw [HE.out]; rfl, HB.out⟩
  | succ k =>
   have hlt : i < l0.length := by omega
   obtain ⟨ad, A2, c2, A5, c5, e0, x0, x1, x2, x3, x4, x5, l2, g2, l5, g5⟩ := at_T112 (Kd.C_below HR.out HB.out) (i : Int) (by omega) (by omega)
   rw [Int.toNat_natCast] at x0 x1 x2 x3 x4 x5
   have hrd : rd_T112 l0 (i : Int) = l0[i] := by unfold rd_T112; rw [Int.toNat_natCast, List.getD_eq_getElem?_getD, List.getElem?_eq_getElem hlt]; rfl
   rw [hrd] at x0 x1 x2 x3 x4 x5 l2 g2 l5 g5
   subst e0
   have hcall := HP.out i hlt wr HB.out _ (k112_mk wr l0[i] l2 g2 l5 g5)
   obtain ⟨x, hx⟩ : ∃ x, l0[i] = x := ⟨_, rfl⟩
   have HD := Aside0.mk (HL.out i hlt (i : Int))
   rw [hx] at x0 x1 x2 x3 x4 x5 HD hcall
   have hlt' : (i : Int) < (l0.length : Int) := by omega
   have h0 : (0 : Int) ≤ i := by omega
   have HI2 := Aside0.mk hi
   have HC := Aside0.mk hcall
   clear hx hrd hi hcall l2 g2 l5 g5
   obtain ⟨v, hv⟩ : ∃ v, p x = v := ⟨_, rfl⟩
   have HV := Aside0.mk hv
   clear hv
   cases v
   all_goals
    go_wp2_with (go_at_fn gf; refine HC.out.mono ?_; rintro e w2 ⟨rfl, hB2⟩; rw [HV.out]; have HB2 := Aside0.mk hB2; clear hB2)
   ·go_roundg k
    case measure => omega
    case rel => exact ⟨i + 1, by have := HI2.out; omega, by go_num, ⟨by rw [HI.out, HD.out, HV.out]; simp⟩, ⟨HB.out.trans (HB2.out.mono HB.out.size)⟩⟩
   ·go_ret
    exact ⟨by rw [HI.out, HD.out, HV.out]; rfl, HB.out.trans (HB2.out.mono HB.out.size)⟩
set_option maxHeartbeats 4000000 in
set_option maxRecDepth 100000 in
theorem contains_func_node (gf : Nat) (lb : Array Value) (eg : ∀ args w, (callFunc gf args).run Tryz.prog w = .ok (.enter gf args) w) (p : S112 → Bool) (A0 : Option Addr) (c0 : Nat) (l0 : List S112) (w : World) (hr0 : Kd.C k112 w A0 l0.length l0)
  (hp : ∀ (i : Nat) (h : i < l0.length) (W : World), Below w.heap.size w W → ∀ cs, k112.K W l0[i] cs → Calls Tryz.prog gf (#[.agg cs.toArray] ++ lb) W fun e W' => e = .returned (.bool (p l0[i])) ∧ Below W.heap.size W W') :
  Calls Tryz.prog 147 #[.slice A0 l0.length c0, .func (.func gf) #[] lb] w fun e w' => e = .returned (.bool (l0.any p)) ∧ Below w.heap.size w w' := by
 have hc := Aside0.mk (index_func_node gf lb eg p A0 c0 l0 w hr0 hp)
 have HA := Aside0.mk (idxF_any p l0 0 (by omega))
 clear hp eg hr0
 go_enter Tryz.func147, Tryz.ntmps147
 go_wp2_with (go_at_call 113; refine hc.out.mono ?_; rintro e w2 ⟨rfl, hB2⟩; have HB2 := Aside0.mk hB2; clear hB2)
 go_ret
 exact ⟨by rw [HA.out]; rfl, HB2.out⟩
end Go.Proofs.YtloijngccppfgaaGreat.F
end

section
namespace Go.Proofs.YtloijngccppfgaaGreat.F
open Go.RowKit Go.Proofs.YtloijngccppfgaaGreatW.PrintWords Go.Proofs.YtloijngccppfgaaGreatW.PrintLast Go.Proofs.YtloijngccppfgaaGreatW.PrintMore
attribute [local go_sem] max2_int min2_int max_two min_two max_three min_three max_four min_four
set_option linter.unusedVariables false
set_option linter.unusedSimpArgs false
mutual
def syntax_Count.l0 : Nat → Int → List (S110) → Int → Int → Option (Int)
 | 0, _, _, _, _ => none
 | k + 1, x3, x9, x10, x11 => if x11 < x10 then (if 0 ≤ x11 then (if x11 < (x9.length : Int) then (syntax_Count.l1 k (wrap64 (x3 + (((rd_T110 x9 x11).f0).length : Int))) x9 x10 x11 ((rd_T110 x9 x11).f0) (((rd_T110 x9 x11).f0).length : Int) 0) else (none)) else (none)) else (some x3)
def syntax_Count.l1 : Nat → Int → List (S110) → Int → Int → List (S112) → Int → Int → Option (Int)
 | 0, _, _, _, _, _, _, _ => none
 | k + 1, x3, x9, x10, x11, x21, x22, x23 => if x23 < x22 then (if 0 ≤ x23 then (if x23 < (x21.length : Int) then ((syntax_Count.f k (⟨#[]⟩ : ByteArray) ((rd_T112 x21 x23).f5)).bind fun t106 => (syntax_Count.l1 k (wrap64 (x3 + t106)) x9 x10 x11 x21 x22 (wrap64 (x23 + 1)))) else (none)) else (none)) else (syntax_Count.l0 k x3 x9 x10 (wrap64 (x11 + 1)))
def syntax_Count.f : Nat → ByteArray → List (S110) → Option (Int)
 | 0, _, _ => none
 | k + 1, a0_0, l0_1 => syntax_Count.l0 k 0 l0_1 (l0_1.length : Int) 0
end
set_option maxHeartbeats 8000000 in
set_option maxRecDepth 100000 in
theorem syntax_Count.calls (k : Nat) : ∀ (a0_0 : ByteArray) (A0_1 : Option Addr) (c0_1 : Nat) (l0_1 : List (S110)) (r : Int) (w : World) (hr0_1 : Kd.C k110 w A0_1 l0_1.length l0_1) (hc0_1 : l0_1.length ≤ c0_1) (h : syntax_Count.f k a0_0 l0_1 = some r),
  Calls Tryz.prog 110 #[.agg #[.string a0_0, .slice A0_1 l0_1.length c0_1]] w fun e w' => e = .returned (.int .i64 r) ∧ Below w.heap.size w w' := by
 induction k using Nat.strongRecOn with
 | _ k ih =>
 intro a0_0 A0_1 c0_1 l0_1 r w hr0_1 hc0_1 h
 cases k with
 | zero => exact absurd h (by simp [syntax_Count.f])
 | succ k =>
 simp only [syntax_Count.f] at h
 have hu54 := Tryz.underlying54
 have hu110 := Tryz.underlying110
 have hu112 := Tryz.underlying112
 have HR0_1 := Aside0.mk hr0_1
 have HC0_1 := Aside0.mk hc0_1
 clear hr0_1 hc0_1
 have HB := Aside0.mk (Below.refl w.heap.size w)
 have H : (syntax_Count.l0 k 0 l0_1 (l0_1.length : Int) 0) = some r := h
 clear h
 have H' := Aside0.mk H
 clear H
 go_enter Tryz.func110, Tryz.ntmps110
 go_wp2_with (first | ((with_reducible refine gate_dst (N := 1) rfl ?_); refine box_event ?hg (N := 1) ?hd (cs := #[.string a0_0, .slice A0_1 l0_1.length c0_1]) (t := 54) ?hr ?_; (case hd => rfl); (case hg => rfl); (case hr => first | (go_simp; done) | (go_simp; rfl)); intro gb101 hg w2 hbox hb; have n0_ := Aside0.mk (below_step (by repeat (first | (with_reducible first | exact HB.out | apply below_alloc | apply pw_below_drewN | apply below_drew1) | exact HB.out)) hb); have n1_ := Aside0.mk (hbox); have n2_ := Aside0.mk ((by rw [hg]; exact (below_size (by repeat (first | (with_reducible first | exact HB.out | apply below_alloc | apply pw_below_drewN | apply below_drew1) | exact HB.out))) : w.heap.size ≤ gb101)); have n3_ := Aside0.mk ((by rw [hg]; exact (below_size (by repeat (first | (with_reducible first | exact HB.out | apply below_alloc | apply pw_below_drewN | apply below_drew1) | exact HB.out))) : w.heap.size ≤ gb101)); clear HB; have HB := n0_; have BK101 := n1_; have GW101 := n2_; have GE101 := n3_; clear n0_ n1_ n2_ n3_; clear hb hbox hg; have hcz3_0 : w2.cell? ⟨gb101, 0, none⟩ = some (.string a0_0) := (blk_cell BK101.out 0).trans rfl; have hcz3_1 : w2.cell? ⟨gb101, 1, none⟩ = some (.slice A0_1 l0_1.length c0_1) := (blk_cell BK101.out 1).trans rfl; have hfz3_0 := blk_frozen BK101.out 0; have hfz3_1 := blk_frozen BK101.out 1))
 go_loopg [3, 11] k (fun kq v3 v11 w' => ∃ (x3_1 : Int) (x11_1 : Int), v3 = .int .i64 x3_1 ∧ v11 = .int .i64 x11_1 ∧ Aside0 (syntax_Count.l0 kq x3_1 l0_1 (l0_1.length : Int) x11_1 = some r) ∧ Aside0 (kq ≤ k) ∧ Aside0 (w'.heap[gb101]? = some (.cells #[.string a0_0, (.slice A0_1 l0_1.length c0_1)] 54 (0, 0))) ∧ Aside0 (Below w.heap.size w w'))
 case atStart => exact ⟨(0), (0), (by first | rfl | (simp; done) | (simp [*]; done)), (by first | rfl | (simp; done) | (simp [*]; done)), H', ⟨Nat.le_refl _⟩, ⟨by (with_reducible repeat (first | refine blk_drewN ?_ _ | refine blk_drew ?_ | refine blk_alloc ?_ _)); exact BK101.out⟩, ⟨by repeat (first | (with_reducible first | exact HB.out | apply below_alloc | apply pw_below_drewN | apply below_drew1 | refine below_set ?_ GE101.out) | exact HB.out)⟩⟩
 case round =>
  clear H'
  try clear c1
  try clear p2
  try clear hcz3_0
  try clear hcz3_1
  try clear hfz3_0
  try clear hfz3_1
  obtain ⟨x3_1, x11_1, rfl, rfl, HA, HK1, BK101, HB⟩ := hrel
  cases gk with
  | zero => exact absurd HA.out (by simp [syntax_Count.l0])
  | succ k1 =>
   have H := HA.out
   clear HA
   simp only [syntax_Count.l0] at H
   by_cases c4 : x11_1 < (l0_1.length : Int)
   ·rw [if_pos c4] at H
    have c4b0 : decide (x11_1 < (l0_1.length : Int)) = true := decide_eq_true c4
    clear c4
    by_cases c5 : 0 ≤ x11_1
    ·rw [if_pos c5] at H
     have c5b0 : decide (0 ≤ x11_1) = true := decide_eq_true c5
     clear c5
     by_cases c6 : x11_1 < (l0_1.length : Int)
     ·rw [if_pos c6] at H
      have c6b0 : decide (x11_1 < (l0_1.length : Int)) = true := decide_eq_true c6
      clear c6
      have H' := Aside0.mk H
      clear H
      have p102 : 0 ≤ (x11_1 : Int) := of_decide_eq_true (by first | (with_reducible assumption) | assumption)
      have q102 : x11_1 < (l0_1.length : Int) := of_decide_eq_true (by first | (with_reducible assumption) | assumption)
      obtain ⟨ad102, A102_0, c102_0, e102, hx102_0, hl102_0, hi102_0⟩ := at_T110 HR0_1.out x11_1 p102 q102
      cases e102
      replace hx102_0 := (HB.out.cell (World.block_lt_of_cell? w _ hx102_0)).trans hx102_0
      have HR102_0 := Aside0.mk hi102_0
      have HC102_0 := Aside0.mk hl102_0
      clear hi102_0 hl102_0
      replace p102 := eq_true p102
      replace q102 := eq_true q102
      go_wp2_with (first | ((with_reducible refine gate_dst (N := 5) rfl ?_); refine box_event ?hg (N := 5) ?hd (cs := #[.slice none 0 0]) (t := 110) ?hr ?_; (case hd => rfl); (case hg => rfl); (case hr => first | (go_simp; done) | (go_simp; rfl)); intro gb103 hg w7 hbox hb; have n0_ := Aside0.mk (blk_below (g := gb101) (o := .cells #[.string a0_0, .slice (some ad102) l0_1.length c0_1] 54 (0, 0)) (by (with_reducible repeat (first | refine blk_drewN ?_ _ | refine blk_drew ?_ | refine blk_alloc ?_ _)); exact BK101.out) hb); have n1_ := Aside0.mk (below_step (by repeat (first | (with_reducible first | exact HB.out | apply below_alloc | apply pw_below_drewN | apply below_drew1 | refine below_set ?_ GE101.out) | exact HB.out)) hb); have n2_ := Aside0.mk (hbox); have n3_ := Aside0.mk ((by rw [hg]; exact (below_size (by repeat (first | (with_reducible first | exact HB.out | apply below_alloc | apply pw_below_drewN | apply below_drew1 | refine below_set ?_ GE101.out) | exact HB.out))) : w.heap.size ≤ gb103)); have n4_ := Aside0.mk ((by rw [hg]; exact (below_size (by repeat (first | (with_reducible first | exact HB.out | apply below_alloc | apply pw_below_drewN | apply below_drew1 | refine below_set ?_ GE101.out) | exact HB.out))) : w.heap.size ≤ gb103)); have n5_ := Aside0.mk ((by rw [hg]; exact Nat.ne_of_lt (blk_lt (g := gb101) (o := .cells #[.string a0_0, .slice (some ad102) l0_1.length c0_1] 54 (0, 0)) (by (with_reducible repeat (first | refine blk_drewN ?_ _ | refine blk_drew ?_ | refine blk_alloc ?_ _)); exact BK101.out)) : gb101 ≠ gb103)); have n6_ := Aside0.mk ((by rw [hg]; exact Nat.ne_of_gt (blk_lt (g := gb101) (o := .cells #[.string a0_0, .slice (some ad102) l0_1.length c0_1] 54 (0, 0)) (by (with_reducible repeat (first | refine blk_drewN ?_ _ | refine blk_drew ?_ | refine blk_alloc ?_ _)); exact BK101.out)) : gb103 ≠ gb101)); clear BK101; clear HB; have BK101 := n0_; have HB := n1_; have BK103 := n2_; have GW103 := n3_; have GE103 := n4_; have NB101_103 := n5_; have NB103_101 := n6_; clear n0_ n1_ n2_ n3_ n4_ n5_ n6_; clear hb hbox hg; have hnb8 := NB103_101.out; have hnc8 := NB101_103.out; have hcz9_0 : w7.cell? ⟨gb103, 0, none⟩ = some (.slice none 0 0) := (blk_cell BK103.out 0).trans rfl; have hfz9_0 := blk_frozen BK103.out 0))
      go_loopg [3, 23] k1 (fun kq v3 v23 w' => ∃ (x3_2 : Int) (x23_2 : Int), v3 = .int .i64 x3_2 ∧ v23 = .int .i64 x23_2 ∧ Aside0 (syntax_Count.l1 kq x3_2 l0_1 (l0_1.length : Int) x11_1 ((rd_T110 l0_1 x11_1).f0) (((rd_T110 l0_1 x11_1).f0).length : Int) x23_2 = some r) ∧ Aside0 (kq ≤ k1) ∧ Aside0 (w'.heap[gb101]? = some (.cells #[.string a0_0, (.slice (some ad102) l0_1.length c0_1)] 54 (0, 0))) ∧ Aside0 (w'.heap[gb103]? = some (.cells #[(.slice A102_0 ((rd_T110 l0_1 x11_1).f0).length c102_0)] 110 (0, 0))) ∧ Aside0 (Below w.heap.size w w'))
      case atStart => exact ⟨(wrap64 (x3_1 + (((rd_T110 l0_1 x11_1).f0).length : Int))), (0), (by first | rfl | (simp; done) | (simp [*]; done)), (by first | rfl | (simp; done) | (simp [*]; done)), H', ⟨Nat.le_refl _⟩, ⟨by (with_reducible repeat (first | refine blk_drewN ?_ _ | refine blk_drew ?_ | refine blk_alloc ?_ _)); refine blk_far ?_ NB101_103.out _; (with_reducible repeat (first | refine blk_drewN ?_ _ | refine blk_drew ?_ | refine blk_alloc ?_ _)); exact BK101.out⟩, ⟨by (with_reducible repeat (first | refine blk_drewN ?_ _ | refine blk_drew ?_ | refine blk_alloc ?_ _)); refine blk_put (cs := #[.slice none 0 0]) ?_ 0 _ rfl; (with_reducible repeat (first | refine blk_drewN ?_ _ | refine blk_drew ?_ | refine blk_alloc ?_ _)); exact BK103.out⟩, ⟨by repeat (first | (with_reducible first | exact HB.out | apply below_alloc | apply pw_below_drewN | apply below_drew1 | refine below_set ?_ GE101.out | refine below_set ?_ GE103.out) | exact HB.out)⟩⟩
      case round =>
       clear H'
       try clear c1
       try clear p1
       try clear q1
       try clear hx1
       try clear p2
       try clear c4
       try clear c4b0
       try clear c5
       try clear c5b0
       try clear c6
       try clear c6b0
       try clear p6
       try clear c8
       try clear hcz3_0
       try clear hcz3_1
       try clear hcz9_0
       try clear hfz3_0
       try clear hfz3_1
       try clear hfz9_0
       try clear hx102_0
       try clear p102
       try clear p2
       try clear q102
       obtain ⟨x3_2, x23_2, rfl, rfl, HA, HK2, BK101, BK103, HB⟩ := hrel
       cases gk with
       | zero => exact absurd HA.out (by simp [syntax_Count.l1])
       | succ k2 =>
        have H := HA.out
        clear HA
        simp only [syntax_Count.l1] at H
        by_cases c10 : x23_2 < (((rd_T110 l0_1 x11_1).f0).length : Int)
        ·rw [if_pos c10] at H
         have c10b0 : decide (x23_2 < (((rd_T110 l0_1 x11_1).f0).length : Int)) = true := decide_eq_true c10
         clear c10
         by_cases c11 : 0 ≤ x23_2
         ·rw [if_pos c11] at H
          have c11b0 : decide (0 ≤ x23_2) = true := decide_eq_true c11
          clear c11
          by_cases c12 : x23_2 < (((rd_T110 l0_1 x11_1).f0).length : Int)
          ·rw [if_pos c12] at H
           have c12b0 : decide (x23_2 < (((rd_T110 l0_1 x11_1).f0).length : Int)) = true := decide_eq_true c12
           clear c12
           replace H := Option.bind_eq_some_iff.mp H
           obtain ⟨t106, A130, H⟩ := H
           replace H : (syntax_Count.l1 k2 (wrap64 (x3_2 + t106)) l0_1 (l0_1.length : Int) x11_1 ((rd_T110 l0_1 x11_1).f0) (((rd_T110 l0_1 x11_1).f0).length : Int) (wrap64 (x23_2 + 1))) = some r := H
           have A13 := Aside0.mk A130
           clear A130
           have H' := Aside0.mk H
           clear H
           have p104 : 0 ≤ (x23_2 : Int) := of_decide_eq_true (by first | (with_reducible assumption) | assumption)
           have q104 : x23_2 < (((rd_T110 l0_1 x11_1).f0).length : Int) := of_decide_eq_true (by first | (with_reducible assumption) | assumption)
           obtain ⟨ad104, A104_2, c104_2, A104_5, c104_5, e104, hx104_0, hx104_1, hx104_2, hx104_3, hx104_4, hx104_5, hl104_2, hi104_2, hl104_5, hi104_5⟩ := at_T112 HR102_0.out x23_2 p104 q104
           cases e104
           replace hx104_0 := (HB.out.cell (World.block_lt_of_cell? w _ hx104_0)).trans hx104_0
           replace hx104_1 := (HB.out.cell (World.block_lt_of_cell? w _ hx104_1)).trans hx104_1
           replace hx104_2 := (HB.out.cell (World.block_lt_of_cell? w _ hx104_2)).trans hx104_2
           replace hx104_3 := (HB.out.cell (World.block_lt_of_cell? w _ hx104_3)).trans hx104_3
           replace hx104_4 := (HB.out.cell (World.block_lt_of_cell? w _ hx104_4)).trans hx104_4
           replace hx104_5 := (HB.out.cell (World.block_lt_of_cell? w _ hx104_5)).trans hx104_5
           have HR104_2 := Aside0.mk hi104_2
           have HC104_2 := Aside0.mk hl104_2
           clear hi104_2 hl104_2
           have HR104_5 := Aside0.mk hi104_5
           have HC104_5 := Aside0.mk hl104_5
           clear hi104_5 hl104_5
           replace p104 := eq_true p104
           replace q104 := eq_true q104
           go_wp2_with (first | ((with_reducible refine gate_dst (N := 7) rfl ?_); refine box_event ?hg (N := 7) ?hd (cs := #[.string (⟨#[]⟩ : ByteArray), .string (⟨#[]⟩ : ByteArray), .slice none 0 0, .bool false, .bool false, .slice none 0 0]) (t := 112) ?hr ?_; (case hd => rfl); (case hg => rfl); (case hr => first | (go_simp; done) | (go_simp; rfl)); intro gb105 hg w14 hbox hb; have n0_ := Aside0.mk (blk_below (g := gb101) (o := .cells #[.string a0_0, .slice (some ad102) l0_1.length c0_1] 54 (0, 0)) (by (with_reducible repeat (first | refine blk_drewN ?_ _ | refine blk_drew ?_ | refine blk_alloc ?_ _)); exact BK101.out) hb); have n1_ := Aside0.mk (blk_below (g := gb103) (o := .cells #[.slice (some ad104) ((rd_T110 l0_1 x11_1).f0).length c102_0] 110 (0, 0)) (by (with_reducible repeat (first | refine blk_drewN ?_ _ | refine blk_drew ?_ | refine blk_alloc ?_ _)); exact BK103.out) hb); have n2_ := Aside0.mk (below_step (by repeat (first | (with_reducible first | exact HB.out | apply below_alloc | apply pw_below_drewN | apply below_drew1 | refine below_set ?_ GE101.out | refine below_set ?_ GE103.out) | exact HB.out)) hb); have n3_ := Aside0.mk (hbox); have n4_ := Aside0.mk ((by rw [hg]; exact (below_size (by repeat (first | (with_reducible first | exact HB.out | apply below_alloc | apply pw_below_drewN | apply below_drew1 | refine below_set ?_ GE101.out | refine below_set ?_ GE103.out) | exact HB.out))) : w.heap.size ≤ gb105)); have n5_ := Aside0.mk ((by rw [hg]; exact (below_size (by repeat (first | (with_reducible first | exact HB.out | apply below_alloc | apply pw_below_drewN | apply below_drew1 | refine below_set ?_ GE101.out | refine below_set ?_ GE103.out) | exact HB.out))) : w.heap.size ≤ gb105)); have n6_ := Aside0.mk ((by rw [hg]; exact Nat.ne_of_lt (blk_lt (g := gb101) (o := .cells #[.string a0_0, .slice (some ad102) l0_1.length c0_1] 54 (0, 0)) (by (with_reducible repeat (first | refine blk_drewN ?_ _ | refine blk_drew ?_ | refine blk_alloc ?_ _)); exact BK101.out)) : gb101 ≠ gb105)); have n7_ := Aside0.mk ((by rw [hg]; exact Nat.ne_of_gt (blk_lt (g := gb101) (o := .cells #[.string a0_0, .slice (some ad102) l0_1.length c0_1] 54 (0, 0)) (by (with_reducible repeat (first | refine blk_drewN ?_ _ | refine blk_drew ?_ | refine blk_alloc ?_ _)); exact BK101.out)) : gb105 ≠ gb101)); have n8_ := Aside0.mk ((by rw [hg]; exact Nat.ne_of_lt (blk_lt (g := gb103) (o := .cells #[.slice (some ad104) ((rd_T110 l0_1 x11_1).f0).length c102_0] 110 (0, 0)) (by (with_reducible repeat (first | refine blk_drewN ?_ _ | refine blk_drew ?_ | refine blk_alloc ?_ _)); exact BK103.out)) : gb103 ≠ gb105)); have n9_ := Aside0.mk ((by rw [hg]; exact Nat.ne_of_gt (blk_lt (g := gb103) (o := .cells #[.slice (some ad104) ((rd_T110 l0_1 x11_1).f0).length c102_0] 110 (0, 0)) (by (with_reducible repeat (first | refine blk_drewN ?_ _ | refine blk_drew ?_ | refine blk_alloc ?_ _)); exact BK103.out)) : gb105 ≠ gb103)); clear BK101; clear BK103; clear HB; have BK101 := n0_; have BK103 := n1_; have HB := n2_; have BK105 := n3_; have GW105 := n4_; have GE105 := n5_; have NB101_105 := n6_; have NB105_101 := n7_; have NB103_105 := n8_; have NB105_103 := n9_; clear n0_ n1_ n2_ n3_ n4_ n5_ n6_ n7_ n8_ n9_; clear hb hbox hg; have hnb15 := NB105_101.out; have hnc15 := NB101_105.out; have hnb16 := NB105_103.out; have hnc16 := NB103_105.out; have hcz17_0 : w14.cell? ⟨gb105, 0, none⟩ = some (.string (⟨#[]⟩ : ByteArray)) := (blk_cell BK105.out 0).trans rfl; have hcz17_1 : w14.cell? ⟨gb105, 1, none⟩ = some (.string (⟨#[]⟩ : ByteArray)) := (blk_cell BK105.out 1).trans rfl; have hcz17_2 : w14.cell? ⟨gb105, 2, none⟩ = some (.slice none 0 0) := (blk_cell BK105.out 2).trans rfl; have hcz17_3 : w14.cell? ⟨gb105, 3, none⟩ = some (.bool false) := (blk_cell BK105.out 3).trans rfl; have hcz17_4 : w14.cell? ⟨gb105, 4, none⟩ = some (.bool false) := (blk_cell BK105.out 4).trans rfl; have hcz17_5 : w14.cell? ⟨gb105, 5, none⟩ = some (.slice none 0 0) := (blk_cell BK105.out 5).trans rfl; have hfz17_0 := blk_frozen BK105.out 0; have hfz17_1 := blk_frozen BK105.out 1; have hfz17_2 := blk_frozen BK105.out 2; have hfz17_3 := blk_frozen BK105.out 3; have hfz17_4 := blk_frozen BK105.out 4; have hfz17_5 := blk_frozen BK105.out 5) | ((with_reducible refine gate_callee (f := 110) rfl ?_); refine goesL_ (some 31) rfl rfl Tryz.func110 (by kernel_rfl) rfl #[.agg #[.string (⟨#[]⟩ : ByteArray), .slice A104_5 ((rd_T112 ((rd_T110 l0_1 x11_1).f0) x23_2).f5).length c104_5]] rfl (by (try simp only [List.map_toArray, List.map_cons, List.map_nil]); first | done | rfl | (simp only [List.length_drop, List.length_take]; rfl)) ?_; (with_reducible refine (ih k2 (by have := HK1.out; have := HK2.out; omega) (⟨#[]⟩ : ByteArray) _ _ ((rd_T112 ((rd_T110 l0_1 x11_1).f0) x23_2).f5) t106 _ ?side1 ?side2 A13.out).mono ?_); (case side1 => exact Kd.C_below HR104_5.out (by repeat (first | (with_reducible first | exact HB.out | apply below_alloc | apply pw_below_drewN | apply below_drew1 | refine below_set ?_ GE101.out | refine below_set ?_ GE103.out | refine below_set ?_ GE105.out) | exact HB.out))); (case side2 => exact HC104_5.out); rintro e w18 ⟨rfl, hb⟩; refine ⟨_, rfl, ?_⟩; have n0_ := Aside0.mk (blk_below (g := gb101) (o := .cells #[.string a0_0, .slice (some ad102) l0_1.length c0_1] 54 (0, 0)) (by (with_reducible repeat (first | refine blk_drewN ?_ _ | refine blk_drew ?_ | refine blk_alloc ?_ _)); refine blk_far ?_ NB101_105.out _; (with_reducible repeat (first | refine blk_drewN ?_ _ | refine blk_drew ?_ | refine blk_alloc ?_ _)); refine blk_far ?_ NB101_105.out _; (with_reducible repeat (first | refine blk_drewN ?_ _ | refine blk_drew ?_ | refine blk_alloc ?_ _)); refine blk_far ?_ NB101_105.out _; (with_reducible repeat (first | refine blk_drewN ?_ _ | refine blk_drew ?_ | refine blk_alloc ?_ _)); refine blk_far ?_ NB101_105.out _; (with_reducible repeat (first | refine blk_drewN ?_ _ | refine blk_drew ?_ | refine blk_alloc ?_ _)); refine blk_far ?_ NB101_105.out _; (with_reducible repeat (first | refine blk_drewN ?_ _ | refine blk_drew ?_ | refine blk_alloc ?_ _)); refine blk_far ?_ NB101_105.out _; (with_reducible repeat (first | refine blk_drewN ?_ _ | refine blk_drew ?_ | refine blk_alloc ?_ _)); exact BK101.out) hb); have n1_ := Aside0.mk (blk_below (g := gb103) (o := .cells #[.slice (some ad104) ((rd_T110 l0_1 x11_1).f0).length c102_0] 110 (0, 0)) (by (with_reducible repeat (first | refine blk_drewN ?_ _ | refine blk_drew ?_ | refine blk_alloc ?_ _)); refine blk_far ?_ NB103_105.out _; (with_reducible repeat (first | refine blk_drewN ?_ _ | refine blk_drew ?_ | refine blk_alloc ?_ _)); refine blk_far ?_ NB103_105.out _; (with_reducible repeat (first | refine blk_drewN ?_ _ | refine blk_drew ?_ | refine blk_alloc ?_ _)); refine blk_far ?_ NB103_105.out _; (with_reducible repeat (first | refine blk_drewN ?_ _ | refine blk_drew ?_ | refine blk_alloc ?_ _)); refine blk_far ?_ NB103_105.out _; (with_reducible repeat (first | refine blk_drewN ?_ _ | refine blk_drew ?_ | refine blk_alloc ?_ _)); refine blk_far ?_ NB103_105.out _; (with_reducible repeat (first | refine blk_drewN ?_ _ | refine blk_drew ?_ | refine blk_alloc ?_ _)); refine blk_far ?_ NB103_105.out _; (with_reducible repeat (first | refine blk_drewN ?_ _ | refine blk_drew ?_ | refine blk_alloc ?_ _)); exact BK103.out) hb); have n2_ := Aside0.mk (blk_below (g := gb105) (o := .cells #[.string ((rd_T112 ((rd_T110 l0_1 x11_1).f0) x23_2).f0), .string ((rd_T112 ((rd_T110 l0_1 x11_1).f0) x23_2).f1), .slice A104_2 ((rd_T112 ((rd_T110 l0_1 x11_1).f0) x23_2).f2).length c104_2, .bool ((rd_T112 ((rd_T110 l0_1 x11_1).f0) x23_2).f3), .bool ((rd_T112 ((rd_T110 l0_1 x11_1).f0) x23_2).f4), .slice A104_5 ((rd_T112 ((rd_T110 l0_1 x11_1).f0) x23_2).f5).length c104_5] 112 (0, 0)) (by (with_reducible repeat (first | refine blk_drewN ?_ _ | refine blk_drew ?_ | refine blk_alloc ?_ _)); refine blk_put (cs := #[.string ((rd_T112 ((rd_T110 l0_1 x11_1).f0) x23_2).f0), .string ((rd_T112 ((rd_T110 l0_1 x11_1).f0) x23_2).f1), .slice A104_2 ((rd_T112 ((rd_T110 l0_1 x11_1).f0) x23_2).f2).length c104_2, .bool ((rd_T112 ((rd_T110 l0_1 x11_1).f0) x23_2).f3), .bool ((rd_T112 ((rd_T110 l0_1 x11_1).f0) x23_2).f4), .slice none 0 0]) ?_ 5 _ rfl; (with_reducible repeat (first | refine blk_drewN ?_ _ | refine blk_drew ?_ | refine blk_alloc ?_ _)); refine blk_put (cs := #[.string ((rd_T112 ((rd_T110 l0_1 x11_1).f0) x23_2).f0), .string ((rd_T112 ((rd_T110 l0_1 x11_1).f0) x23_2).f1), .slice A104_2 ((rd_T112 ((rd_T110 l0_1 x11_1).f0) x23_2).f2).length c104_2, .bool ((rd_T112 ((rd_T110 l0_1 x11_1).f0) x23_2).f3), .bool false, .slice none 0 0]) ?_ 4 _ rfl; (with_reducible repeat (first | refine blk_drewN ?_ _ | refine blk_drew ?_ | refine blk_alloc ?_ _)); refine blk_put (cs := #[.string ((rd_T112 ((rd_T110 l0_1 x11_1).f0) x23_2).f0), .string ((rd_T112 ((rd_T110 l0_1 x11_1).f0) x23_2).f1), .slice A104_2 ((rd_T112 ((rd_T110 l0_1 x11_1).f0) x23_2).f2).length c104_2, .bool false, .bool false, .slice none 0 0]) ?_ 3 _ rfl; (with_reducible repeat (first | refine blk_drewN ?_ _ | refine blk_drew ?_ | refine blk_alloc ?_ _)); refine blk_put (cs := #[.string ((rd_T112 ((rd_T110 l0_1 x11_1).f0) x23_2).f0), .string ((rd_T112 ((rd_T110 l0_1 x11_1).f0) x23_2).f1), .slice none 0 0, .bool false, .bool false, .slice none 0 0]) ?_ 2 _ rfl; (with_reducible repeat (first | refine blk_drewN ?_ _ | refine blk_drew ?_ | refine blk_alloc ?_ _)); refine blk_put (cs := #[.string ((rd_T112 ((rd_T110 l0_1 x11_1).f0) x23_2).f0), .string (⟨#[]⟩ : ByteArray), .slice none 0 0, .bool false, .bool false, .slice none 0 0]) ?_ 1 _ rfl; (with_reducible repeat (first | refine blk_drewN ?_ _ | refine blk_drew ?_ | refine blk_alloc ?_ _)); refine blk_put (cs := #[.string (⟨#[]⟩ : ByteArray), .string (⟨#[]⟩ : ByteArray), .slice none 0 0, .bool false, .bool false, .slice none 0 0]) ?_ 0 _ rfl; (with_reducible repeat (first | refine blk_drewN ?_ _ | refine blk_drew ?_ | refine blk_alloc ?_ _)); exact BK105.out) hb); have n3_ := Aside0.mk (below_step (by repeat (first | (with_reducible first | exact HB.out | apply below_alloc | apply pw_below_drewN | apply below_drew1 | refine below_set ?_ GE101.out | refine below_set ?_ GE103.out | refine below_set ?_ GE105.out) | exact HB.out)) hb); clear BK101; clear BK103; clear BK105; clear HB; have BK101 := n0_; have BK103 := n1_; have BK105 := n2_; have HB := n3_; clear n0_ n1_ n2_ n3_; (try clear hb); (try clear hb2); (try clear hk); (try clear hi)))
           go_roundg k2
           case measure => have := HK1.out; have := HK2.out; omega
           case rel => exact ⟨(wrap64 (x3_2 + t106)), (wrap64 (x23_2 + 1)), (by first | rfl | (simp; done) | (simp [*]; done)), (by first | rfl | (simp; done) | (simp [*]; done)), H', ⟨by have := HK1.out; have := HK2.out; omega⟩, ⟨by (with_reducible repeat (first | refine blk_drewN ?_ _ | refine blk_drew ?_ | refine blk_alloc ?_ _)); exact BK101.out⟩, ⟨by (with_reducible repeat (first | refine blk_drewN ?_ _ | refine blk_drew ?_ | refine blk_alloc ?_ _)); exact BK103.out⟩, ⟨by repeat (first | (with_reducible first | exact HB.out | apply below_alloc | apply pw_below_drewN | apply below_drew1 | refine below_set ?_ GE101.out | refine below_set ?_ GE103.out | refine below_set ?_ GE105.out) | exact HB.out)⟩⟩
          ·rw [if_neg c12] at H
           exact absurd H (by simp)
         ·rw [if_neg c11] at H
          exact absurd H (by simp)
        ·rw [if_neg c10] at H
         have c10b0 : decide (x23_2 < (((rd_T110 l0_1 x11_1).f0).length : Int)) = false := decide_eq_false c10
         clear c10
         have H' := Aside0.mk H
         clear H
         go_wp2
         go_roundg k2
         case measure => have := HK1.out; have := HK2.out; omega
         case rel => exact ⟨(x3_2), (wrap64 (x11_1 + 1)), (by first | rfl | (simp; done) | (simp [*]; done)), (by first | rfl | (simp; done) | (simp [*]; done)), H', ⟨by have := HK1.out; have := HK2.out; omega⟩, ⟨by (with_reducible repeat (first | refine blk_drewN ?_ _ | refine blk_drew ?_ | refine blk_alloc ?_ _)); exact BK101.out⟩, ⟨by repeat (first | (with_reducible first | exact HB.out | apply below_alloc | apply pw_below_drewN | apply below_drew1 | refine below_set ?_ GE101.out | refine below_set ?_ GE103.out) | exact HB.out)⟩⟩
     ·rw [if_neg c6] at H
      exact absurd H (by simp)
    ·rw [if_neg c5] at H
     exact absurd H (by simp)
   ·rw [if_neg c4] at H
    have c4b0 : decide (x11_1 < (l0_1.length : Int)) = false := decide_eq_false c4
    clear c4
    obtain rfl := Option.some.inj H
    go_wp2
    go_ret
    exact ⟨by first | rfl | (simp [errW_none, errW_some] <;> rfl) | (simp [*, errW_none, errW_some] <;> rfl), by repeat (first | (with_reducible first | exact HB.out | apply below_alloc | apply pw_below_drewN | apply below_drew1 | refine below_set ?_ GE101.out) | exact HB.out)⟩
def stringslite_HasPrefix.f (a0 : ByteArray) (a1 : ByteArray) : Option (Bool) := if (a0.size : Int) ≥ (a1.size : Int) then (if 0 ≤ (a1.size : Int) then (if (a1.size : Int) ≤ (a0.size : Int) then (some ((a0.extract 0 ((a1.size : Int) : Int).toNat).toList == a1.toList)) else (none)) else (none)) else (some false)
set_option maxHeartbeats 8000000 in
set_option maxRecDepth 100000 in
theorem stringslite_HasPrefix.calls (a0 : ByteArray) (a1 : ByteArray) (r : Bool) (w : World) (h : stringslite_HasPrefix.f a0 a1 = some r) :
  Calls Tryz.prog 122 #[.string a0, .string a1] w fun e w' => e = .returned (.bool r) ∧ Drawn0 w w' := by
 have H : (if (a0.size : Int) ≥ (a1.size : Int) then (if 0 ≤ (a1.size : Int) then (if (a1.size : Int) ≤ (a0.size : Int) then (some ((a0.extract 0 ((a1.size : Int) : Int).toNat).toList == a1.toList)) else (none)) else (none)) else (some false)) = some r := h
 clear h
 by_cases c3 : (a0.size : Int) ≥ (a1.size : Int)
 ·rw [if_pos c3] at H
  have c3b0 : decide ((a1.size : Int) ≤ (a0.size : Int)) = true := decide_eq_true c3
  have c3b1 : decide (a1.size ≤ a0.size) = true := decide_eq_true (Int.ofNat_le.mp c3)
  clear c3
  by_cases c4 : 0 ≤ (a1.size : Int)
  ·rw [if_pos c4] at H
   have c4b0 := eq_true c4
   have c4b1 : decide (0 ≤ (a1.size : Int)) = true := decide_eq_true c4
   clear c4
   by_cases c5 : (a1.size : Int) ≤ (a0.size : Int)
   ·rw [if_pos c5] at H
    have c5b0 := eq_true c5
    have c5b1 : decide ((a1.size : Int) ≤ (a0.size : Int)) = true := decide_eq_true c5
    clear c5
    obtain rfl := Option.some.inj H
    go_enter Tryz.func122, Tryz.ntmps122
    go_wp2
    go_ret
    exact ⟨by first | rfl | (simp; done) | (simp [*]; done), by repeat (first | exact Drawn0.refl _ | apply Drawn0.step)⟩
   ·rw [if_neg c5] at H
    exact absurd H (by simp)
  ·rw [if_neg c4] at H
   exact absurd H (by simp)
 ·rw [if_neg c3] at H
  have c3b0 : decide ((a1.size : Int) ≤ (a0.size : Int)) = false := decide_eq_false c3
  have c3b1 : decide (a1.size ≤ a0.size) = false := decide_eq_false (fun h => c3 (Int.ofNat_le.mpr h))
  clear c3
  obtain rfl := Option.some.inj H
  go_enter Tryz.func122, Tryz.ntmps122
  go_wp2
  go_ret
  exact ⟨by first | rfl | (simp; done) | (simp [*]; done), by repeat (first | exact Drawn0.refl _ | apply Drawn0.step)⟩
def strings_HasPrefix.f (a0 : ByteArray) (a1 : ByteArray) : Option (Bool) := (stringslite_HasPrefix.f a0 a1).bind fun t107 => (some t107)
set_option maxHeartbeats 8000000 in
set_option maxRecDepth 100000 in
theorem strings_HasPrefix.calls (a0 : ByteArray) (a1 : ByteArray) (r : Bool) (w : World) (h : strings_HasPrefix.f a0 a1 = some r) :
  Calls Tryz.prog 89 #[.string a0, .string a1] w fun e w' => e = .returned (.bool r) ∧ Drawn0 w w' := by
 have H : ((stringslite_HasPrefix.f a0 a1).bind fun t107 => (some t107)) = some r := h
 clear h
 replace H := Option.bind_eq_some_iff.mp H
 obtain ⟨t107, A30, H⟩ := H
 replace H : (some t107) = some r := H
 have A3 := Aside0.mk A30
 clear A30
 obtain rfl := Option.some.inj H
 go_enter Tryz.func89, Tryz.ntmps89
 go_wp2_with (first | ((with_reducible refine gate_callee (f := 122) rfl ?_); refine goesL_ (some 7) rfl rfl Tryz.func122 (by kernel_rfl) rfl #[.string a0, .string a1] rfl (by (try simp only [List.map_toArray, List.map_cons, List.map_nil]); first | done | rfl | (simp only [List.length_drop, List.length_take]; rfl)) ?_; (with_reducible refine (stringslite_HasPrefix.calls a0 a1 t107 _ A3.out).mono ?_); rintro e w' ⟨rfl, ⟨nd, rfl⟩⟩; refine ⟨_, rfl, ?_⟩))
 go_ret
 exact ⟨by first | rfl | (simp; done) | (simp [*]; done), by repeat (first | exact Drawn0.refl _ | apply Drawn0.step)⟩
def glyph_broken.f (a0 : ByteArray) (a1 : Int) (a2 : Int) : Option (Bool) := if a2 = 65533 then (if 0 ≤ a1 then (if a1 ≤ (a0.size : Int) then ((strings_HasPrefix.f (a0.extract (a1 : Int).toNat a0.size) (⟨#[239, 191, 189]⟩ : ByteArray)).bind fun t108 => (some (!t108))) else (none)) else (none)) else (some false)
set_option maxHeartbeats 8000000 in
set_option maxRecDepth 100000 in
theorem glyph_broken.calls (a0 : ByteArray) (a1 : Int) (a2 : Int) (r : Bool) (w : World) (h : glyph_broken.f a0 a1 a2 = some r) :
  Calls Tryz.prog 168 #[.string a0, .int .i64 a1, .int .i32 a2] w fun e w' => e = .returned (.bool r) ∧ Drawn0 w w' := by
 have H : (if a2 = 65533 then (if 0 ≤ a1 then (if a1 ≤ (a0.size : Int) then ((strings_HasPrefix.f (a0.extract (a1 : Int).toNat a0.size) (⟨#[239, 191, 189]⟩ : ByteArray)).bind fun t108 => (some (!t108))) else (none)) else (none)) else (some false)) = some r := h
 clear h
 by_cases c4 : a2 = 65533
 ·rw [if_pos c4] at H
  have c4b0 : (a2 == 65533) = true := beq_iff_eq.mpr c4
  have c4b1 : (a2 != 65533) = false := bne_eq_false_iff_eq.mpr c4
  clear c4
  by_cases c5 : 0 ≤ a1
  ·rw [if_pos c5] at H
   have c5b0 := eq_true c5
   have c5b1 : decide (0 ≤ a1) = true := decide_eq_true c5
   clear c5
   by_cases c6 : a1 ≤ (a0.size : Int)
   ·rw [if_pos c6] at H
    have c6b0 := eq_true c6
    have c6b1 : decide (a1 ≤ (a0.size : Int)) = true := decide_eq_true c6
    clear c6
    replace H := Option.bind_eq_some_iff.mp H
    obtain ⟨t108, A70, H⟩ := H
    replace H : (some (!t108)) = some r := H
    have A7 := Aside0.mk A70
    clear A70
    obtain rfl := Option.some.inj H
    go_enter Tryz.func168, Tryz.ntmps168
    go_wp2_with (first | (go_at_call 89; (with_reducible refine (strings_HasPrefix.calls (a0.extract (a1 : Int).toNat a0.size) (⟨#[239, 191, 189]⟩ : ByteArray) t108 _ A7.out).mono ?_); rintro e w' ⟨rfl, ⟨nd, rfl⟩⟩))
    go_ret
    exact ⟨by first | rfl | (simp; done) | (simp [*]; done), by repeat (first | exact Drawn0.refl _ | apply Drawn0.step)⟩
   ·rw [if_neg c6] at H
    exact absurd H (by simp)
  ·rw [if_neg c5] at H
   exact absurd H (by simp)
 ·rw [if_neg c4] at H
  have c4b0 : (a2 == 65533) = false := beq_eq_false_iff_ne.mpr c4
  have c4b1 : (a2 != 65533) = true := bne_iff_ne.mpr c4
  obtain rfl := Option.some.inj H
  go_enter Tryz.func168, Tryz.ntmps168
  go_wp2
  go_ret
  exact ⟨by first | rfl | (simp; done) | (simp [*]; done), by repeat (first | exact Drawn0.refl _ | apply Drawn0.step)⟩
end Go.Proofs.YtloijngccppfgaaGreat.F
end

section
namespace Go.Proofs.YtloijngccppfgaaGreat.F
open Go.RowKit Go.Proofs.YtloijngccppfgaaGreatW.PrintWords Go.Proofs.YtloijngccppfgaaGreatW.PrintLast Go.Proofs.YtloijngccppfgaaGreatW.PrintMore
attribute [local go_sem] max2_int min2_int max_two min_two max_three min_three max_four min_four
set_option linter.unusedVariables false
set_option linter.unusedSimpArgs false
def badAt (s : ByteArray) (pos : Nat) : Bool := (Utf8.decode s pos).1 == 65533 && (Utf8.decode s pos).2 == 1
def badFrom (s : ByteArray) : Nat → Nat → Int
 | 0, _ => -1
 | f + 1, pos => if pos < s.size then (if badAt s pos then (pos : Int) else badFrom s f (pos + (Utf8.decode s pos).2)) else -1
def badOf (s : ByteArray) : Int := badFrom s s.size 0
def glyph_Bad.f (a0 : ByteArray) : Option Int := some (badOf a0)
theorem width_pos (s : ByteArray) (pos : Nat) (h : pos < s.size) : 1 ≤ (Utf8.decode s pos).2 := by
 by_cases ha : (s[pos]'h).toNat < 128
 ·rw [decode_ascii s pos h ha]
  exact Nat.le_refl _
 ·exact (decode_high s pos h (by omega)).2
theorem badFrom_end (s : ByteArray) (f pos : Nat) (h : ¬ pos < s.size) : badFrom s f pos = -1 := by
 cases f with
 | zero => rfl
 | succ f => simp [badFrom, h]
theorem prefix_of (s : ByteArray) (pos : Nat) (h : pos ≤ s.size) : strings_HasPrefix.f (s.extract pos s.size) (⟨#[239, 191, 189]⟩ : ByteArray) = some (decide (pos + 3 ≤ s.size ∧ (s.get! (pos + 0)).toNat = 239 ∧ (s.get! (pos + 1)).toNat = 191 ∧ (s.get! (pos + 2)).toNat = 189)) := by
 unfold strings_HasPrefix.f stringslite_HasPrefix.f
 have hs : (s.extract pos s.size).size = s.size - pos := by rw [ByteArray.size_extract]; omega
 have h3 : ((⟨#[239, 191, 189]⟩ : ByteArray).size : Int) = 3 := rfl
 rw [hs, h3]
 by_cases hl : pos + 3 ≤ s.size
 ·rw [if_pos (by omega), if_pos (by omega), if_pos (by omega)]
  simp only [Option.bind_some]
  congr 1
  have hL : s.data.toList.length = s.size := data_length s
  have he : ((s.extract pos s.size).extract 0 ((3 : Int)).toNat).toList = [s.get! (pos + 0), s.get! (pos + 1), s.get! (pos + 2)] := by
   rw [Go.ByteArray.toList_eq, ByteArray.data_extract, ByteArray.data_extract, Array.toList_extract, Array.toList_extract]
   rw [← Go.Lib.getD_get!', ← Go.Lib.getD_get!', ← Go.Lib.getD_get!']
   have g : ∀ k, k < 3 → s.data.toList.getD (pos + k) 0 = s.data.toList[pos + k]?.getD 0 := fun k _ => by rw [List.getD_eq_getElem?_getD]
   rw [g 0 (by omega), g 1 (by omega), g 2 (by omega)]
   rw [List.getElem?_eq_getElem (by omega), List.getElem?_eq_getElem (by omega), List.getElem?_eq_getElem (by omega)]
   simp only [Option.getD_some]
   apply List.ext_getElem
   ·simp [List.extract_eq_take_drop]; omega
   ·intro i h1 h2
    simp only [List.length_cons, List.length_nil] at h2
    have : i = 0 ∨ i = 1 ∨ i = 2 := by omega
    rcases this with rfl | rfl | rfl <;> simp [List.extract_eq_take_drop]
  rw [he]
  rw [show (⟨#[239, 191, 189]⟩ : ByteArray).toList = [239, 191, 189] from by rw [Go.ByteArray.toList_eq]]
  rw [Bool.eq_iff_iff]
  simp only [beq_iff_eq, List.cons.injEq, and_true, decide_eq_true_eq, ← UInt8.toNat_inj]
  exact ⟨fun h => ⟨hl, h⟩, fun h => h.2⟩
 ·rw [if_neg (by omega)]
  simp [hl]
def dec4 (m a b c d : Nat) : Nat × Nat :=
 if a < 0x80 then (a, 1)
 else if a / 32 == 6 && (decide (1 < m) && b / 64 == 2) then
  if a % 32 * 64 + b % 64 ≥ 0x80 then (a % 32 * 64 + b % 64, 2) else (65533, 1)
 else if a / 16 == 14 && (decide (1 < m) && b / 64 == 2) && (decide (2 < m) && c / 64 == 2) then
  if decide (a % 16 * 4096 + b % 64 * 64 + c % 64 ≥ 0x800) && Utf8.valid ((a % 16 * 4096 + b % 64 * 64 + c % 64 : Nat) : Int) then (a % 16 * 4096 + b % 64 * 64 + c % 64, 3) else (65533, 1)
 else if a / 8 == 30 && (decide (1 < m) && b / 64 == 2) && (decide (2 < m) && c / 64 == 2) && (decide (3 < m) && d / 64 == 2) then
  if decide (a % 8 * 262144 + b % 64 * 4096 + c % 64 * 64 + d % 64 ≥ 0x10000) && Utf8.valid ((a % 8 * 262144 + b % 64 * 4096 + c % 64 * 64 + d % 64 : Nat) : Int) then (a % 8 * 262144 + b % 64 * 4096 + c % 64 * 64 + d % 64, 4) else (65533, 1)
 else (65533, 1)
theorem decode_eq (s : ByteArray) (pos : Nat) : Utf8.decode s pos = dec4 (s.size - pos) (s.get! (pos + 0)).toNat (s.get! (pos + 1)).toNat (s.get! (pos + 2)).toNat (s.get! (pos + 3)).toNat := by
 have e : ∀ k, decide (pos + k < s.size) = decide (k < s.size - pos) := fun k => decide_eq_decide.2 (by omega)
 unfold Utf8.decode dec4
 simp only [e, Utf8.runeError]
theorem dec4_fffd (m a b c d : Nat) (h0 : a < 256) (h1 : b < 256) (h2 : c < 256) (h3 : d < 256) (hd : (dec4 m a b c d).1 = 65533) : ((dec4 m a b c d).2 = 1) ↔ ¬ (3 ≤ m ∧ a = 239 ∧ b = 191 ∧ c = 189) := by
 by_cases g : 3 ≤ m ∧ a = 239 ∧ b = 191 ∧ c = 189
 ·obtain ⟨g0, rfl, rfl, rfl⟩ := g
  have e1 : 1 < m := by omega
  have e2 : 2 < m := by omega
  simp [dec4, e1, e2, Utf8.valid]
  omega
 ·refine ⟨fun _ => g, fun _ => ?_⟩
  unfold dec4 at hd ⊢
  repeat' split at hd
  all_goals (simp only [Bool.and_eq_true, decide_eq_true_eq, beq_iff_eq] at *)
  all_goals (first | (simp_all; done) | (exfalso; omega) | skip)
  all_goals (repeat' split)
  all_goals (first | rfl | contradiction | (exfalso; omega))
theorem broken_of (s : ByteArray) (pos : Nat) (h : pos < s.size) : glyph_broken.f s pos (Utf8.decode s pos).1 = some (badAt s pos) := by
 unfold glyph_broken.f badAt
 by_cases hd : (Utf8.decode s pos).1 = 65533
 ·rw [if_pos (by omega), if_pos (by omega), if_pos (by omega)]
  rw [Int.toNat_natCast, prefix_of s pos (by omega)]
  simp only [Option.bind_some, hd, beq_self_eq_true, Bool.true_and]
  have := dec4_fffd (s.size - pos) (s.get! (pos + 0)).toNat (s.get! (pos + 1)).toNat (s.get! (pos + 2)).toNat (s.get! (pos + 3)).toNat (UInt8.toNat_lt _) (UInt8.toNat_lt _) (UInt8.toNat_lt _) (UInt8.toNat_lt _) (by rw [← decode_eq]; exact hd)
  rw [← decode_eq] at this
  congr 1
  rw [Bool.eq_iff_iff]
  simp only [Bool.not_eq_true', decide_eq_false_iff_not, beq_iff_eq]
  rw [this]
  constructor
  ·intro h1 h2; exact h1 ⟨by omega, h2.2⟩
  ·intro h1 h2; exact h1 ⟨by omega, h2.2⟩
 ·rw [if_neg (by omega)]
  simp [hd]
set_option maxHeartbeats 4000000 in
set_option maxRecDepth 100000 in
theorem glyph_Bad.calls (a0 : ByteArray) (r : Int) (w : World) (h : glyph_Bad.f a0 = some r) : Calls Tryz.prog 159 #[.string a0] w fun e w' => e = .returned (.int .i64 r) ∧ Below w.heap.size w w' := by
 obtain rfl := Option.some.inj h
 clear h
 go_enter Tryz.func159, Tryz.ntmps159
 go_wp2
 go_loopw [] (fun wr => ∃ (pos fuel : Nat), wr.heap[w.heap.size]? = some (.stringIter a0 pos) ∧ Aside0 (Below w.heap.size w wr) ∧ Aside0 (badFrom a0 fuel pos = badOf a0) ∧ Aside0 (a0.size ≤ pos + fuel)) (fun wr => a0.size - wr.iterPos w.heap.size)
 case atStart => exact ⟨0, a0.size, World.iter_heap w a0 0, ⟨(Below.refl _ w).alloc (Nat.le_refl _) _⟩, ⟨rfl⟩, ⟨by omega⟩⟩
 case round =>
  obtain ⟨pos, fuel, hit, HB, HE, HF⟩ := hrel
  have HIT := Aside0.mk hit
  clear hit
  by_cases hp : pos < a0.size
  ·have hnx : ∀ ty, (Instr.next (.pointer (some ⟨w.heap.size, 0, none⟩)) true ty).run Tryz.prog wr = _ := fun ty => Go.Lib.run_next_any_at wr w.heap.size a0 pos ty HIT.out hp
   have hbr := broken_of a0 pos hp
   have hwd := Aside0.mk (width_pos a0 pos hp)
   have HIT2 := Aside0.mk (Go.Lib.iterAt_heap wr w.heap.size a0 pos (pos + (Utf8.decode a0 pos).2) HIT.out)
   have HB2 := Aside0.mk (Go.Lib.below_iterAt HB.out (k := w.heap.size) (Nat.le_refl _) a0 (pos + (Utf8.decode a0 pos).2))
   obtain ⟨f, hf⟩ : ∃ f, fuel = f + 1 := ⟨fuel - 1, by have := HF.out; omega⟩
   have HE2 : Aside0 ((if badAt a0 pos then (pos : Int) else badFrom a0 f (pos + (Utf8.decode a0 pos).2)) = badOf a0) := ⟨by have := HE.out; rw [hf] at this; simpa [badFrom, hp] using this⟩
   have HF2 : Aside0 (a0.size ≤ pos + (Utf8.decode a0 pos).2 + f) := ⟨by have := HF.out; have := hwd.out; omega⟩
   have HP := Aside0.mk hp
   have HBR := Aside0.mk hbr
   obtain ⟨b, hb⟩ : ∃ b, badAt a0 pos = b := ⟨_, rfl⟩
   have HV := Aside0.mk hb
   clear hb hf HE HF hp hbr
   generalize (Utf8.decode a0 pos).2 = wd at *
   generalize (Utf8.decode a0 pos).1 = cp at *
   cases b
   all_goals
    go_wp2_with (go_at_call 168; refine (glyph_broken.calls a0 pos cp _ _ HBR.out).mono ?_; rintro e w2 ⟨rfl, ⟨nq, rfl⟩⟩; rw [HV.out])
   ·go_roundw
    case rel => exact ⟨pos + wd, f, HIT2.out, ⟨HB2.out.trans (pw_below_drewN (Below.refl _ _) _)⟩, ⟨by have := HE2.out; rw [HV.out] at this; simpa using this⟩, HF2⟩
    case measure =>
     have h1 := HIT.out
     have h2 := HIT2.out
     have h3 := HP.out
     have h4 := hwd.out
     simp only [World.iterPos, World.heap_drewN, h1, h2]
     omega
   ·go_ret
    exact ⟨by have := HE2.out; rw [HV.out] at this; simp at this; rw [← this]; rfl, HB2.out.trans (pw_below_drewN (Below.refl _ _) _)⟩
  ·have hnx : ∀ ty, (Instr.next (.pointer (some ⟨w.heap.size, 0, none⟩)) true ty).run Tryz.prog wr = _ := fun ty => Go.Lib.run_next_end_at wr w.heap.size a0 pos ty HIT.out hp
   have HE2 : Aside0 (badOf a0 = -1) := ⟨by rw [← HE.out]; exact badFrom_end a0 fuel pos hp⟩
   clear hp
   go_wp2
   go_ret
   exact ⟨by rw [HE2.out]; rfl, HB.out⟩
end Go.Proofs.YtloijngccppfgaaGreat.F
end

section
namespace Go.Proofs.YtloijngccppfgaaGreat.F
open Go.RowKit Go.Proofs.YtloijngccppfgaaGreatW.PrintWords Go.Proofs.YtloijngccppfgaaGreatW.PrintLast Go.Proofs.YtloijngccppfgaaGreatW.PrintMore
attribute [local go_sem] max2_int min2_int max_two min_two max_three min_three max_four min_four
set_option linter.unusedVariables false
set_option linter.unusedSimpArgs false
def utf8_RuneLen.j0 : Nat → Int → Bool → Option (Int)
 | 0, _, _ => none
 | k + 1, x0, x12 => if x12 = true then (some (-1)) else (if x0 ≤ 65535 then (some 3) else (if x0 ≤ 1114111 then (some 4) else (some (-1))))
def utf8_RuneLen.f (k : Nat) (a0 : Int) : Option (Int) := if a0 < 0 then (some (-1)) else (if a0 ≤ 127 then (some 1) else (if a0 ≤ 2047 then (some 2) else (if 55296 ≤ a0 then (utf8_RuneLen.j0 k a0 (decide (a0 ≤ 57343))) else (utf8_RuneLen.j0 k a0 false))))
set_option maxHeartbeats 8000000 in
set_option maxRecDepth 100000 in
theorem utf8_RuneLen.calls (k : Nat) (a0 : Int) (r : Int) (w : World) (h : utf8_RuneLen.f k a0 = some r) :
  Calls Tryz.prog 174 #[.int .i32 a0] w fun e w' => e = .returned (.int .i64 r) ∧ Drawn0 w w' := by
 have H : (if a0 < 0 then (some (-1)) else (if a0 ≤ 127 then (some 1) else (if a0 ≤ 2047 then (some 2) else (if 55296 ≤ a0 then (utf8_RuneLen.j0 k a0 (decide (a0 ≤ 57343))) else (utf8_RuneLen.j0 k a0 false))))) = some r := h
 clear h
 by_cases c2 : a0 < 0
 ·rw [if_pos c2] at H
  have c2b0 : decide (a0 < 0) = true := decide_eq_true c2
  clear c2
  obtain rfl := Option.some.inj H
  go_enter Tryz.func174, Tryz.ntmps174
  go_wp2
  go_ret
  exact ⟨by first | rfl | (simp; done) | (simp [*]; done), by repeat (first | exact Drawn0.refl _ | apply Drawn0.step)⟩
 ·rw [if_neg c2] at H
  have c2b0 : decide (a0 < 0) = false := decide_eq_false c2
  clear c2
  by_cases c3 : a0 ≤ 127
  ·rw [if_pos c3] at H
   have c3b0 : decide (a0 ≤ 127) = true := decide_eq_true c3
   clear c3
   obtain rfl := Option.some.inj H
   go_enter Tryz.func174, Tryz.ntmps174
   go_wp2
   go_ret
   exact ⟨by first | rfl | (simp; done) | (simp [*]; done), by repeat (first | exact Drawn0.refl _ | apply Drawn0.step)⟩
  ·rw [if_neg c3] at H
   have c3b0 : decide (a0 ≤ 127) = false := decide_eq_false c3
   clear c3
   by_cases c4 : a0 ≤ 2047
   ·rw [if_pos c4] at H
    have c4b0 : decide (a0 ≤ 2047) = true := decide_eq_true c4
    clear c4
    obtain rfl := Option.some.inj H
    go_enter Tryz.func174, Tryz.ntmps174
    go_wp2
    go_ret
    exact ⟨by first | rfl | (simp; done) | (simp [*]; done), by repeat (first | exact Drawn0.refl _ | apply Drawn0.step)⟩
   ·rw [if_neg c4] at H
    have c4b0 : decide (a0 ≤ 2047) = false := decide_eq_false c4
    clear c4
    have HC5 := Aside0.mk H
    clear H
    go_enter Tryz.func174, Tryz.ntmps174
    go_upto_region 7 with (fail)
    go_cut [12] (fun v12 wc => ∃ (kq : Nat) (x12_4 : Bool), v12 = .bool x12_4 ∧ Aside0 (utf8_RuneLen.j0 kq a0 x12_4 = some r) ∧ Aside0 (kq ≤ k) ∧ Drawn0 w wc)
    case first =>
     have H := HC5.out
     clear HC5
     by_cases c6 : 55296 ≤ a0
     ·rw [if_pos c6] at H
      have c6b0 : decide (55296 ≤ a0) = true := decide_eq_true c6
      clear c6
      (first | rw [c6b0] | (simp only [i64_w, i32_w]; rw [c6b0]) | skip)
      have H' := Aside0.mk H
      clear H
      go_wp2
      go_meet
      case rel => exact ⟨_, (decide (a0 ≤ 57343)), (by first | rfl | (simp; done) | (simp [*]; done)), H', ⟨by first | omega | exact Nat.le_refl _⟩, by repeat (first | exact Drawn0.refl _ | apply Drawn0.step)⟩
     ·rw [if_neg c6] at H
      have c6b0 : decide (55296 ≤ a0) = false := decide_eq_false c6
      clear c6
      (first | rw [c6b0] | (simp only [i64_w, i32_w]; rw [c6b0]) | skip)
      have H' := Aside0.mk H
      clear H
      go_wp2
      go_meet
      case rel => exact ⟨_, (false), (by first | rfl | (simp; done) | (simp [*]; done)), H', ⟨by first | omega | exact Nat.le_refl _⟩, by repeat (first | exact Drawn0.refl _ | apply Drawn0.step)⟩
    case rest =>
     clear HC5
     try clear c1
     try clear c2
     try clear c2b0
     try clear p2
     try clear c3
     try clear c3b0
     try clear c4
     try clear c4b0
     try clear c6
     try clear c6b0
     obtain ⟨kq, x12_4, rfl, HA, HJ4, ⟨mc4, rfl⟩⟩ := hcut
     cases kq with
     | zero => exact absurd HA.out (by simp [utf8_RuneLen.j0])
     | succ kj4 =>
      have H := HA.out
      clear HA
      simp only [utf8_RuneLen.j0] at H
      by_cases c7 : x12_4 = true
      ·subst c7
       have H1 : (some (-1)) = some r := by rw [if_pos rfl] at H; exact H
       clear H
       have H := H1
       clear H1
       obtain rfl := Option.some.inj H
       go_wp2
       go_ret
       exact ⟨by first | rfl | (simp; done) | (simp [*]; done), by repeat (first | exact Drawn0.refl _ | apply Drawn0.step)⟩
      ·replace c7 := Bool.eq_false_iff.mpr c7
       subst c7
       have H1 : (if a0 ≤ 65535 then (some 3) else (if a0 ≤ 1114111 then (some 4) else (some (-1)))) = some r := by rw [if_neg (show ¬ (false = true) by decide)] at H; exact H
       clear H
       have H := H1
       clear H1
       by_cases c8 : a0 ≤ 65535
       ·rw [if_pos c8] at H
        have c8b0 : decide (a0 ≤ 65535) = true := decide_eq_true c8
        clear c8
        obtain rfl := Option.some.inj H
        go_wp2
        go_ret
        exact ⟨by first | rfl | (simp; done) | (simp [*]; done), by repeat (first | exact Drawn0.refl _ | apply Drawn0.step)⟩
       ·rw [if_neg c8] at H
        have c8b0 : decide (a0 ≤ 65535) = false := decide_eq_false c8
        clear c8
        by_cases c9 : a0 ≤ 1114111
        ·rw [if_pos c9] at H
         have c9b0 : decide (a0 ≤ 1114111) = true := decide_eq_true c9
         clear c9
         obtain rfl := Option.some.inj H
         go_wp2
         go_ret
         exact ⟨by first | rfl | (simp; done) | (simp [*]; done), by repeat (first | exact Drawn0.refl _ | apply Drawn0.step)⟩
        ·rw [if_neg c9] at H
         have c9b0 : decide (a0 ≤ 1114111) = false := decide_eq_false c9
         clear c9
         obtain rfl := Option.some.inj H
         go_wp2
         go_ret
         exact ⟨by first | rfl | (simp; done) | (simp [*]; done), by repeat (first | exact Drawn0.refl _ | apply Drawn0.step)⟩
def glyph_Width.f (k : Nat) (a0 : Int) : Option (Int) := if a0 < 0 then (some 0) else (if a0 > 1114111 then (some 0) else ((utf8_RuneLen.f k (wrap32 (a0))).bind fun t109 => (some (mx 0 t109))))
set_option maxHeartbeats 8000000 in
set_option maxRecDepth 100000 in
theorem glyph_Width.calls (k : Nat) (a0 : Int) (r : Int) (w : World) (h : glyph_Width.f k a0 = some r) :
  Calls Tryz.prog 170 #[.int .i64 a0] w fun e w' => e = .returned (.int .i64 r) ∧ Below w.heap.size w w' := by
 have HB := Aside0.mk (Below.refl w.heap.size w)
 have H : (if a0 < 0 then (some 0) else (if a0 > 1114111 then (some 0) else ((utf8_RuneLen.f k (wrap32 (a0))).bind fun t109 => (some (mx 0 t109))))) = some r := h
 clear h
 by_cases c2 : a0 < 0
 ·rw [if_pos c2] at H
  have c2b0 : decide (a0 < 0) = true := decide_eq_true c2
  clear c2
  obtain rfl := Option.some.inj H
  go_enter Tryz.func170, Tryz.ntmps170
  go_wp2
  go_ret
  exact ⟨by first | rfl | (simp [errW_none, errW_some] <;> rfl) | (simp [*, errW_none, errW_some] <;> rfl), by repeat (first | (with_reducible first | exact HB.out | apply below_alloc | apply pw_below_drewN | apply below_drew1) | exact HB.out)⟩
 ·rw [if_neg c2] at H
  have c2b0 : decide (a0 < 0) = false := decide_eq_false c2
  clear c2
  by_cases c3 : a0 > 1114111
  ·rw [if_pos c3] at H
   have c3b0 : decide (1114111 < a0) = true := decide_eq_true c3
   clear c3
   obtain rfl := Option.some.inj H
   go_enter Tryz.func170, Tryz.ntmps170
   go_wp2
   go_ret
   exact ⟨by first | rfl | (simp [errW_none, errW_some] <;> rfl) | (simp [*, errW_none, errW_some] <;> rfl), by repeat (first | (with_reducible first | exact HB.out | apply below_alloc | apply pw_below_drewN | apply below_drew1) | exact HB.out)⟩
  ·rw [if_neg c3] at H
   have c3b0 : decide (1114111 < a0) = false := decide_eq_false c3
   clear c3
   replace H := Option.bind_eq_some_iff.mp H
   obtain ⟨t109, A40, H⟩ := H
   replace H : (some (mx 0 t109)) = some r := H
   have A4 := Aside0.mk A40
   clear A40
   obtain ⟨ji5, hji5⟩ : ∃ j_ : Int, (mx 0 t109) = j_ := ⟨_, rfl⟩
   replace H : (some ji5) = some r := by first | (rw [hji5] at H; exact H) | (simp only [hji5] at H ⊢; exact H)
   (try rw [hji5] at A4)
   (try (have hji5l : 0 ≤ ji5 := by (rw [← hji5]; unfold mx; (repeat' split) <;> omega)))
   (try (have hji5m : 0 ≤ ji5 := by omega))
   have hji5_ : (if 0 < t109 then t109 else 0) = ji5 := hji5
   obtain rfl := Option.some.inj H
   go_enter Tryz.func170, Tryz.ntmps170
   go_wp2_with (first | ((with_reducible refine gate_callee (f := 174) rfl ?_); refine goesL_ (some 11) rfl rfl Tryz.func174 (by kernel_rfl) rfl #[.int .i32 (wrap32 (a0))] rfl (by (try simp only [List.map_toArray, List.map_cons, List.map_nil]); first | done | rfl | (simp only [List.length_drop, List.length_take]; rfl)) ?_; (with_reducible refine (utf8_RuneLen.calls k (wrap32 (a0)) t109 _ A4.out).mono ?_); rintro e w' ⟨rfl, ⟨nd, rfl⟩⟩; refine ⟨_, rfl, ?_⟩))
   go_ret
   exact ⟨by first | rfl | (simp [errW_none, errW_some] <;> rfl) | (simp only [← hji5]; first | rfl | (simp [errW_none, errW_some] <;> rfl)) | (simp [*, errW_none, errW_some] <;> rfl), by repeat (first | (with_reducible first | exact HB.out | apply below_alloc | apply pw_below_drewN | apply below_drew1) | exact HB.out)⟩
end Go.Proofs.YtloijngccppfgaaGreat.F
end

section
namespace Go.Proofs.YtloijngccppfgaaGreat.F
open Go.RowKit Go.Proofs.YtloijngccppfgaaGreatW.PrintWords Go.Proofs.YtloijngccppfgaaGreatW.PrintLast Go.Proofs.YtloijngccppfgaaGreatW.PrintMore
attribute [local go_sem] max2_int min2_int max_two min_two max_three min_three max_four min_four
set_option linter.unusedVariables false
set_option linter.unusedSimpArgs false
def widthOf (r : Int) : Int := if r < 0 then 0 else if r > 1114111 then 0 else if r ≤ 127 then 1 else if r ≤ 2047 then 2 else if 55296 ≤ r ∧ r ≤ 57343 then 0 else if r ≤ 65535 then 3 else 4
def amongB (r a b : Int) : Bool := decide (r ≥ a) && decide (r ≤ b)
def classOf (r : Int) : Int := if widthOf r = 0 then 0 else if r ≥ 128 || amongB r 97 122 || amongB r 65 90 || r == 95 then 1 else if amongB r 48 57 then 2 else if amongB r 9 10 || r == 13 || r == 32 then 3 else if amongB r 33 126 then 4 else 0
def glyph_Class.f (a0 : Int) : Option Int := some (classOf a0)
theorem runeLen_of (k : Nat) (r : Int) (h0 : 0 ≤ r) (h1 : r ≤ 1114111) : utf8_RuneLen.f (k + 1) r = some (if r ≤ 127 then 1 else if r ≤ 2047 then 2 else if 55296 ≤ r ∧ r ≤ 57343 then -1 else if r ≤ 65535 then 3 else 4) := by
 unfold utf8_RuneLen.f
 rw [if_neg (by omega)]
 by_cases h2 : r ≤ 127
 ·rw [if_pos h2, if_pos h2]
 rw [if_neg h2, if_neg h2]
 by_cases h3 : r ≤ 2047
 ·rw [if_pos h3, if_pos h3]
 rw [if_neg h3, if_neg h3]
 simp only [utf8_RuneLen.j0]
 by_cases h4 : 55296 ≤ r
 ·rw [if_pos h4]
  by_cases h5 : r ≤ 57343
  ·rw [if_pos (decide_eq_true h5), if_pos ⟨h4, h5⟩]
  ·have h7 : ¬ (55296 ≤ r ∧ r ≤ 57343) := by omega
   rw [if_neg (by simpa using h5), if_neg h7]
   by_cases h6 : r ≤ 65535
   ·rw [if_pos h6, if_pos h6]
   ·rw [if_neg h6, if_neg h6, if_pos h1]
 ·have h5 : ¬ (55296 ≤ r ∧ r ≤ 57343) := by omega
  rw [if_neg h4, if_neg h5]
  simp only [Bool.false_eq_true, if_false]
  by_cases h6 : r ≤ 65535
  ·rw [if_pos h6, if_pos h6]
  ·omega
theorem width_of (k : Nat) (r : Int) : glyph_Width.f (k + 1) r = some (widthOf r) := by
 unfold glyph_Width.f widthOf
 by_cases h0 : r < 0
 ·rw [if_pos h0, if_pos h0]
 rw [if_neg h0, if_neg h0]
 by_cases h1 : r > 1114111
 ·rw [if_pos h1, if_pos h1]
 rw [if_neg h1, if_neg h1]
 have hw : wrap32 r = r := by unfold wrap32; omega
 rw [hw, runeLen_of k r (by omega) (by omega)]
 simp only [Option.bind_some]
 repeat' split
 all_goals (first | rfl | (unfold mx; simp))
set_option maxHeartbeats 2000000 in
set_option maxRecDepth 100000 in
theorem among_lit (g : Nat) (r a b : Int) (w : World) (hg : w.heap[g]? = some (.cells #[.int .i64 r] 3 (0, 0))) :
  Calls Tryz.prog 169 #[.int .i64 a, .int .i64 b, .pointer (some ⟨g, 0, none⟩)] w fun e w' => e = .returned (.bool (amongB r a b)) ∧ w' = w := by
 have c0 : w.cell? ⟨g, 0, none⟩ = some (.int .i64 r) := (blk_cell hg 0).trans rfl
 clear hg
 by_cases h1 : r ≥ a
 ·have k1 : decide (r ≥ a) = true := decide_eq_true h1
  clear h1
  go_enter Tryz.func169, Tryz.ntmps169
  go_wp2
  go_ret
  all_goals (try simp [amongB, k1])
  all_goals (try simpa using k1)
 ·have k1 : decide (r ≥ a) = false := decide_eq_false h1
  clear h1
  go_enter Tryz.func169, Tryz.ntmps169
  go_wp2
  go_ret
  all_goals (try simp [amongB, k1])
set_option maxHeartbeats 4000000 in
set_option maxRecDepth 100000 in
theorem glyph_Class.calls (a0 : Int) (r : Int) (w : World) (h : glyph_Class.f a0 = some r) : Calls Tryz.prog 160 #[.int .i64 a0] w fun e w' => e = .returned (.int .i64 r) ∧ Below w.heap.size w w' := by
 obtain rfl := Option.some.inj h
 clear h
 have HG := Aside0.mk (heap_alloc_new w (.cells #[.int .i64 a0] 3 (0, 0)))
 go_enter Tryz.func160, Tryz.ntmps160
 go_wp2_with (first | (go_at_call 170; refine (glyph_Width.calls 1 a0 _ _ (width_of 0 a0)).mono ?_; rintro e w1 ⟨rfl, hb⟩; have HG1 := Aside0.mk ((hb.block _ (blk_lt HG.out)).trans HG.out); have HB1 := Aside0.mk (((Below.refl _ w).alloc (Nat.le_refl _) _).trans (hb.mono (by simp))); have c1 : w1.cell? ⟨w.heap.size, 0, none⟩ = some (.int .i64 a0) := (blk_cell HG1.out 0).trans rfl; clear hb) | (go_at_call 169; refine (among_lit w.heap.size a0 _ _ _ HG1.out).mono ?_; rintro e w' ⟨rfl, rfl⟩))
 all_goals (go_ret; refine ⟨?_, HB1.out⟩; (try congr 2); unfold classOf; simp only [beq_iff_eq, beq_eq_false_iff_ne, ne_eq] at *; simp_all; (try omega))
end Go.Proofs.YtloijngccppfgaaGreat.F
end

section
namespace Go.Proofs.YtloijngccppfgaaGreat.F
open Go.RowKit Go.Proofs.YtloijngccppfgaaGreatW.PrintWords Go.Proofs.YtloijngccppfgaaGreatW.PrintLast Go.Proofs.YtloijngccppfgaaGreatW.PrintMore
attribute [local go_sem] max2_int min2_int max_two min_two max_three min_three max_four min_four
set_option linter.unusedVariables false
set_option linter.unusedSimpArgs false
def notNameAt (s : ByteArray) (pos : Nat) : Bool := classOf (Utf8.decode s pos).1 != 1 && (classOf (Utf8.decode s pos).1 != 2 || (pos : Int) == 0)
def nameFrom (s : ByteArray) : Nat → Nat → Bool
 | 0, _ => true
 | f + 1, pos => if pos < s.size then (if notNameAt s pos then false else nameFrom s f (pos + (Utf8.decode s pos).2)) else true
def nameB (s : ByteArray) : Bool := if s.size = 0 then false else if s.size > 24 then false else if badOf s ≥ 0 then false else nameFrom s s.size 0
def lex_Name.f (a0 : ByteArray) : Option Bool := some (nameB a0)
theorem nameFrom_end (s : ByteArray) (f pos : Nat) (h : ¬ pos < s.size) : nameFrom s f pos = true := by
 cases f with
 | zero => rfl
 | succ f => simp [nameFrom, h]
theorem toList_nil (s : ByteArray) : (s.toList = []) ↔ s.size = 0 := by
 rw [Go.ByteArray.toList_eq, ← data_length]; exact List.length_eq_zero_iff.symm
set_option maxHeartbeats 4000000 in
set_option maxRecDepth 100000 in
theorem lex_Name.calls (a0 : ByteArray) (r : Bool) (w : World) (h : lex_Name.f a0 = some r) : Calls Tryz.prog 143 #[.string a0] w fun e w' => e = .returned (.bool r) ∧ Below w.heap.size w w' := by
 obtain rfl := Option.some.inj h
 clear h
 go_enter Tryz.func143, Tryz.ntmps143
 go_wp2_with (go_at_call 159; refine (glyph_Bad.calls a0 _ _ rfl).mono ?_; rintro e w1 ⟨rfl, hb⟩; have HB1 := Aside0.mk hb; clear hb)
 ·have hE : a0.size = 0 := (toList_nil a0).1 (by assumption)
  go_ret
  exact ⟨by rw [show nameB a0 = false from by simp [nameB, hE]]; rfl, Below.refl _ _⟩
 ·have hE : ¬ a0.size = 0 := fun h => absurd ((toList_nil a0).2 h) (by assumption)
  have hL : ¬ a0.size > 24 := by omega
  have hN : a0.toList.isEmpty = false := by rw [Bool.eq_false_iff]; simpa using (by assumption : ¬ a0.toList = [])
  have hB : badOf a0 ≥ 0 := by
   rcases (by assumption : (a0.toList.isEmpty = true ∨ 24 < (a0.size : Int)) ∨ 0 ≤ badOf a0) with (h | h) | h
   ·rw [hN] at h; cases h
   ·omega
   ·exact h
  go_ret
  exact ⟨by rw [show nameB a0 = false from by simp [nameB, hE, hL, hB]]; rfl, HB1.out⟩
 ·have hE : ¬ a0.size = 0 := fun h => absurd ((toList_nil a0).2 h) (by assumption)
  have hL : ¬ a0.size > 24 := by omega
  have hB : ¬ badOf a0 ≥ 0 := by have := (by assumption : (a0.toList.isEmpty = false ∧ (a0.size : Int) ≤ 24) ∧ badOf a0 < 0); omega
  have HN : Aside0 (nameB a0 = nameFrom a0 a0.size 0) := ⟨by simp only [nameB, hE, hL, hB, if_false]⟩
  have HQ := Aside0.mk hE
  clear hE hL hB
  rename_i g1 g2 g3 g4 g5
  clear g1 g3
  go_loopw [] (fun wr => ∃ (pos fuel : Nat), wr.heap[w1.heap.size]? = some (.stringIter a0 pos) ∧ Aside0 (Below w.heap.size w wr) ∧ Aside0 (nameFrom a0 fuel pos = nameB a0) ∧ Aside0 (a0.size ≤ pos + fuel) ∧ Aside0 (w1.heap.size < wr.heap.size)) (fun wr => a0.size - wr.iterPos w1.heap.size)
  case atStart => exact ⟨0, a0.size, World.iter_heap w1 a0 0, ⟨HB1.out.trans ((Below.refl _ w1).alloc HB1.out.size _)⟩, ⟨HN.out.symm⟩, ⟨by omega⟩, ⟨by simp [World.iter]⟩⟩
  case round =>
   obtain ⟨pos, fuel, hit, HB, HE, HF, HS⟩ := hrel
   have HIT := Aside0.mk hit
   clear hit
   by_cases hp : pos < a0.size
   ·have hnx : ∀ ty, (Instr.next (.pointer (some ⟨w1.heap.size, 0, none⟩)) true ty).run Tryz.prog wr = _ := fun ty => Go.Lib.run_next_any_at wr w1.heap.size a0 pos ty HIT.out hp
    have hwd := Aside0.mk (width_pos a0 pos hp)
    have HIT2 := Aside0.mk (Go.Lib.iterAt_heap wr w1.heap.size a0 pos (pos + (Utf8.decode a0 pos).2) HIT.out)
    have HB2 := Aside0.mk (Go.Lib.below_iterAt HB.out (k := w1.heap.size) HB1.out.size a0 (pos + (Utf8.decode a0 pos).2))
    have HS2 : Aside0 (w1.heap.size < (wr.iterAt w1.heap.size a0 (pos + (Utf8.decode a0 pos).2)).heap.size) := ⟨by rw [Go.Lib.iterAt_size]; exact HS.out⟩
    obtain ⟨f, hf⟩ : ∃ f, fuel = f + 1 := ⟨fuel - 1, by have := HF.out; omega⟩
    have HE2 : Aside0 ((if notNameAt a0 pos then false else nameFrom a0 f (pos + (Utf8.decode a0 pos).2)) = nameB a0) := ⟨by have := HE.out; rw [hf] at this; simpa [nameFrom, hp] using this⟩
    have HF2 : Aside0 (a0.size ≤ pos + (Utf8.decode a0 pos).2 + f) := ⟨by have := HF.out; have := hwd.out; omega⟩
    have HP := Aside0.mk hp
    have hcp := decode_le a0 pos
    have HV : Aside0 (notNameAt a0 pos = (classOf (Utf8.decode a0 pos).1 != 1 && (classOf (Utf8.decode a0 pos).1 != 2 || (pos : Int) == 0))) := ⟨rfl⟩
    clear hf HE HF hp
    generalize (Utf8.decode a0 pos).2 = wd at *
    generalize (Utf8.decode a0 pos).1 = cp at *
    have hcp2 : (cp : Int) ≤ 2147483647 := by omega
    have hcp0 : (0 : Int) ≤ (cp : Int) := by omega
    have HC : Aside0 (∃ c, classOf cp = c) := ⟨⟨_, rfl⟩⟩
    go_wp2_with (go_at_call 160; refine (glyph_Class.calls cp _ _ rfl).mono ?_; rintro e w2 ⟨rfl, hb⟩; have HB3 := Aside0.mk (HB2.out.trans (hb.mono HB2.out.size)); have HIT3 := Aside0.mk ((hb.block _ HS2.out).trans HIT2.out); have HS3 := Aside0.mk (Nat.lt_of_lt_of_le HS2.out hb.size); clear hb)
    ·have hv : notNameAt a0 pos = false := by rw [HV.out]; simp [*]
     go_roundw
     case rel => exact ⟨pos + wd, f, HIT3.out, HB3, ⟨by have := HE2.out; rw [hv] at this; simpa using this⟩, HF2, HS3⟩
     case measure =>
      have h1 := HIT.out
      have h2 := HIT3.out
      have h3 := HP.out
      have h4 := hwd.out
      simp only [World.iterPos, h1, h2]
      omega
    ·have hv : notNameAt a0 pos = true := by rw [HV.out]; simp [*]
     go_ret
     exact ⟨by have := HE2.out; rw [hv] at this; simp at this; rw [this]; rfl, HB3.out⟩
    ·have hv : notNameAt a0 pos = false := by rw [HV.out]; simp [*]
     go_roundw
     case rel => exact ⟨pos + wd, f, HIT3.out, HB3, ⟨by have := HE2.out; rw [hv] at this; simpa using this⟩, HF2, HS3⟩
     case measure =>
      have h1 := HIT.out
      have h2 := HIT3.out
      have h3 := HP.out
      have h4 := hwd.out
      simp only [World.iterPos, h1, h2]
      omega
    ·have hv : notNameAt a0 pos = true := by rw [HV.out]; simp [*]
     go_ret
     exact ⟨by have := HE2.out; rw [hv] at this; simp at this; rw [this]; rfl, HB3.out⟩
   ·have hnx : ∀ ty, (Instr.next (.pointer (some ⟨w1.heap.size, 0, none⟩)) true ty).run Tryz.prog wr = _ := fun ty => Go.Lib.run_next_end_at wr w1.heap.size a0 pos ty HIT.out hp
    have HE2 : Aside0 (nameB a0 = true) := ⟨by rw [← HE.out]; exact nameFrom_end a0 fuel pos hp⟩
    clear hp
    go_wp2
    go_ret
    exact ⟨by rw [HE2.out]; rfl, HB.out⟩
 ·have hE : ¬ a0.size = 0 := fun h => absurd ((toList_nil a0).2 h) (by assumption)
  have hL : a0.size > 24 := by omega
  go_ret
  exact ⟨by rw [show nameB a0 = false from by simp [nameB, hE, hL]]; rfl, Below.refl _ _⟩
end Go.Proofs.YtloijngccppfgaaGreat.F
end

section
namespace Go.Proofs.YtloijngccppfgaaGreat.F
open Go.RowKit Go.Proofs.YtloijngccppfgaaGreatW.PrintWords Go.Proofs.YtloijngccppfgaaGreatW.PrintLast Go.Proofs.YtloijngccppfgaaGreatW.PrintMore
attribute [local go_sem] max2_int min2_int max_two min_two max_three min_three max_four min_four
set_option linter.unusedVariables false
set_option linter.unusedSimpArgs false
def lex_Word.f (a0 : ByteArray) : Option (Bool) := if a0.toList = ([115, 97, 103, 97] : List UInt8) then (some true) else (if a0.toList = ([115, 116, 101, 112] : List UInt8) then (some true) else (if a0.toList = ([115, 117, 98] : List UInt8) then (some true) else (if a0.toList = ([117, 110, 100, 111] : List UInt8) then (some true) else (if a0.toList = ([97, 102, 116, 101, 114] : List UInt8) then (some true) else (if a0.toList = ([118, 105, 116, 97, 108] : List UInt8) then (some true) else (if a0.toList = ([108, 111, 111, 115, 101] : List UInt8) then (some true) else (if a0.toList = ([111, 114] : List UInt8) then (some true) else (some false))))))))
set_option maxHeartbeats 8000000 in
set_option maxRecDepth 100000 in
theorem lex_Word.calls (a0 : ByteArray) (r : Bool) (w : World) (h : lex_Word.f a0 = some r) :
  Calls Tryz.prog 144 #[.string a0] w fun e w' => e = .returned (.bool r) ∧ Drawn0 w w' := by
 have H : (if a0.toList = ([115, 97, 103, 97] : List UInt8) then (some true) else (if a0.toList = ([115, 116, 101, 112] : List UInt8) then (some true) else (if a0.toList = ([115, 117, 98] : List UInt8) then (some true) else (if a0.toList = ([117, 110, 100, 111] : List UInt8) then (some true) else (if a0.toList = ([97, 102, 116, 101, 114] : List UInt8) then (some true) else (if a0.toList = ([118, 105, 116, 97, 108] : List UInt8) then (some true) else (if a0.toList = ([108, 111, 111, 115, 101] : List UInt8) then (some true) else (if a0.toList = ([111, 114] : List UInt8) then (some true) else (some false))))))))) = some r := h
 clear h
 by_cases c2 : a0.toList = ([115, 97, 103, 97] : List UInt8)
 ·rw [if_pos c2] at H
  have c2b0 : (a0.toList == ([115, 97, 103, 97] : List UInt8)) = true := beq_iff_eq.mpr c2
  have c2b1 : (a0.toList != ([115, 97, 103, 97] : List UInt8)) = false := bne_eq_false_iff_eq.mpr c2
  clear c2
  obtain rfl := Option.some.inj H
  go_enter Tryz.func144, Tryz.ntmps144
  go_wp2
  go_ret
  exact ⟨by first | rfl | (simp; done) | (simp [*]; done), by repeat (first | exact Drawn0.refl _ | apply Drawn0.step)⟩
 ·rw [if_neg c2] at H
  have c2b0 : (a0.toList == ([115, 97, 103, 97] : List UInt8)) = false := beq_eq_false_iff_ne.mpr c2
  have c2b1 : (a0.toList != ([115, 97, 103, 97] : List UInt8)) = true := bne_iff_ne.mpr c2
  by_cases c3 : a0.toList = ([115, 116, 101, 112] : List UInt8)
  ·rw [if_pos c3] at H
   have c3b0 : (a0.toList == ([115, 116, 101, 112] : List UInt8)) = true := beq_iff_eq.mpr c3
   have c3b1 : (a0.toList != ([115, 116, 101, 112] : List UInt8)) = false := bne_eq_false_iff_eq.mpr c3
   clear c3
   obtain rfl := Option.some.inj H
   go_enter Tryz.func144, Tryz.ntmps144
   go_wp2
   go_ret
   exact ⟨by first | rfl | (simp; done) | (simp [*]; done), by repeat (first | exact Drawn0.refl _ | apply Drawn0.step)⟩
  ·rw [if_neg c3] at H
   have c3b0 : (a0.toList == ([115, 116, 101, 112] : List UInt8)) = false := beq_eq_false_iff_ne.mpr c3
   have c3b1 : (a0.toList != ([115, 116, 101, 112] : List UInt8)) = true := bne_iff_ne.mpr c3
   by_cases c4 : a0.toList = ([115, 117, 98] : List UInt8)
   ·rw [if_pos c4] at H
    have c4b0 : (a0.toList == ([115, 117, 98] : List UInt8)) = true := beq_iff_eq.mpr c4
    have c4b1 : (a0.toList != ([115, 117, 98] : List UInt8)) = false := bne_eq_false_iff_eq.mpr c4
    clear c4
    obtain rfl := Option.some.inj H
    go_enter Tryz.func144, Tryz.ntmps144
    go_wp2
    go_ret
    exact ⟨by first | rfl | (simp; done) | (simp [*]; done), by repeat (first | exact Drawn0.refl _ | apply Drawn0.step)⟩
   ·rw [if_neg c4] at H
    have c4b0 : (a0.toList == ([115, 117, 98] : List UInt8)) = false := beq_eq_false_iff_ne.mpr c4
    have c4b1 : (a0.toList != ([115, 117, 98] : List UInt8)) = true := bne_iff_ne.mpr c4
    by_cases c5 : a0.toList = ([117, 110, 100, 111] : List UInt8)
    ·rw [if_pos c5] at H
     have c5b0 : (a0.toList == ([117, 110, 100, 111] : List UInt8)) = true := beq_iff_eq.mpr c5
     have c5b1 : (a0.toList != ([117, 110, 100, 111] : List UInt8)) = false := bne_eq_false_iff_eq.mpr c5
     clear c5
     obtain rfl := Option.some.inj H
     go_enter Tryz.func144, Tryz.ntmps144
     go_wp2
     go_ret
     exact ⟨by first | rfl | (simp; done) | (simp [*]; done), by repeat (first | exact Drawn0.refl _ | apply Drawn0.step)⟩
    ·rw [if_neg c5] at H
     have c5b0 : (a0.toList == ([117, 110, 100, 111] : List UInt8)) = false := beq_eq_false_iff_ne.mpr c5
     have c5b1 : (a0.toList != ([117, 110, 100, 111] : List UInt8)) = true := bne_iff_ne.mpr c5
     by_cases c6 : a0.toList = ([97, 102, 116, 101, 114] : List UInt8)
     ·rw [if_pos c6] at H
      have c6b0 : (a0.toList == ([97, 102, 116, 101, 114] : List UInt8)) = true := beq_iff_eq.mpr c6
      have c6b1 : (a0.toList != ([97, 102, 116, 101, 114] : List UInt8)) = false := bne_eq_false_iff_eq.mpr c6
      clear c6
      obtain rfl := Option.some.inj H
      go_enter Tryz.func144, Tryz.ntmps144
      go_wp2
      go_ret
      exact ⟨by first | rfl | (simp; done) | (simp [*]; done), by repeat (first | exact Drawn0.refl _ | apply Drawn0.step)⟩
     ·rw [if_neg c6] at H
      have c6b0 : (a0.toList == ([97, 102, 116, 101, 114] : List UInt8)) = false := beq_eq_false_iff_ne.mpr c6
      have c6b1 : (a0.toList != ([97, 102, 116, 101, 114] : List UInt8)) = true := bne_iff_ne.mpr c6
      by_cases c7 : a0.toList = ([118, 105, 116, 97, 108] : List UInt8)
      ·rw [if_pos c7] at H
       have c7b0 : (a0.toList == ([118, 105, 116, 97, 108] : List UInt8)) = true := beq_iff_eq.mpr c7
       have c7b1 : (a0.toList != ([118, 105, 116, 97, 108] : List UInt8)) = false := bne_eq_false_iff_eq.mpr c7
       clear c7
       obtain rfl := Option.some.inj H
       go_enter Tryz.func144, Tryz.ntmps144
       go_wp2
       go_ret
       exact ⟨by first | rfl | (simp; done) | (simp [*]; done), by repeat (first | exact Drawn0.refl _ | apply Drawn0.step)⟩
      ·rw [if_neg c7] at H
       have c7b0 : (a0.toList == ([118, 105, 116, 97, 108] : List UInt8)) = false := beq_eq_false_iff_ne.mpr c7
       have c7b1 : (a0.toList != ([118, 105, 116, 97, 108] : List UInt8)) = true := bne_iff_ne.mpr c7
       by_cases c8 : a0.toList = ([108, 111, 111, 115, 101] : List UInt8)
       ·rw [if_pos c8] at H
        have c8b0 : (a0.toList == ([108, 111, 111, 115, 101] : List UInt8)) = true := beq_iff_eq.mpr c8
        have c8b1 : (a0.toList != ([108, 111, 111, 115, 101] : List UInt8)) = false := bne_eq_false_iff_eq.mpr c8
        clear c8
        obtain rfl := Option.some.inj H
        go_enter Tryz.func144, Tryz.ntmps144
        go_wp2
        go_ret
        exact ⟨by first | rfl | (simp; done) | (simp [*]; done), by repeat (first | exact Drawn0.refl _ | apply Drawn0.step)⟩
       ·rw [if_neg c8] at H
        have c8b0 : (a0.toList == ([108, 111, 111, 115, 101] : List UInt8)) = false := beq_eq_false_iff_ne.mpr c8
        have c8b1 : (a0.toList != ([108, 111, 111, 115, 101] : List UInt8)) = true := bne_iff_ne.mpr c8
        by_cases c9 : a0.toList = ([111, 114] : List UInt8)
        ·rw [if_pos c9] at H
         have c9b0 : (a0.toList == ([111, 114] : List UInt8)) = true := beq_iff_eq.mpr c9
         have c9b1 : (a0.toList != ([111, 114] : List UInt8)) = false := bne_eq_false_iff_eq.mpr c9
         clear c9
         obtain rfl := Option.some.inj H
         go_enter Tryz.func144, Tryz.ntmps144
         go_wp2
         go_ret
         exact ⟨by first | rfl | (simp; done) | (simp [*]; done), by repeat (first | exact Drawn0.refl _ | apply Drawn0.step)⟩
        ·rw [if_neg c9] at H
         have c9b0 : (a0.toList == ([111, 114] : List UInt8)) = false := beq_eq_false_iff_ne.mpr c9
         have c9b1 : (a0.toList != ([111, 114] : List UInt8)) = true := bne_iff_ne.mpr c9
         obtain rfl := Option.some.inj H
         go_enter Tryz.func144, Tryz.ntmps144
         go_wp2
         go_ret
         exact ⟨by first | rfl | (simp; done) | (simp [*]; done), by repeat (first | exact Drawn0.refl _ | apply Drawn0.step)⟩
def syntax_names.f (a0 : ByteArray) : Option (Bool) := (lex_Name.f a0).bind fun t110 => (if t110 = true then ((lex_Word.f a0).bind fun t111 => (some (!t111))) else (some false))
set_option maxHeartbeats 8000000 in
set_option maxRecDepth 100000 in
theorem syntax_names.calls (a0 : ByteArray) (r : Bool) (w : World) (h : syntax_names.f a0 = some r) :
  Calls Tryz.prog 129 #[.string a0] w fun e w' => e = .returned (.bool r) ∧ Below w.heap.size w w' := by
 have HB := Aside0.mk (Below.refl w.heap.size w)
 have H : ((lex_Name.f a0).bind fun t110 => (if t110 = true then ((lex_Word.f a0).bind fun t111 => (some (!t111))) else (some false))) = some r := h
 clear h
 replace H := Option.bind_eq_some_iff.mp H
 obtain ⟨t110, A20, H⟩ := H
 replace H : (if t110 = true then ((lex_Word.f a0).bind fun t111 => (some (!t111))) else (some false)) = some r := H
 have A2 := Aside0.mk A20
 clear A20
 by_cases c3 : t110 = true
 ·subst c3
  have H1 : ((lex_Word.f a0).bind fun t111 => (some (!t111))) = some r := by rw [if_pos rfl] at H; exact H
  clear H
  have H := H1
  clear H1
  replace H := Option.bind_eq_some_iff.mp H
  obtain ⟨t111, A40, H⟩ := H
  replace H : (some (!t111)) = some r := H
  have A4 := Aside0.mk A40
  clear A40
  obtain rfl := Option.some.inj H
  go_enter Tryz.func129, Tryz.ntmps129
  go_wp2_with (first | ((with_reducible refine gate_callee (f := 143) rfl ?_); refine goesL_ (some 4) rfl rfl Tryz.func143 (by kernel_rfl) rfl #[.string a0] rfl (by (try simp only [List.map_toArray, List.map_cons, List.map_nil]); first | done | rfl | (simp only [List.length_drop, List.length_take]; rfl)) ?_; (with_reducible refine (lex_Name.calls a0 true _ A2.out).mono ?_); rintro e w5 ⟨rfl, hb⟩; refine ⟨_, rfl, ?_⟩; have n0_ := Aside0.mk (below_step (by repeat (first | (with_reducible first | exact HB.out | apply below_alloc | apply pw_below_drewN | apply below_drew1) | exact HB.out)) hb); clear HB; have HB := n0_; clear n0_; (try clear hb); (try clear hb2); (try clear hk); (try clear hi)) | (go_at_call 144; (with_reducible refine (lex_Word.calls a0 t111 _ A4.out).mono ?_); rintro e w' ⟨rfl, ⟨nd, rfl⟩⟩))
  go_ret
  exact ⟨by first | rfl | (simp [errW_none, errW_some] <;> rfl) | (simp [*, errW_none, errW_some] <;> rfl), by repeat (first | (with_reducible first | exact HB.out | apply below_alloc | apply pw_below_drewN | apply below_drew1) | exact HB.out)⟩
 ·replace c3 := Bool.eq_false_iff.mpr c3
  subst c3
  have H1 : (some false) = some r := by rw [if_neg (show ¬ (false = true) by decide)] at H; exact H
  clear H
  have H := H1
  clear H1
  obtain rfl := Option.some.inj H
  go_enter Tryz.func129, Tryz.ntmps129
  go_wp2_with (first | ((with_reducible refine gate_callee (f := 143) rfl ?_); refine goesL_ (some 4) rfl rfl Tryz.func143 (by kernel_rfl) rfl #[.string a0] rfl (by (try simp only [List.map_toArray, List.map_cons, List.map_nil]); first | done | rfl | (simp only [List.length_drop, List.length_take]; rfl)) ?_; (with_reducible refine (lex_Name.calls a0 false _ A2.out).mono ?_); rintro e w6 ⟨rfl, hb⟩; refine ⟨_, rfl, ?_⟩; have n0_ := Aside0.mk (below_step (by repeat (first | (with_reducible first | exact HB.out | apply below_alloc | apply pw_below_drewN | apply below_drew1) | exact HB.out)) hb); clear HB; have HB := n0_; clear n0_; (try clear hb); (try clear hb2); (try clear hk); (try clear hi)))
  go_ret
  exact ⟨by first | rfl | (simp [errW_none, errW_some] <;> rfl) | (simp [*, errW_none, errW_some] <;> rfl), by repeat (first | (with_reducible first | exact HB.out | apply below_alloc | apply pw_below_drewN | apply below_drew1) | exact HB.out)⟩
mutual
def syntax_Depth.l0 : Nat → Int → List (S110) → Int → Int → Option (Int)
 | 0, _, _, _, _ => none
 | k + 1, x3, x9, x10, x11 => if x11 < x10 then (if 0 ≤ x11 then (if x11 < (x9.length : Int) then (syntax_Depth.l1 k x3 x9 x10 x11 ((rd_T110 x9 x11).f0) (((rd_T110 x9 x11).f0).length : Int) 0) else (none)) else (none)) else (some (wrap64 (x3 + 1)))
def syntax_Depth.l1 : Nat → Int → List (S110) → Int → Int → List (S112) → Int → Int → Option (Int)
 | 0, _, _, _, _, _, _, _ => none
 | k + 1, x3, x9, x10, x11, x16, x17, x18 => if x18 < x17 then (if 0 ≤ x18 then (if x18 < (x16.length : Int) then (if (rd_T112 x16 x18).f3 = true then ((syntax_Depth.f k (⟨#[]⟩ : ByteArray) ((rd_T112 x16 x18).f5)).bind fun t117 => (syntax_Depth.l1 k (mx x3 t117) x9 x10 x11 x16 x17 (wrap64 (x18 + 1)))) else (syntax_Depth.l1 k x3 x9 x10 x11 x16 x17 (wrap64 (x18 + 1)))) else (none)) else (none)) else (syntax_Depth.l0 k x3 x9 x10 (wrap64 (x11 + 1)))
def syntax_Depth.f : Nat → ByteArray → List (S110) → Option (Int)
 | 0, _, _ => none
 | k + 1, a0_0, l0_1 => syntax_Depth.l0 k 0 l0_1 (l0_1.length : Int) 0
end
set_option maxHeartbeats 8000000 in
set_option maxRecDepth 100000 in
theorem syntax_Depth.calls (k : Nat) : ∀ (a0_0 : ByteArray) (A0_1 : Option Addr) (c0_1 : Nat) (l0_1 : List (S110)) (r : Int) (w : World) (hr0_1 : Kd.C k110 w A0_1 l0_1.length l0_1) (hc0_1 : l0_1.length ≤ c0_1) (h : syntax_Depth.f k a0_0 l0_1 = some r),
  Calls Tryz.prog 130 #[.agg #[.string a0_0, .slice A0_1 l0_1.length c0_1]] w fun e w' => e = .returned (.int .i64 r) ∧ Below w.heap.size w w' := by
 induction k using Nat.strongRecOn with
 | _ k ih =>
 intro a0_0 A0_1 c0_1 l0_1 r w hr0_1 hc0_1 h
 cases k with
 | zero => exact absurd h (by simp [syntax_Depth.f])
 | succ k =>
 simp only [syntax_Depth.f] at h
 have hu54 := Tryz.underlying54
 have hu110 := Tryz.underlying110
 have hu112 := Tryz.underlying112
 have HR0_1 := Aside0.mk hr0_1
 have HC0_1 := Aside0.mk hc0_1
 clear hr0_1 hc0_1
 have HB := Aside0.mk (Below.refl w.heap.size w)
 have H : (syntax_Depth.l0 k 0 l0_1 (l0_1.length : Int) 0) = some r := h
 clear h
 have H' := Aside0.mk H
 clear H
 go_enter Tryz.func130, Tryz.ntmps130
 go_wp2_with (first | ((with_reducible refine gate_dst (N := 1) rfl ?_); refine box_event ?hg (N := 1) ?hd (cs := #[.string a0_0, .slice A0_1 l0_1.length c0_1]) (t := 54) ?hr ?_; (case hd => rfl); (case hg => rfl); (case hr => first | (go_simp; done) | (go_simp; rfl)); intro gb112 hg w2 hbox hb; have n0_ := Aside0.mk (below_step (by repeat (first | (with_reducible first | exact HB.out | apply below_alloc | apply pw_below_drewN | apply below_drew1) | exact HB.out)) hb); have n1_ := Aside0.mk (hbox); have n2_ := Aside0.mk ((by rw [hg]; exact (below_size (by repeat (first | (with_reducible first | exact HB.out | apply below_alloc | apply pw_below_drewN | apply below_drew1) | exact HB.out))) : w.heap.size ≤ gb112)); have n3_ := Aside0.mk ((by rw [hg]; exact (below_size (by repeat (first | (with_reducible first | exact HB.out | apply below_alloc | apply pw_below_drewN | apply below_drew1) | exact HB.out))) : w.heap.size ≤ gb112)); clear HB; have HB := n0_; have BK112 := n1_; have GW112 := n2_; have GE112 := n3_; clear n0_ n1_ n2_ n3_; clear hb hbox hg; have hcz3_0 : w2.cell? ⟨gb112, 0, none⟩ = some (.string a0_0) := (blk_cell BK112.out 0).trans rfl; have hcz3_1 : w2.cell? ⟨gb112, 1, none⟩ = some (.slice A0_1 l0_1.length c0_1) := (blk_cell BK112.out 1).trans rfl; have hfz3_0 := blk_frozen BK112.out 0; have hfz3_1 := blk_frozen BK112.out 1))
 go_loopg [3, 11] k (fun kq v3 v11 w' => ∃ (x3_1 : Int) (x11_1 : Int), v3 = .int .i64 x3_1 ∧ v11 = .int .i64 x11_1 ∧ Aside0 (syntax_Depth.l0 kq x3_1 l0_1 (l0_1.length : Int) x11_1 = some r) ∧ Aside0 (kq ≤ k) ∧ Aside0 (w'.heap[gb112]? = some (.cells #[.string a0_0, (.slice A0_1 l0_1.length c0_1)] 54 (0, 0))) ∧ Aside0 (Below w.heap.size w w'))
 case atStart => exact ⟨(0), (0), (by first | rfl | (simp; done) | (simp [*]; done)), (by first | rfl | (simp; done) | (simp [*]; done)), H', ⟨Nat.le_refl _⟩, ⟨by (with_reducible repeat (first | refine blk_drewN ?_ _ | refine blk_drew ?_ | refine blk_alloc ?_ _)); exact BK112.out⟩, ⟨by repeat (first | (with_reducible first | exact HB.out | apply below_alloc | apply pw_below_drewN | apply below_drew1 | refine below_set ?_ GE112.out) | exact HB.out)⟩⟩
 case round =>
  clear H'
  try clear c1
  try clear p2
  try clear hcz3_0
  try clear hcz3_1
  try clear hfz3_0
  try clear hfz3_1
  obtain ⟨x3_1, x11_1, rfl, rfl, HA, HK1, BK112, HB⟩ := hrel
  cases gk with
  | zero => exact absurd HA.out (by simp [syntax_Depth.l0])
  | succ k1 =>
   have H := HA.out
   clear HA
   simp only [syntax_Depth.l0] at H
   by_cases c4 : x11_1 < (l0_1.length : Int)
   ·rw [if_pos c4] at H
    have c4b0 : decide (x11_1 < (l0_1.length : Int)) = true := decide_eq_true c4
    clear c4
    by_cases c5 : 0 ≤ x11_1
    ·rw [if_pos c5] at H
     have c5b0 : decide (0 ≤ x11_1) = true := decide_eq_true c5
     clear c5
     by_cases c6 : x11_1 < (l0_1.length : Int)
     ·rw [if_pos c6] at H
      have c6b0 : decide (x11_1 < (l0_1.length : Int)) = true := decide_eq_true c6
      clear c6
      have H' := Aside0.mk H
      clear H
      have p113 : 0 ≤ (x11_1 : Int) := of_decide_eq_true (by first | (with_reducible assumption) | assumption)
      have q113 : x11_1 < (l0_1.length : Int) := of_decide_eq_true (by first | (with_reducible assumption) | assumption)
      obtain ⟨ad113, A113_0, c113_0, e113, hx113_0, hl113_0, hi113_0⟩ := at_T110 HR0_1.out x11_1 p113 q113
      cases e113
      replace hx113_0 := (HB.out.cell (World.block_lt_of_cell? w _ hx113_0)).trans hx113_0
      have HR113_0 := Aside0.mk hi113_0
      have HC113_0 := Aside0.mk hl113_0
      clear hi113_0 hl113_0
      replace p113 := eq_true p113
      replace q113 := eq_true q113
      go_wp2_with (first | ((with_reducible refine gate_dst (N := 5) rfl ?_); refine box_event ?hg (N := 5) ?hd (cs := #[.slice none 0 0]) (t := 110) ?hr ?_; (case hd => rfl); (case hg => rfl); (case hr => first | (go_simp; done) | (go_simp; rfl)); intro gb114 hg w7 hbox hb; have n0_ := Aside0.mk (blk_below (g := gb112) (o := .cells #[.string a0_0, .slice (some ad113) l0_1.length c0_1] 54 (0, 0)) (by (with_reducible repeat (first | refine blk_drewN ?_ _ | refine blk_drew ?_ | refine blk_alloc ?_ _)); exact BK112.out) hb); have n1_ := Aside0.mk (below_step (by repeat (first | (with_reducible first | exact HB.out | apply below_alloc | apply pw_below_drewN | apply below_drew1 | refine below_set ?_ GE112.out) | exact HB.out)) hb); have n2_ := Aside0.mk (hbox); have n3_ := Aside0.mk ((by rw [hg]; exact (below_size (by repeat (first | (with_reducible first | exact HB.out | apply below_alloc | apply pw_below_drewN | apply below_drew1 | refine below_set ?_ GE112.out) | exact HB.out))) : w.heap.size ≤ gb114)); have n4_ := Aside0.mk ((by rw [hg]; exact (below_size (by repeat (first | (with_reducible first | exact HB.out | apply below_alloc | apply pw_below_drewN | apply below_drew1 | refine below_set ?_ GE112.out) | exact HB.out))) : w.heap.size ≤ gb114)); have n5_ := Aside0.mk ((by rw [hg]; exact Nat.ne_of_lt (blk_lt (g := gb112) (o := .cells #[.string a0_0, .slice (some ad113) l0_1.length c0_1] 54 (0, 0)) (by (with_reducible repeat (first | refine blk_drewN ?_ _ | refine blk_drew ?_ | refine blk_alloc ?_ _)); exact BK112.out)) : gb112 ≠ gb114)); have n6_ := Aside0.mk ((by rw [hg]; exact Nat.ne_of_gt (blk_lt (g := gb112) (o := .cells #[.string a0_0, .slice (some ad113) l0_1.length c0_1] 54 (0, 0)) (by (with_reducible repeat (first | refine blk_drewN ?_ _ | refine blk_drew ?_ | refine blk_alloc ?_ _)); exact BK112.out)) : gb114 ≠ gb112)); clear BK112; clear HB; have BK112 := n0_; have HB := n1_; have BK114 := n2_; have GW114 := n3_; have GE114 := n4_; have NB112_114 := n5_; have NB114_112 := n6_; clear n0_ n1_ n2_ n3_ n4_ n5_ n6_; clear hb hbox hg; have hnb8 := NB114_112.out; have hnc8 := NB112_114.out; have hcz9_0 : w7.cell? ⟨gb114, 0, none⟩ = some (.slice none 0 0) := (blk_cell BK114.out 0).trans rfl; have hfz9_0 := blk_frozen BK114.out 0))
      go_loopg [3, 18] k1 (fun kq v3 v18 w' => ∃ (x3_2 : Int) (x18_2 : Int), v3 = .int .i64 x3_2 ∧ v18 = .int .i64 x18_2 ∧ Aside0 (syntax_Depth.l1 kq x3_2 l0_1 (l0_1.length : Int) x11_1 ((rd_T110 l0_1 x11_1).f0) (((rd_T110 l0_1 x11_1).f0).length : Int) x18_2 = some r) ∧ Aside0 (kq ≤ k1) ∧ Aside0 (w'.heap[gb112]? = some (.cells #[.string a0_0, (.slice (some ad113) l0_1.length c0_1)] 54 (0, 0))) ∧ Aside0 (w'.heap[gb114]? = some (.cells #[(.slice A113_0 ((rd_T110 l0_1 x11_1).f0).length c113_0)] 110 (0, 0))) ∧ Aside0 (Below w.heap.size w w'))
      case atStart => exact ⟨(x3_1), (0), (by first | rfl | (simp; done) | (simp [*]; done)), (by first | rfl | (simp; done) | (simp [*]; done)), H', ⟨Nat.le_refl _⟩, ⟨by (with_reducible repeat (first | refine blk_drewN ?_ _ | refine blk_drew ?_ | refine blk_alloc ?_ _)); refine blk_far ?_ NB112_114.out _; (with_reducible repeat (first | refine blk_drewN ?_ _ | refine blk_drew ?_ | refine blk_alloc ?_ _)); exact BK112.out⟩, ⟨by (with_reducible repeat (first | refine blk_drewN ?_ _ | refine blk_drew ?_ | refine blk_alloc ?_ _)); refine blk_put (cs := #[.slice none 0 0]) ?_ 0 _ rfl; (with_reducible repeat (first | refine blk_drewN ?_ _ | refine blk_drew ?_ | refine blk_alloc ?_ _)); exact BK114.out⟩, ⟨by repeat (first | (with_reducible first | exact HB.out | apply below_alloc | apply pw_below_drewN | apply below_drew1 | refine below_set ?_ GE112.out | refine below_set ?_ GE114.out) | exact HB.out)⟩⟩
      case round =>
       clear H'
       try clear c1
       try clear p1
       try clear q1
       try clear hx1
       try clear p2
       try clear c4
       try clear c4b0
       try clear c5
       try clear c5b0
       try clear c6
       try clear c6b0
       try clear c8
       try clear hcz3_0
       try clear hcz3_1
       try clear hcz9_0
       try clear hfz3_0
       try clear hfz3_1
       try clear hfz9_0
       try clear hx113_0
       try clear p113
       try clear p2
       try clear q113
       obtain ⟨x3_2, x18_2, rfl, rfl, HA, HK2, BK112, BK114, HB⟩ := hrel
       cases gk with
       | zero => exact absurd HA.out (by simp [syntax_Depth.l1])
       | succ k2 =>
        have H := HA.out
        clear HA
        simp only [syntax_Depth.l1] at H
        by_cases c10 : x18_2 < (((rd_T110 l0_1 x11_1).f0).length : Int)
        ·rw [if_pos c10] at H
         have c10b0 : decide (x18_2 < (((rd_T110 l0_1 x11_1).f0).length : Int)) = true := decide_eq_true c10
         clear c10
         by_cases c11 : 0 ≤ x18_2
         ·rw [if_pos c11] at H
          have c11b0 : decide (0 ≤ x18_2) = true := decide_eq_true c11
          clear c11
          by_cases c12 : x18_2 < (((rd_T110 l0_1 x11_1).f0).length : Int)
          ·rw [if_pos c12] at H
           have c12b0 : decide (x18_2 < (((rd_T110 l0_1 x11_1).f0).length : Int)) = true := decide_eq_true c12
           clear c12
           obtain ⟨bq13, hbq13⟩ : ∃ b_ : Bool, b_ = ((rd_T112 ((rd_T110 l0_1 x11_1).f0) x18_2).f3) := ⟨_, rfl⟩
           replace H : (if bq13 = true then ((syntax_Depth.f k2 (⟨#[]⟩ : ByteArray) ((rd_T112 ((rd_T110 l0_1 x11_1).f0) x18_2).f5)).bind fun t117 => (syntax_Depth.l1 k2 (mx x3_2 t117) l0_1 (l0_1.length : Int) x11_1 ((rd_T110 l0_1 x11_1).f0) (((rd_T110 l0_1 x11_1).f0).length : Int) (wrap64 (x18_2 + 1)))) else (syntax_Depth.l1 k2 x3_2 l0_1 (l0_1.length : Int) x11_1 ((rd_T110 l0_1 x11_1).f0) (((rd_T110 l0_1 x11_1).f0).length : Int) (wrap64 (x18_2 + 1)))) = some r := by rw [← hbq13] at H; exact H
           have Nbq13 := Aside0.mk hbq13
           clear hbq13
           by_cases c14 : bq13 = true
           ·subst c14
            have H1 : ((syntax_Depth.f k2 (⟨#[]⟩ : ByteArray) ((rd_T112 ((rd_T110 l0_1 x11_1).f0) x18_2).f5)).bind fun t117 => (syntax_Depth.l1 k2 (mx x3_2 t117) l0_1 (l0_1.length : Int) x11_1 ((rd_T110 l0_1 x11_1).f0) (((rd_T110 l0_1 x11_1).f0).length : Int) (wrap64 (x18_2 + 1)))) = some r := by rw [if_pos rfl] at H; exact H
            clear H
            have H := H1
            clear H1
            replace H := Option.bind_eq_some_iff.mp H
            obtain ⟨t117, A150, H⟩ := H
            replace H : (syntax_Depth.l1 k2 (mx x3_2 t117) l0_1 (l0_1.length : Int) x11_1 ((rd_T110 l0_1 x11_1).f0) (((rd_T110 l0_1 x11_1).f0).length : Int) (wrap64 (x18_2 + 1))) = some r := H
            have A15 := Aside0.mk A150
            clear A150
            obtain ⟨ji16, hji16⟩ : ∃ j_ : Int, (mx x3_2 t117) = j_ := ⟨_, rfl⟩
            replace H : (syntax_Depth.l1 k2 ji16 l0_1 (l0_1.length : Int) x11_1 ((rd_T110 l0_1 x11_1).f0) (((rd_T110 l0_1 x11_1).f0).length : Int) (wrap64 (x18_2 + 1))) = some r := by first | (rw [hji16] at H; exact H) | (simp only [hji16] at H ⊢; exact H)
            (try rw [hji16] at A15)
            have hji16_ : (if x3_2 < t117 then t117 else x3_2) = ji16 := hji16
            have H' := Aside0.mk H
            clear H
            have p115 : 0 ≤ (x18_2 : Int) := of_decide_eq_true (by first | (with_reducible assumption) | assumption)
            have q115 : x18_2 < (((rd_T110 l0_1 x11_1).f0).length : Int) := of_decide_eq_true (by first | (with_reducible assumption) | assumption)
            obtain ⟨ad115, A115_2, c115_2, A115_5, c115_5, e115, hx115_0, hx115_1, hx115_2, hx115_3, hx115_4, hx115_5, hl115_2, hi115_2, hl115_5, hi115_5⟩ := at_T112 HR113_0.out x18_2 p115 q115
            (try rw [← Nbq13.out] at hx115_3)
            (try rw [← Nbq13.out] at hx115_4)
            cases e115
            replace hx115_0 := (HB.out.cell (World.block_lt_of_cell? w _ hx115_0)).trans hx115_0
            replace hx115_1 := (HB.out.cell (World.block_lt_of_cell? w _ hx115_1)).trans hx115_1
            replace hx115_2 := (HB.out.cell (World.block_lt_of_cell? w _ hx115_2)).trans hx115_2
            replace hx115_3 := (HB.out.cell (World.block_lt_of_cell? w _ hx115_3)).trans hx115_3
            replace hx115_4 := (HB.out.cell (World.block_lt_of_cell? w _ hx115_4)).trans hx115_4
            replace hx115_5 := (HB.out.cell (World.block_lt_of_cell? w _ hx115_5)).trans hx115_5
            have HR115_2 := Aside0.mk hi115_2
            have HC115_2 := Aside0.mk hl115_2
            clear hi115_2 hl115_2
            have HR115_5 := Aside0.mk hi115_5
            have HC115_5 := Aside0.mk hl115_5
            clear hi115_5 hl115_5
            replace p115 := eq_true p115
            replace q115 := eq_true q115
            go_wp2_with (first | ((with_reducible refine gate_dst (N := 7) rfl ?_); refine box_event ?hg (N := 7) ?hd (cs := #[.string (⟨#[]⟩ : ByteArray), .string (⟨#[]⟩ : ByteArray), .slice none 0 0, .bool false, .bool false, .slice none 0 0]) (t := 112) ?hr ?_; (case hd => rfl); (case hg => rfl); (case hr => first | (go_simp; done) | (go_simp; rfl)); intro gb116 hg w17 hbox hb; have n0_ := Aside0.mk (blk_below (g := gb112) (o := .cells #[.string a0_0, .slice (some ad113) l0_1.length c0_1] 54 (0, 0)) (by (with_reducible repeat (first | refine blk_drewN ?_ _ | refine blk_drew ?_ | refine blk_alloc ?_ _)); exact BK112.out) hb); have n1_ := Aside0.mk (blk_below (g := gb114) (o := .cells #[.slice (some ad115) ((rd_T110 l0_1 x11_1).f0).length c113_0] 110 (0, 0)) (by (with_reducible repeat (first | refine blk_drewN ?_ _ | refine blk_drew ?_ | refine blk_alloc ?_ _)); exact BK114.out) hb); have n2_ := Aside0.mk (below_step (by repeat (first | (with_reducible first | exact HB.out | apply below_alloc | apply pw_below_drewN | apply below_drew1 | refine below_set ?_ GE112.out | refine below_set ?_ GE114.out) | exact HB.out)) hb); have n3_ := Aside0.mk (hbox); have n4_ := Aside0.mk ((by rw [hg]; exact (below_size (by repeat (first | (with_reducible first | exact HB.out | apply below_alloc | apply pw_below_drewN | apply below_drew1 | refine below_set ?_ GE112.out | refine below_set ?_ GE114.out) | exact HB.out))) : w.heap.size ≤ gb116)); have n5_ := Aside0.mk ((by rw [hg]; exact (below_size (by repeat (first | (with_reducible first | exact HB.out | apply below_alloc | apply pw_below_drewN | apply below_drew1 | refine below_set ?_ GE112.out | refine below_set ?_ GE114.out) | exact HB.out))) : w.heap.size ≤ gb116)); have n6_ := Aside0.mk ((by rw [hg]; exact Nat.ne_of_lt (blk_lt (g := gb112) (o := .cells #[.string a0_0, .slice (some ad113) l0_1.length c0_1] 54 (0, 0)) (by (with_reducible repeat (first | refine blk_drewN ?_ _ | refine blk_drew ?_ | refine blk_alloc ?_ _)); exact BK112.out)) : gb112 ≠ gb116)); have n7_ := Aside0.mk ((by rw [hg]; exact Nat.ne_of_gt (blk_lt (g := gb112) (o := .cells #[.string a0_0, .slice (some ad113) l0_1.length c0_1] 54 (0, 0)) (by (with_reducible repeat (first | refine blk_drewN ?_ _ | refine blk_drew ?_ | refine blk_alloc ?_ _)); exact BK112.out)) : gb116 ≠ gb112)); have n8_ := Aside0.mk ((by rw [hg]; exact Nat.ne_of_lt (blk_lt (g := gb114) (o := .cells #[.slice (some ad115) ((rd_T110 l0_1 x11_1).f0).length c113_0] 110 (0, 0)) (by (with_reducible repeat (first | refine blk_drewN ?_ _ | refine blk_drew ?_ | refine blk_alloc ?_ _)); exact BK114.out)) : gb114 ≠ gb116)); have n9_ := Aside0.mk ((by rw [hg]; exact Nat.ne_of_gt (blk_lt (g := gb114) (o := .cells #[.slice (some ad115) ((rd_T110 l0_1 x11_1).f0).length c113_0] 110 (0, 0)) (by (with_reducible repeat (first | refine blk_drewN ?_ _ | refine blk_drew ?_ | refine blk_alloc ?_ _)); exact BK114.out)) : gb116 ≠ gb114)); clear BK112; clear BK114; clear HB; have BK112 := n0_; have BK114 := n1_; have HB := n2_; have BK116 := n3_; have GW116 := n4_; have GE116 := n5_; have NB112_116 := n6_; have NB116_112 := n7_; have NB114_116 := n8_; have NB116_114 := n9_; clear n0_ n1_ n2_ n3_ n4_ n5_ n6_ n7_ n8_ n9_; clear hb hbox hg; have hnb18 := NB116_112.out; have hnc18 := NB112_116.out; have hnb19 := NB116_114.out; have hnc19 := NB114_116.out; have hcz20_0 : w17.cell? ⟨gb116, 0, none⟩ = some (.string (⟨#[]⟩ : ByteArray)) := (blk_cell BK116.out 0).trans rfl; have hcz20_1 : w17.cell? ⟨gb116, 1, none⟩ = some (.string (⟨#[]⟩ : ByteArray)) := (blk_cell BK116.out 1).trans rfl; have hcz20_2 : w17.cell? ⟨gb116, 2, none⟩ = some (.slice none 0 0) := (blk_cell BK116.out 2).trans rfl; have hcz20_3 : w17.cell? ⟨gb116, 3, none⟩ = some (.bool false) := (blk_cell BK116.out 3).trans rfl; have hcz20_4 : w17.cell? ⟨gb116, 4, none⟩ = some (.bool false) := (blk_cell BK116.out 4).trans rfl; have hcz20_5 : w17.cell? ⟨gb116, 5, none⟩ = some (.slice none 0 0) := (blk_cell BK116.out 5).trans rfl; have hfz20_0 := blk_frozen BK116.out 0; have hfz20_1 := blk_frozen BK116.out 1; have hfz20_2 := blk_frozen BK116.out 2; have hfz20_3 := blk_frozen BK116.out 3; have hfz20_4 := blk_frozen BK116.out 4; have hfz20_5 := blk_frozen BK116.out 5) | ((with_reducible refine gate_callee (f := 130) rfl ?_); refine goesL_ (some 28) rfl rfl Tryz.func130 (by kernel_rfl) rfl #[.agg #[.string (⟨#[]⟩ : ByteArray), .slice A115_5 ((rd_T112 ((rd_T110 l0_1 x11_1).f0) x18_2).f5).length c115_5]] rfl (by (try simp only [List.map_toArray, List.map_cons, List.map_nil]); first | done | rfl | (simp only [List.length_drop, List.length_take]; rfl)) ?_; (with_reducible refine (ih k2 (by have := HK1.out; have := HK2.out; omega) (⟨#[]⟩ : ByteArray) _ _ ((rd_T112 ((rd_T110 l0_1 x11_1).f0) x18_2).f5) t117 _ ?side1 ?side2 A15.out).mono ?_); (case side1 => exact Kd.C_below HR115_5.out (by repeat (first | (with_reducible first | exact HB.out | apply below_alloc | apply pw_below_drewN | apply below_drew1 | refine below_set ?_ GE112.out | refine below_set ?_ GE114.out | refine below_set ?_ GE116.out) | exact HB.out))); (case side2 => exact HC115_5.out); rintro e w21 ⟨rfl, hb⟩; refine ⟨_, rfl, ?_⟩; have n0_ := Aside0.mk (blk_below (g := gb112) (o := .cells #[.string a0_0, .slice (some ad113) l0_1.length c0_1] 54 (0, 0)) (by (with_reducible repeat (first | refine blk_drewN ?_ _ | refine blk_drew ?_ | refine blk_alloc ?_ _)); refine blk_far ?_ NB112_116.out _; (with_reducible repeat (first | refine blk_drewN ?_ _ | refine blk_drew ?_ | refine blk_alloc ?_ _)); refine blk_far ?_ NB112_116.out _; (with_reducible repeat (first | refine blk_drewN ?_ _ | refine blk_drew ?_ | refine blk_alloc ?_ _)); refine blk_far ?_ NB112_116.out _; (with_reducible repeat (first | refine blk_drewN ?_ _ | refine blk_drew ?_ | refine blk_alloc ?_ _)); refine blk_far ?_ NB112_116.out _; (with_reducible repeat (first | refine blk_drewN ?_ _ | refine blk_drew ?_ | refine blk_alloc ?_ _)); refine blk_far ?_ NB112_116.out _; (with_reducible repeat (first | refine blk_drewN ?_ _ | refine blk_drew ?_ | refine blk_alloc ?_ _)); refine blk_far ?_ NB112_116.out _; (with_reducible repeat (first | refine blk_drewN ?_ _ | refine blk_drew ?_ | refine blk_alloc ?_ _)); exact BK112.out) hb); have n1_ := Aside0.mk (blk_below (g := gb114) (o := .cells #[.slice (some ad115) ((rd_T110 l0_1 x11_1).f0).length c113_0] 110 (0, 0)) (by (with_reducible repeat (first | refine blk_drewN ?_ _ | refine blk_drew ?_ | refine blk_alloc ?_ _)); refine blk_far ?_ NB114_116.out _; (with_reducible repeat (first | refine blk_drewN ?_ _ | refine blk_drew ?_ | refine blk_alloc ?_ _)); refine blk_far ?_ NB114_116.out _; (with_reducible repeat (first | refine blk_drewN ?_ _ | refine blk_drew ?_ | refine blk_alloc ?_ _)); refine blk_far ?_ NB114_116.out _; (with_reducible repeat (first | refine blk_drewN ?_ _ | refine blk_drew ?_ | refine blk_alloc ?_ _)); refine blk_far ?_ NB114_116.out _; (with_reducible repeat (first | refine blk_drewN ?_ _ | refine blk_drew ?_ | refine blk_alloc ?_ _)); refine blk_far ?_ NB114_116.out _; (with_reducible repeat (first | refine blk_drewN ?_ _ | refine blk_drew ?_ | refine blk_alloc ?_ _)); refine blk_far ?_ NB114_116.out _; (with_reducible repeat (first | refine blk_drewN ?_ _ | refine blk_drew ?_ | refine blk_alloc ?_ _)); exact BK114.out) hb); have n2_ := Aside0.mk (blk_below (g := gb116) (o := .cells #[.string ((rd_T112 ((rd_T110 l0_1 x11_1).f0) x18_2).f0), .string ((rd_T112 ((rd_T110 l0_1 x11_1).f0) x18_2).f1), .slice A115_2 ((rd_T112 ((rd_T110 l0_1 x11_1).f0) x18_2).f2).length c115_2, .bool true, .bool ((rd_T112 ((rd_T110 l0_1 x11_1).f0) x18_2).f4), .slice A115_5 ((rd_T112 ((rd_T110 l0_1 x11_1).f0) x18_2).f5).length c115_5] 112 (0, 0)) (by (with_reducible repeat (first | refine blk_drewN ?_ _ | refine blk_drew ?_ | refine blk_alloc ?_ _)); refine blk_put (cs := #[.string ((rd_T112 ((rd_T110 l0_1 x11_1).f0) x18_2).f0), .string ((rd_T112 ((rd_T110 l0_1 x11_1).f0) x18_2).f1), .slice A115_2 ((rd_T112 ((rd_T110 l0_1 x11_1).f0) x18_2).f2).length c115_2, .bool true, .bool ((rd_T112 ((rd_T110 l0_1 x11_1).f0) x18_2).f4), .slice none 0 0]) ?_ 5 _ rfl; (with_reducible repeat (first | refine blk_drewN ?_ _ | refine blk_drew ?_ | refine blk_alloc ?_ _)); refine blk_put (cs := #[.string ((rd_T112 ((rd_T110 l0_1 x11_1).f0) x18_2).f0), .string ((rd_T112 ((rd_T110 l0_1 x11_1).f0) x18_2).f1), .slice A115_2 ((rd_T112 ((rd_T110 l0_1 x11_1).f0) x18_2).f2).length c115_2, .bool true, .bool false, .slice none 0 0]) ?_ 4 _ rfl; (with_reducible repeat (first | refine blk_drewN ?_ _ | refine blk_drew ?_ | refine blk_alloc ?_ _)); refine blk_put (cs := #[.string ((rd_T112 ((rd_T110 l0_1 x11_1).f0) x18_2).f0), .string ((rd_T112 ((rd_T110 l0_1 x11_1).f0) x18_2).f1), .slice A115_2 ((rd_T112 ((rd_T110 l0_1 x11_1).f0) x18_2).f2).length c115_2, .bool false, .bool false, .slice none 0 0]) ?_ 3 _ rfl; (with_reducible repeat (first | refine blk_drewN ?_ _ | refine blk_drew ?_ | refine blk_alloc ?_ _)); refine blk_put (cs := #[.string ((rd_T112 ((rd_T110 l0_1 x11_1).f0) x18_2).f0), .string ((rd_T112 ((rd_T110 l0_1 x11_1).f0) x18_2).f1), .slice none 0 0, .bool false, .bool false, .slice none 0 0]) ?_ 2 _ rfl; (with_reducible repeat (first | refine blk_drewN ?_ _ | refine blk_drew ?_ | refine blk_alloc ?_ _)); refine blk_put (cs := #[.string ((rd_T112 ((rd_T110 l0_1 x11_1).f0) x18_2).f0), .string (⟨#[]⟩ : ByteArray), .slice none 0 0, .bool false, .bool false, .slice none 0 0]) ?_ 1 _ rfl; (with_reducible repeat (first | refine blk_drewN ?_ _ | refine blk_drew ?_ | refine blk_alloc ?_ _)); refine blk_put (cs := #[.string (⟨#[]⟩ : ByteArray), .string (⟨#[]⟩ : ByteArray), .slice none 0 0, .bool false, .bool false, .slice none 0 0]) ?_ 0 _ rfl; (with_reducible repeat (first | refine blk_drewN ?_ _ | refine blk_drew ?_ | refine blk_alloc ?_ _)); exact BK116.out) hb); have n3_ := Aside0.mk (below_step (by repeat (first | (with_reducible first | exact HB.out | apply below_alloc | apply pw_below_drewN | apply below_drew1 | refine below_set ?_ GE112.out | refine below_set ?_ GE114.out | refine below_set ?_ GE116.out) | exact HB.out)) hb); clear BK112; clear BK114; clear BK116; clear HB; have BK112 := n0_; have BK114 := n1_; have BK116 := n2_; have HB := n3_; clear n0_ n1_ n2_ n3_; (try clear hb); (try clear hb2); (try clear hk); (try clear hi)))
            go_roundg k2
            case measure => have := HK1.out; have := HK2.out; omega
            case rel => exact ⟨(ji16), (wrap64 (x18_2 + 1)), (by first | rfl | (simp; done) | (simp only [← hji16] <;> (first | rfl | simp)) | (simp [*]; done)), (by first | rfl | (simp; done) | (simp [*]; done)), H', ⟨by have := HK1.out; have := HK2.out; omega⟩, ⟨by (with_reducible repeat (first | refine blk_drewN ?_ _ | refine blk_drew ?_ | refine blk_alloc ?_ _)); exact BK112.out⟩, ⟨by (with_reducible repeat (first | refine blk_drewN ?_ _ | refine blk_drew ?_ | refine blk_alloc ?_ _)); exact BK114.out⟩, ⟨by repeat (first | (with_reducible first | exact HB.out | apply below_alloc | apply pw_below_drewN | apply below_drew1 | refine below_set ?_ GE112.out | refine below_set ?_ GE114.out | refine below_set ?_ GE116.out) | exact HB.out)⟩⟩
           ·replace c14 := Bool.eq_false_iff.mpr c14
            subst c14
            have H1 : (syntax_Depth.l1 k2 x3_2 l0_1 (l0_1.length : Int) x11_1 ((rd_T110 l0_1 x11_1).f0) (((rd_T110 l0_1 x11_1).f0).length : Int) (wrap64 (x18_2 + 1))) = some r := by rw [if_neg (show ¬ (false = true) by decide)] at H; exact H
            clear H
            have H := H1
            clear H1
            have H' := Aside0.mk H
            clear H
            have p115 : 0 ≤ (x18_2 : Int) := of_decide_eq_true (by first | (with_reducible assumption) | assumption)
            have q115 : x18_2 < (((rd_T110 l0_1 x11_1).f0).length : Int) := of_decide_eq_true (by first | (with_reducible assumption) | assumption)
            obtain ⟨ad115, A115_2, c115_2, A115_5, c115_5, e115, hx115_0, hx115_1, hx115_2, hx115_3, hx115_4, hx115_5, hl115_2, hi115_2, hl115_5, hi115_5⟩ := at_T112 HR113_0.out x18_2 p115 q115
            (try rw [← Nbq13.out] at hx115_3)
            (try rw [← Nbq13.out] at hx115_4)
            cases e115
            replace hx115_0 := (HB.out.cell (World.block_lt_of_cell? w _ hx115_0)).trans hx115_0
            replace hx115_1 := (HB.out.cell (World.block_lt_of_cell? w _ hx115_1)).trans hx115_1
            replace hx115_2 := (HB.out.cell (World.block_lt_of_cell? w _ hx115_2)).trans hx115_2
            replace hx115_3 := (HB.out.cell (World.block_lt_of_cell? w _ hx115_3)).trans hx115_3
            replace hx115_4 := (HB.out.cell (World.block_lt_of_cell? w _ hx115_4)).trans hx115_4
            replace hx115_5 := (HB.out.cell (World.block_lt_of_cell? w _ hx115_5)).trans hx115_5
            have HR115_2 := Aside0.mk hi115_2
            have HC115_2 := Aside0.mk hl115_2
            clear hi115_2 hl115_2
            have HR115_5 := Aside0.mk hi115_5
            have HC115_5 := Aside0.mk hl115_5
            clear hi115_5 hl115_5
            replace p115 := eq_true p115
            replace q115 := eq_true q115
            go_wp2_with (first | ((with_reducible refine gate_dst (N := 7) rfl ?_); refine box_event ?hg (N := 7) ?hd (cs := #[.string (⟨#[]⟩ : ByteArray), .string (⟨#[]⟩ : ByteArray), .slice none 0 0, .bool false, .bool false, .slice none 0 0]) (t := 112) ?hr ?_; (case hd => rfl); (case hg => rfl); (case hr => first | (go_simp; done) | (go_simp; rfl)); intro gb116 hg w22 hbox hb; have n0_ := Aside0.mk (blk_below (g := gb112) (o := .cells #[.string a0_0, .slice (some ad113) l0_1.length c0_1] 54 (0, 0)) (by (with_reducible repeat (first | refine blk_drewN ?_ _ | refine blk_drew ?_ | refine blk_alloc ?_ _)); exact BK112.out) hb); have n1_ := Aside0.mk (blk_below (g := gb114) (o := .cells #[.slice (some ad115) ((rd_T110 l0_1 x11_1).f0).length c113_0] 110 (0, 0)) (by (with_reducible repeat (first | refine blk_drewN ?_ _ | refine blk_drew ?_ | refine blk_alloc ?_ _)); exact BK114.out) hb); have n2_ := Aside0.mk (below_step (by repeat (first | (with_reducible first | exact HB.out | apply below_alloc | apply pw_below_drewN | apply below_drew1 | refine below_set ?_ GE112.out | refine below_set ?_ GE114.out) | exact HB.out)) hb); have n3_ := Aside0.mk (hbox); have n4_ := Aside0.mk ((by rw [hg]; exact (below_size (by repeat (first | (with_reducible first | exact HB.out | apply below_alloc | apply pw_below_drewN | apply below_drew1 | refine below_set ?_ GE112.out | refine below_set ?_ GE114.out) | exact HB.out))) : w.heap.size ≤ gb116)); have n5_ := Aside0.mk ((by rw [hg]; exact (below_size (by repeat (first | (with_reducible first | exact HB.out | apply below_alloc | apply pw_below_drewN | apply below_drew1 | refine below_set ?_ GE112.out | refine below_set ?_ GE114.out) | exact HB.out))) : w.heap.size ≤ gb116)); have n6_ := Aside0.mk ((by rw [hg]; exact Nat.ne_of_lt (blk_lt (g := gb112) (o := .cells #[.string a0_0, .slice (some ad113) l0_1.length c0_1] 54 (0, 0)) (by (with_reducible repeat (first | refine blk_drewN ?_ _ | refine blk_drew ?_ | refine blk_alloc ?_ _)); exact BK112.out)) : gb112 ≠ gb116)); have n7_ := Aside0.mk ((by rw [hg]; exact Nat.ne_of_gt (blk_lt (g := gb112) (o := .cells #[.string a0_0, .slice (some ad113) l0_1.length c0_1] 54 (0, 0)) (by (with_reducible repeat (first | refine blk_drewN ?_ _ | refine blk_drew ?_ | refine blk_alloc ?_ _)); exact BK112.out)) : gb116 ≠ gb112)); have n8_ := Aside0.mk ((by rw [hg]; exact Nat.ne_of_lt (blk_lt (g := gb114) (o := .cells #[.slice (some ad115) ((rd_T110 l0_1 x11_1).f0).length c113_0] 110 (0, 0)) (by (with_reducible repeat (first | refine blk_drewN ?_ _ | refine blk_drew ?_ | refine blk_alloc ?_ _)); exact BK114.out)) : gb114 ≠ gb116)); have n9_ := Aside0.mk ((by rw [hg]; exact Nat.ne_of_gt (blk_lt (g := gb114) (o := .cells #[.slice (some ad115) ((rd_T110 l0_1 x11_1).f0).length c113_0] 110 (0, 0)) (by (with_reducible repeat (first | refine blk_drewN ?_ _ | refine blk_drew ?_ | refine blk_alloc ?_ _)); exact BK114.out)) : gb116 ≠ gb114)); clear BK112; clear BK114; clear HB; have BK112 := n0_; have BK114 := n1_; have HB := n2_; have BK116 := n3_; have GW116 := n4_; have GE116 := n5_; have NB112_116 := n6_; have NB116_112 := n7_; have NB114_116 := n8_; have NB116_114 := n9_; clear n0_ n1_ n2_ n3_ n4_ n5_ n6_ n7_ n8_ n9_; clear hb hbox hg; have hnb23 := NB116_112.out; have hnc23 := NB112_116.out; have hnb24 := NB116_114.out; have hnc24 := NB114_116.out; have hcz25_0 : w22.cell? ⟨gb116, 0, none⟩ = some (.string (⟨#[]⟩ : ByteArray)) := (blk_cell BK116.out 0).trans rfl; have hcz25_1 : w22.cell? ⟨gb116, 1, none⟩ = some (.string (⟨#[]⟩ : ByteArray)) := (blk_cell BK116.out 1).trans rfl; have hcz25_2 : w22.cell? ⟨gb116, 2, none⟩ = some (.slice none 0 0) := (blk_cell BK116.out 2).trans rfl; have hcz25_3 : w22.cell? ⟨gb116, 3, none⟩ = some (.bool false) := (blk_cell BK116.out 3).trans rfl; have hcz25_4 : w22.cell? ⟨gb116, 4, none⟩ = some (.bool false) := (blk_cell BK116.out 4).trans rfl; have hcz25_5 : w22.cell? ⟨gb116, 5, none⟩ = some (.slice none 0 0) := (blk_cell BK116.out 5).trans rfl; have hfz25_0 := blk_frozen BK116.out 0; have hfz25_1 := blk_frozen BK116.out 1; have hfz25_2 := blk_frozen BK116.out 2; have hfz25_3 := blk_frozen BK116.out 3; have hfz25_4 := blk_frozen BK116.out 4; have hfz25_5 := blk_frozen BK116.out 5))
            go_roundg k2
            case measure => have := HK1.out; have := HK2.out; omega
            case rel => exact ⟨(x3_2), (wrap64 (x18_2 + 1)), (by first | rfl | (simp; done) | (simp [*]; done)), (by first | rfl | (simp; done) | (simp [*]; done)), H', ⟨by have := HK1.out; have := HK2.out; omega⟩, ⟨by (with_reducible repeat (first | refine blk_drewN ?_ _ | refine blk_drew ?_ | refine blk_alloc ?_ _)); refine blk_far ?_ NB112_116.out _; (with_reducible repeat (first | refine blk_drewN ?_ _ | refine blk_drew ?_ | refine blk_alloc ?_ _)); refine blk_far ?_ NB112_116.out _; (with_reducible repeat (first | refine blk_drewN ?_ _ | refine blk_drew ?_ | refine blk_alloc ?_ _)); refine blk_far ?_ NB112_116.out _; (with_reducible repeat (first | refine blk_drewN ?_ _ | refine blk_drew ?_ | refine blk_alloc ?_ _)); refine blk_far ?_ NB112_116.out _; (with_reducible repeat (first | refine blk_drewN ?_ _ | refine blk_drew ?_ | refine blk_alloc ?_ _)); refine blk_far ?_ NB112_116.out _; (with_reducible repeat (first | refine blk_drewN ?_ _ | refine blk_drew ?_ | refine blk_alloc ?_ _)); refine blk_far ?_ NB112_116.out _; (with_reducible repeat (first | refine blk_drewN ?_ _ | refine blk_drew ?_ | refine blk_alloc ?_ _)); exact BK112.out⟩, ⟨by (with_reducible repeat (first | refine blk_drewN ?_ _ | refine blk_drew ?_ | refine blk_alloc ?_ _)); refine blk_far ?_ NB114_116.out _; (with_reducible repeat (first | refine blk_drewN ?_ _ | refine blk_drew ?_ | refine blk_alloc ?_ _)); refine blk_far ?_ NB114_116.out _; (with_reducible repeat (first | refine blk_drewN ?_ _ | refine blk_drew ?_ | refine blk_alloc ?_ _)); refine blk_far ?_ NB114_116.out _; (with_reducible repeat (first | refine blk_drewN ?_ _ | refine blk_drew ?_ | refine blk_alloc ?_ _)); refine blk_far ?_ NB114_116.out _; (with_reducible repeat (first | refine blk_drewN ?_ _ | refine blk_drew ?_ | refine blk_alloc ?_ _)); refine blk_far ?_ NB114_116.out _; (with_reducible repeat (first | refine blk_drewN ?_ _ | refine blk_drew ?_ | refine blk_alloc ?_ _)); refine blk_far ?_ NB114_116.out _; (with_reducible repeat (first | refine blk_drewN ?_ _ | refine blk_drew ?_ | refine blk_alloc ?_ _)); exact BK114.out⟩, ⟨by repeat (first | (with_reducible first | exact HB.out | apply below_alloc | apply pw_below_drewN | apply below_drew1 | refine below_set ?_ GE112.out | refine below_set ?_ GE114.out | refine below_set ?_ GE116.out) | exact HB.out)⟩⟩
          ·rw [if_neg c12] at H
           exact absurd H (by simp)
         ·rw [if_neg c11] at H
          exact absurd H (by simp)
        ·rw [if_neg c10] at H
         have c10b0 : decide (x18_2 < (((rd_T110 l0_1 x11_1).f0).length : Int)) = false := decide_eq_false c10
         clear c10
         have H' := Aside0.mk H
         clear H
         go_wp2
         go_roundg k2
         case measure => have := HK1.out; have := HK2.out; omega
         case rel => exact ⟨(x3_2), (wrap64 (x11_1 + 1)), (by first | rfl | (simp; done) | (simp [*]; done)), (by first | rfl | (simp; done) | (simp [*]; done)), H', ⟨by have := HK1.out; have := HK2.out; omega⟩, ⟨by (with_reducible repeat (first | refine blk_drewN ?_ _ | refine blk_drew ?_ | refine blk_alloc ?_ _)); exact BK112.out⟩, ⟨by repeat (first | (with_reducible first | exact HB.out | apply below_alloc | apply pw_below_drewN | apply below_drew1 | refine below_set ?_ GE112.out | refine below_set ?_ GE114.out) | exact HB.out)⟩⟩
     ·rw [if_neg c6] at H
      exact absurd H (by simp)
    ·rw [if_neg c5] at H
     exact absurd H (by simp)
   ·rw [if_neg c4] at H
    have c4b0 : decide (x11_1 < (l0_1.length : Int)) = false := decide_eq_false c4
    clear c4
    obtain rfl := Option.some.inj H
    go_wp2
    go_ret
    exact ⟨by first | rfl | (simp [errW_none, errW_some] <;> rfl) | (simp [*, errW_none, errW_some] <;> rfl), by repeat (first | (with_reducible first | exact HB.out | apply below_alloc | apply pw_below_drewN | apply below_drew1 | refine below_set ?_ GE112.out) | exact HB.out)⟩
end Go.Proofs.YtloijngccppfgaaGreat.F
end

section
namespace Go.Proofs.YtloijngccppfgaaGreat.F
open Go.RowKit Go.Proofs.YtloijngccppfgaaGreatW.PrintWords Go.Proofs.YtloijngccppfgaaGreatW.PrintLast Go.Proofs.YtloijngccppfgaaGreatW.PrintMore
attribute [local go_sem] max2_int min2_int max_two min_two max_three min_three max_four min_four
set_option linter.unusedVariables false
set_option linter.unusedSimpArgs false
set_option maxHeartbeats 4000000 in
set_option maxRecDepth 100000 in
theorem index_func_string (gf : Nat) (lb : Array Value) (eg : ∀ args w, (callFunc gf args).run Tryz.prog w = .ok (.enter gf args) w) (p : ByteArray → Bool) (A0 : Option Addr) (c0 : Nat) (l0 : List ByteArray) (w : World) (hr0 : Kd.C Kd.string w A0 l0.length l0)
  (hp : ∀ (i : Nat) (h : i < l0.length) (W : World), Below w.heap.size w W → Calls Tryz.prog gf (#[.string l0[i]] ++ lb) W fun e W' => e = .returned (.bool (p l0[i])) ∧ Below W.heap.size W W') :
  Calls Tryz.prog 171 #[.slice A0 l0.length c0, .func (.func gf) #[] lb] w fun e w' => e = .returned (.int .i64 (idxF p l0 0)) ∧ Below w.heap.size w w' := by
 have HR := Aside0.mk hr0
 have HB := Aside0.mk (Below.refl w.heap.size w)
 have HM := Aside0.mk (Kd.C_max hr0)
 have HL := Aside0.mk (idxF_drop p l0)
 have HP := Aside0.mk hp
 clear hr0 hp
 go_enter Tryz.func171, Tryz.ntmps171
 go_wp2
 go_loopg [5, 8] l0.length (fun kq v5 v8 w' => ∃ i : Nat, i + kq = l0.length ∧ v8 = .int .i64 i ∧ Aside0 (idxF p l0 0 = idxF p (l0.drop i) i) ∧ Aside0 (Below w.heap.size w w'))
 case atStart => exact ⟨0, by omega, rfl, ⟨rfl⟩, ⟨Below.refl _ _⟩⟩
 case round =>
  obtain ⟨i, hi, rfl, HI, HB⟩ := hrel
  have hm := HM.out
  cases gk with
  | zero =>
   obtain rfl : i = l0.length := by omega
   have HE : Aside0 (idxF p l0 0 = -1) := ⟨by rw [HI.out, List.drop_eq_nil_of_le (Nat.le_refl _)]; rfl⟩
   clear eg
   go_wp2
   go_ret
   exact ⟨by rw [HE.out]; rfl, HB.out⟩
  | succ k =>
   have hlt : i < l0.length := by omega
   obtain ⟨ad, e0, x0⟩ := Kd.at_string (Kd.C_below HR.out HB.out) (i : Int) (by omega) (by omega)
   rw [Int.toNat_natCast] at x0
   have hrd : rdOf ByteArray.empty l0 (i : Int) = l0[i] := by unfold rdOf; rw [Int.toNat_natCast, List.getD_eq_getElem?_getD, List.getElem?_eq_getElem hlt]; rfl
   rw [hrd] at x0
   subst e0
   have hcall := HP.out i hlt wr HB.out
   obtain ⟨x, hx⟩ : ∃ x, l0[i] = x := ⟨_, rfl⟩
   have HD := Aside0.mk (HL.out i hlt (i : Int))
   rw [hx] at x0 HD hcall
   have hlt' : (i : Int) < (l0.length : Int) := by omega
   have h0 : (0 : Int) ≤ i := by omega
   have HI2 := Aside0.mk hi
   have HC := Aside0.mk hcall
   clear hx hrd hi hcall
   obtain ⟨v, hv⟩ : ∃ v, p x = v := ⟨_, rfl⟩
   have HV := Aside0.mk hv
   clear hv
   cases v
   all_goals
    go_wp2_with (go_at_fn gf; refine HC.out.mono ?_; rintro e w2 ⟨rfl, hB2⟩; rw [HV.out]; have HB2 := Aside0.mk hB2; clear hB2)
   ·go_roundg k
    case measure => omega
    case rel => exact ⟨i + 1, by have := HI2.out; omega, by go_num, ⟨by rw [HI.out, HD.out, HV.out]; simp⟩, ⟨HB.out.trans (HB2.out.mono HB.out.size)⟩⟩
   ·go_ret
    exact ⟨by rw [HI.out, HD.out, HV.out]; rfl, HB.out.trans (HB2.out.mono HB.out.size)⟩
set_option maxHeartbeats 4000000 in
set_option maxRecDepth 100000 in
theorem contains_func_string (gf : Nat) (lb : Array Value) (eg : ∀ args w, (callFunc gf args).run Tryz.prog w = .ok (.enter gf args) w) (p : ByteArray → Bool) (A0 : Option Addr) (c0 : Nat) (l0 : List ByteArray) (w : World) (hr0 : Kd.C Kd.string w A0 l0.length l0)
  (hp : ∀ (i : Nat) (h : i < l0.length) (W : World), Below w.heap.size w W → Calls Tryz.prog gf (#[.string l0[i]] ++ lb) W fun e W' => e = .returned (.bool (p l0[i])) ∧ Below W.heap.size W W') :
  Calls Tryz.prog 162 #[.slice A0 l0.length c0, .func (.func gf) #[] lb] w fun e w' => e = .returned (.bool (l0.any p)) ∧ Below w.heap.size w w' := by
 have hc := Aside0.mk (index_func_string gf lb eg p A0 c0 l0 w hr0 hp)
 have HA := Aside0.mk (idxF_any p l0 0 (by omega))
 clear hp eg hr0
 go_enter Tryz.func162, Tryz.ntmps162
 go_wp2_with (go_at_call 171; refine hc.out.mono ?_; rintro e w2 ⟨rfl, hB2⟩; have HB2 := Aside0.mk hB2; clear hB2)
 go_ret
 exact ⟨by rw [HA.out]; rfl, HB2.out⟩
end Go.Proofs.YtloijngccppfgaaGreat.F
end

section
namespace Go.Proofs.YtloijngccppfgaaGreat.F
open Go.RowKit Go.Proofs.YtloijngccppfgaaGreatW.PrintWords Go.Proofs.YtloijngccppfgaaGreatW.PrintLast Go.Proofs.YtloijngccppfgaaGreatW.PrintMore
attribute [local go_sem] max2_int min2_int max_two min_two max_three min_three max_four min_four
set_option linter.unusedVariables false
set_option linter.unusedSimpArgs false
def wordB (s : ByteArray) : Bool := (lex_Word.f s).getD false
theorem word_of (s : ByteArray) : lex_Word.f s = some (wordB s) := by
 unfold wordB lex_Word.f
 repeat' split
 all_goals rfl
def okName (s : ByteArray) : Bool := nameB s && !wordB s
theorem names_of (s : ByteArray) : syntax_names.f s = some (okName s) := by
 unfold syntax_names.f okName
 simp only [lex_Name.f, Option.bind_some, word_of]
 cases nameB s <;> simp
mutual
def fitsS : S112 → Bool
 | ⟨nm, un, af, sb, vi, al⟩ => if !okName nm || af.any (fun s => !okName s) then false else if sb then decide (un.toList = []) && (altsFit al && decide (0 < al.length)) else !vi && (decide (al.length = 0) && (decide (un.toList = []) || okName un))
def nodesFit : List S112 → Bool
 | [] => true
 | x :: l => fitsS x && nodesFit l
def bodyFits : SB110 S112 → Bool
 | ⟨l⟩ => nodesFit l
def altsFit : List (SB110 S112) → Bool
 | [] => true
 | b :: l => bodyFits b && altsFit l
end
def bodiesOk (l : List S110) : Bool := altsFit l && decide (0 < l.length)
theorem nodesFit_any : ∀ (l : List S112), l.any (fun x => !fitsS x) = !nodesFit l
 | [] => by simp [nodesFit]
 | x :: l => by rw [List.any_cons, nodesFit_any l]; simp [nodesFit]
set_option maxHeartbeats 2000000 in
theorem fits1_lit (s : ByteArray) (w : World) : Calls Tryz.prog 161 #[.string s] w fun e w' => e = .returned (.bool (!okName s)) ∧ Below w.heap.size w w' := by
 go_enter Tryz.func161, Tryz.ntmps161
 go_wp2_with (go_at_call 129; refine (syntax_names.calls s _ _ (names_of s)).mono ?_; rintro e w2 ⟨rfl, hB2⟩; have HB2 := Aside0.mk hB2; clear hB2)
 go_ret
 exact ⟨rfl, HB2.out⟩
def FitsC (x : S112) : Prop := ∀ (w : World) (cs : List Value), k112.K w x cs → Calls Tryz.prog 146 #[.agg cs.toArray] w fun e w' => e = .returned (.bool (fitsS x)) ∧ Below w.heap.size w w'
def BodiesC (l : List S110) : Prop := ∀ (w : World) (A : Option Addr) (c : Nat), k110.C w A l.length l → l.length ≤ c → Calls Tryz.prog 131 #[.slice A l.length c] w fun e w' => e = .returned (.bool (bodiesOk l)) ∧ Below w.heap.size w w'
set_option maxHeartbeats 8000000 in
set_option maxRecDepth 100000 in
theorem fits_walk (x : S112) (Hb : BodiesC x.f5) : FitsC x := by
 intro w cs hK
 obtain ⟨A2, c2, A5, c5, rfl, l2, g2, l5, g5⟩ := k112_open hK
 clear hK
 obtain ⟨nm, un, af, sb, vi, al⟩ := x
 simp only at l2 g2 l5 g5 Hb ⊢
 have HBo := Aside0.mk Hb
 have HL5 := Aside0.mk l5
 have e1 : ∀ args w, (callFunc 161 args).run Tryz.prog w = .ok (.enter 161 args) w := enters_of Tryz.func161 (by kernel_rfl) rfl
 have HG := Aside0.mk (heap_alloc_new w (.cells #[.string nm, .string un, .slice A2 af.length c2, .bool sb, .bool vi, .slice A5 al.length c5] 112 (0, 0)))
 have HC2 := Aside0.mk (Kd.C_alloc g2 (.cells #[.string nm, .string un, .slice A2 af.length c2, .bool sb, .bool vi, .slice A5 al.length c5] 112 (0, 0)))
 have HC5 := Aside0.mk (Kd.C_alloc g5 (.cells #[.string nm, .string un, .slice A2 af.length c2, .bool sb, .bool vi, .slice A5 al.length c5] 112 (0, 0)))
 have HB := Aside0.mk ((Below.refl w.heap.size w).alloc (Nat.le_refl _) (.cells #[.string nm, .string un, .slice A2 af.length c2, .bool sb, .bool vi, .slice A5 al.length c5] 112 (0, 0)))
 have HE := Aside0.mk e1
 clear g2 g5 l2 l5 Hb e1
 go_enter Tryz.func146, Tryz.ntmps146
 cases sb <;> cases vi
 all_goals
  go_wp2_with (first
   | (go_at_call 129; refine (syntax_names.calls _ _ _ (names_of _)).mono ?_; rintro e w2 ⟨rfl, hb⟩; replace HG := Aside0.mk ((hb.block _ (blk_lt HG.out)).trans HG.out); replace HC2 := Aside0.mk (Kd.C_below HC2.out hb); replace HC5 := Aside0.mk (Kd.C_below HC5.out hb); replace HB := Aside0.mk (HB.out.trans (hb.mono HB.out.size)); have q0 := (blk_cell HG.out 0).trans rfl; have q1 := (blk_cell HG.out 1).trans rfl; have q2 := (blk_cell HG.out 2).trans rfl; have q3 := (blk_cell HG.out 3).trans rfl; have q4 := (blk_cell HG.out 4).trans rfl; have q5 := (blk_cell HG.out 5).trans rfl; clear hb)
   | (go_at_call 162; refine (contains_func_string 161 #[] HE.out (fun s => !okName s) A2 c2 af _ HC2.out (fun i h W hW => fits1_lit af[i] W)).mono ?_; rintro e w2 ⟨rfl, hb⟩; replace HG := Aside0.mk ((hb.block _ (blk_lt HG.out)).trans HG.out); replace HC2 := Aside0.mk (Kd.C_below HC2.out hb); replace HC5 := Aside0.mk (Kd.C_below HC5.out hb); replace HB := Aside0.mk (HB.out.trans (hb.mono HB.out.size)); have q0 := (blk_cell HG.out 0).trans rfl; have q1 := (blk_cell HG.out 1).trans rfl; have q2 := (blk_cell HG.out 2).trans rfl; have q3 := (blk_cell HG.out 3).trans rfl; have q4 := (blk_cell HG.out 4).trans rfl; have q5 := (blk_cell HG.out 5).trans rfl; clear hb)
   | (go_at_call 131; refine (HBo.out _ A5 c5 HC5.out HL5.out).mono ?_; rintro e w2 ⟨rfl, hb⟩; replace HB := Aside0.mk (HB.out.trans (hb.mono HB.out.size)); clear hb))
 all_goals (go_ret; refine ⟨?_, HB.out⟩; simp_all [fitsS, bodiesOk, -List.any_eq_true, -List.any_eq_false])
set_option maxHeartbeats 2000000 in
set_option maxRecDepth 100000 in
theorem bodies1_lit (x : S112) (Hf : FitsC x) (w : World) (cs : List Value) (hK : k112.K w x cs) : Calls Tryz.prog 145 #[.agg cs.toArray] w fun e w' => e = .returned (.bool (!fitsS x)) ∧ Below w.heap.size w w' := by
 have HK := Aside0.mk (k112.K_below (below_alloc (Below.refl w.heap.size w) (.cells cs.toArray 112 (0, 0))) hK)
 have HB := Aside0.mk ((Below.refl w.heap.size w).alloc (Nat.le_refl _) (.cells cs.toArray 112 (0, 0)))
 have HF := Aside0.mk Hf
 obtain ⟨A2, c2, A5, c5, rfl, l2, g2, l5, g5⟩ := k112_open hK
 clear hK Hf l2 g2 l5 g5
 go_enter Tryz.func145, Tryz.ntmps145
 go_wp2_with (go_at_call 146; refine (HF.out _ _ HK.out).mono ?_; rintro e w2 ⟨rfl, hb⟩; replace HB := Aside0.mk (HB.out.trans (hb.mono HB.out.size)); clear hb)
 go_ret
 exact ⟨rfl, HB.out⟩
set_option maxHeartbeats 8000000 in
set_option maxRecDepth 100000 in
theorem bodies_walk (l : List S110) (Hf : ∀ b ∈ l, ∀ x ∈ b.f0, FitsC x) : BodiesC l := by
 intro w A c hC hc
 have e1 : ∀ args w, (callFunc 145 args).run Tryz.prog w = .ok (.enter 145 args) w := enters_of Tryz.func145 (by kernel_rfl) rfl
 have HR := Aside0.mk hC
 have HM := Aside0.mk (Kd.C_max hC)
 have HF := Aside0.mk Hf
 have HE := Aside0.mk e1
 clear hC hc Hf e1
 go_enter Tryz.func131, Tryz.ntmps131
 go_wp2
 go_loopg [8] l.length (fun kq v8 w' => ∃ i : Nat, i + kq = l.length ∧ v8 = .int .i64 i ∧ Aside0 (altsFit l = altsFit (l.drop i)) ∧ Aside0 (Below w.heap.size w w'))
 case atStart => exact ⟨0, by omega, rfl, ⟨rfl⟩, ⟨Below.refl _ _⟩⟩
 case round =>
  obtain ⟨i, hi, rfl, HI, HB⟩ := hrel
  have hm := HM.out
  cases gk with
  | zero =>
   obtain rfl : i = l.length := by omega
   have HV : Aside0 (altsFit l = true) := ⟨by rw [HI.out, List.drop_eq_nil_of_le (Nat.le_refl _)]; rfl⟩
   go_wp2
   go_ret
   exact ⟨by simp [bodiesOk, HV.out], HB.out⟩
  | succ k =>
   have hlt : i < l.length := by omega
   obtain ⟨ad, A0, c0, e0, x0, l0, g0⟩ := at_T110 (Kd.C_below HR.out HB.out) (i : Int) (by omega) (by omega)
   rw [Int.toNat_natCast] at x0
   have hrd : rd_T110 l (i : Int) = l[i] := by unfold rd_T110; rw [Int.toNat_natCast, List.getD_eq_getElem?_getD, List.getElem?_eq_getElem hlt]; rfl
   rw [hrd] at x0 l0 g0
   subst e0
   have hff := HF.out l[i] (List.getElem_mem hlt)
   obtain ⟨b, hb⟩ : ∃ b, l[i] = b := ⟨_, rfl⟩
   have HD : Aside0 (altsFit (l.drop i) = (bodyFits b && altsFit (l.drop (i + 1)))) := ⟨by rw [List.drop_eq_getElem_cons hlt, hb]; rfl⟩
   rw [hb] at x0 l0 g0 hff
   have hlt' : (i : Int) < (l.length : Int) := by omega
   have h0 : (0 : Int) ≤ i := by omega
   have HI2 := Aside0.mk hi
   have HFB := Aside0.mk hff
   have HG0 := Aside0.mk g0
   clear hrd hi hb hff g0 l0
   obtain ⟨v, hv⟩ : ∃ v, bodyFits b = v := ⟨_, rfl⟩
   have HV := Aside0.mk hv
   clear hv
   have HA : Aside0 (b.f0.any (fun x => !fitsS x) = !v) := ⟨by rw [nodesFit_any, ← HV.out]; cases b; rfl⟩
   cases v
   all_goals
    go_wp2_with (go_at_call 147; refine (contains_func_node 145 #[] HE.out (fun x => !fitsS x) A0 c0 b.f0 _ ?hC ?hp).mono ?_; (case hC => exact Kd.C_alloc HG0.out _); (case hp => intro j hj W hW cs hk; exact bodies1_lit _ (HFB.out _ (List.getElem_mem hj)) W cs hk); rintro e w2 ⟨rfl, hb⟩; have HB2 := Aside0.mk (HB.out.trans ((((Below.refl _ _).alloc (Nat.le_refl _) _).trans (hb.mono (by simp))).mono HB.out.size)); rw [HA.out]; clear hb)
   ·go_ret
    exact ⟨by rw [show bodiesOk l = false from by unfold bodiesOk; rw [HI.out, HD.out, HV.out]; rfl]; rfl, HB2.out⟩
   ·go_roundg k
    case measure => omega
    case rel => exact ⟨i + 1, by have := HI2.out; omega, by go_num, ⟨by rw [HI.out, HD.out, HV.out]; rfl⟩, HB2⟩
theorem mem_lt_body {b : S110} {x : S112} (h : x ∈ b.f0) : SizeOf.sizeOf x < SizeOf.sizeOf b := by
 have h1 := List.sizeOf_lt_of_mem h
 cases b
 simp only [SB110.mk.sizeOf_spec] at *
 omega
theorem alts_lt (x : S112) : SizeOf.sizeOf x.f5 < SizeOf.sizeOf x := by
 cases x
 simp only [S112.mk.sizeOf_spec]
 omega
theorem fits_all (n : Nat) : ∀ x : S112, SizeOf.sizeOf x < n → FitsC x := by
 induction n with
 | zero => intro x h; exact absurd h (Nat.not_lt_zero _)
 | succ n ih =>
  intro x h
  refine fits_walk x (bodies_walk x.f5 (fun b hb y hy => ih y ?_))
  have h1 := List.sizeOf_lt_of_mem hb
  have h2 := mem_lt_body hy
  have h3 := alts_lt x
  omega
theorem fits_ok (x : S112) : FitsC x := fits_all (SizeOf.sizeOf x + 1) x (by omega)
theorem bodies_ok (l : List S110) : BodiesC l := bodies_walk l (fun _ _ y _ => fits_ok y)
def syntax_bodies.f (l0 : List S110) : Option Bool := some (bodiesOk l0)
theorem syntax_bodies.calls (A0 : Option Addr) (c0 : Nat) (l0 : List S110) (r : Bool) (w : World) (hr0 : Kd.C k110 w A0 l0.length l0) (hc0 : l0.length ≤ c0) (h : syntax_bodies.f l0 = some r) :
  Calls Tryz.prog 131 #[.slice A0 l0.length c0] w fun e w' => e = .returned (.bool r) ∧ Below w.heap.size w w' := by
 obtain rfl := Option.some.inj h
 exact bodies_ok l0 w A0 c0 hr0 hc0
end Go.Proofs.YtloijngccppfgaaGreat.F
end

section
namespace Go.Proofs.YtloijngccppfgaaGreat.F
open Go.RowKit Go.Proofs.YtloijngccppfgaaGreatW.PrintWords Go.Proofs.YtloijngccppfgaaGreatW.PrintLast Go.Proofs.YtloijngccppfgaaGreatW.PrintMore
attribute [local go_sem] max2_int min2_int max_two min_two max_three min_three max_four min_four
set_option linter.unusedVariables false
set_option linter.unusedSimpArgs false
def syntax_Check.f (k : Nat) (a0_0 : ByteArray) (l0_1 : List (S110)) : Option (Int) := (syntax_names.f a0_0).bind fun t119 => (if t119 = true then ((syntax_Depth.f k a0_0 l0_1).bind fun t120 => (if t120 > 70 then (some 2) else ((syntax_Count.f k a0_0 l0_1).bind fun t121 => (if t121 > 1000 then (some 2) else ((syntax_bodies.f l0_1).bind fun t122 => (if t122 = true then (some 0) else (some 2))))))) else (some 2))
set_option maxHeartbeats 8000000 in
set_option maxRecDepth 100000 in
theorem syntax_Check.calls (k : Nat) (a0_0 : ByteArray) (A0_1 : Option Addr) (c0_1 : Nat) (l0_1 : List (S110)) (r : Int) (w : World) (hr0_1 : Kd.C k110 w A0_1 l0_1.length l0_1) (hc0_1 : l0_1.length ≤ c0_1) (h : syntax_Check.f k a0_0 l0_1 = some r) :
  Calls Tryz.prog 109 #[.agg #[.string a0_0, .slice A0_1 l0_1.length c0_1]] w fun e w' => e = .returned (.int .i64 r) ∧ Below w.heap.size w w' := by
 have hu54 := Tryz.underlying54
 have HR0_1 := Aside0.mk hr0_1
 have HC0_1 := Aside0.mk hc0_1
 clear hr0_1 hc0_1
 have HB := Aside0.mk (Below.refl w.heap.size w)
 have H : ((syntax_names.f a0_0).bind fun t119 => (if t119 = true then ((syntax_Depth.f k a0_0 l0_1).bind fun t120 => (if t120 > 70 then (some 2) else ((syntax_Count.f k a0_0 l0_1).bind fun t121 => (if t121 > 1000 then (some 2) else ((syntax_bodies.f l0_1).bind fun t122 => (if t122 = true then (some 0) else (some 2))))))) else (some 2))) = some r := h
 clear h
 replace H := Option.bind_eq_some_iff.mp H
 obtain ⟨t119, A20, H⟩ := H
 replace H : (if t119 = true then ((syntax_Depth.f k a0_0 l0_1).bind fun t120 => (if t120 > 70 then (some 2) else ((syntax_Count.f k a0_0 l0_1).bind fun t121 => (if t121 > 1000 then (some 2) else ((syntax_bodies.f l0_1).bind fun t122 => (if t122 = true then (some 0) else (some 2))))))) else (some 2)) = some r := H
 have A2 := Aside0.mk A20
 clear A20
 by_cases c3 : t119 = true
 ·subst c3
  have H1 : ((syntax_Depth.f k a0_0 l0_1).bind fun t120 => (if t120 > 70 then (some 2) else ((syntax_Count.f k a0_0 l0_1).bind fun t121 => (if t121 > 1000 then (some 2) else ((syntax_bodies.f l0_1).bind fun t122 => (if t122 = true then (some 0) else (some 2))))))) = some r := by rw [if_pos rfl] at H; exact H
  clear H
  have H := H1
  clear H1
  replace H := Option.bind_eq_some_iff.mp H
  obtain ⟨t120, A40, H⟩ := H
  replace H : (if t120 > 70 then (some 2) else ((syntax_Count.f k a0_0 l0_1).bind fun t121 => (if t121 > 1000 then (some 2) else ((syntax_bodies.f l0_1).bind fun t122 => (if t122 = true then (some 0) else (some 2)))))) = some r := H
  have A4 := Aside0.mk A40
  clear A40
  by_cases c5 : t120 > 70
  ·rw [if_pos c5] at H
   have c5b0 : decide (70 < t120) = true := decide_eq_true c5
   clear c5
   obtain rfl := Option.some.inj H
   go_enter Tryz.func109, Tryz.ntmps109
   go_wp2_with (first | ((with_reducible refine gate_dst (N := 1) rfl ?_); refine box_event ?hg (N := 1) ?hd (cs := #[.string a0_0, .slice A0_1 l0_1.length c0_1]) (t := 54) ?hr ?_; (case hd => rfl); (case hg => rfl); (case hr => first | (go_simp; done) | (go_simp; rfl)); intro gb118 hg w6 hbox hb; have n0_ := Aside0.mk (below_step (by repeat (first | (with_reducible first | exact HB.out | apply below_alloc | apply pw_below_drewN | apply below_drew1) | exact HB.out)) hb); have n1_ := Aside0.mk (hbox); have n2_ := Aside0.mk ((by rw [hg]; exact (below_size (by repeat (first | (with_reducible first | exact HB.out | apply below_alloc | apply pw_below_drewN | apply below_drew1) | exact HB.out))) : w.heap.size ≤ gb118)); have n3_ := Aside0.mk ((by rw [hg]; exact (below_size (by repeat (first | (with_reducible first | exact HB.out | apply below_alloc | apply pw_below_drewN | apply below_drew1) | exact HB.out))) : w.heap.size ≤ gb118)); clear HB; have HB := n0_; have BK118 := n1_; have GW118 := n2_; have GE118 := n3_; clear n0_ n1_ n2_ n3_; clear hb hbox hg; have hcz7_0 : w6.cell? ⟨gb118, 0, none⟩ = some (.string a0_0) := (blk_cell BK118.out 0).trans rfl; have hcz7_1 : w6.cell? ⟨gb118, 1, none⟩ = some (.slice A0_1 l0_1.length c0_1) := (blk_cell BK118.out 1).trans rfl; have hfz7_0 := blk_frozen BK118.out 0; have hfz7_1 := blk_frozen BK118.out 1) | ((with_reducible refine gate_callee (f := 129) rfl ?_); refine goesL_ (some 5) rfl rfl Tryz.func129 (by kernel_rfl) rfl #[.string a0_0] rfl (by (try simp only [List.map_toArray, List.map_cons, List.map_nil]); first | done | rfl | (simp only [List.length_drop, List.length_take]; rfl)) ?_; (with_reducible refine (syntax_names.calls a0_0 true _ A2.out).mono ?_); rintro e w8 ⟨rfl, hb⟩; refine ⟨_, rfl, ?_⟩; have n0_ := Aside0.mk (blk_below (g := gb118) (o := .cells #[.string a0_0, .slice A0_1 l0_1.length c0_1] 54 (0, 0)) (by (with_reducible repeat (first | refine blk_drewN ?_ _ | refine blk_drew ?_ | refine blk_alloc ?_ _)); exact BK118.out) hb); have n1_ := Aside0.mk (below_step (by repeat (first | (with_reducible first | exact HB.out | apply below_alloc | apply pw_below_drewN | apply below_drew1 | refine below_set ?_ GE118.out) | exact HB.out)) hb); clear BK118; clear HB; have BK118 := n0_; have HB := n1_; clear n0_ n1_; (try clear hb); (try clear hb2); (try clear hk); (try clear hi); have hcz9_0 : w8.cell? ⟨gb118, 0, none⟩ = some (.string a0_0) := (blk_cell BK118.out 0).trans rfl; have hcz9_1 : w8.cell? ⟨gb118, 1, none⟩ = some (.slice A0_1 l0_1.length c0_1) := (blk_cell BK118.out 1).trans rfl; have hfz9_0 := blk_frozen BK118.out 0; have hfz9_1 := blk_frozen BK118.out 1) | (go_at_call 130; (with_reducible refine (syntax_Depth.calls k a0_0 _ _ l0_1 t120 _ ?side1 ?side2 A4.out).mono ?_); (case side1 => repeat (first | exact (Kd.C_below HR0_1.out HB.out) | (with_reducible refine Kd.C_alloc ?_ _) | (with_reducible refine Kd.C_drewN ?_ _) | (with_reducible refine Kd.C_drew ?_))); (case side2 => exact HC0_1.out); rintro e w10 ⟨rfl, hb⟩; have n0_ := Aside0.mk (blk_below (g := gb118) (o := .cells #[.string a0_0, .slice A0_1 l0_1.length c0_1] 54 (0, 0)) (by (with_reducible repeat (first | refine blk_drewN ?_ _ | refine blk_drew ?_ | refine blk_alloc ?_ _)); exact BK118.out) hb); have n1_ := Aside0.mk (below_step (by repeat (first | (with_reducible first | exact HB.out | apply below_alloc | apply pw_below_drewN | apply below_drew1 | refine below_set ?_ GE118.out) | exact HB.out)) hb); clear BK118; clear HB; have BK118 := n0_; have HB := n1_; clear n0_ n1_; (try clear hb); (try clear hb2); (try clear hk); (try clear hi)))
   go_ret
   exact ⟨by first | rfl | (simp [errW_none, errW_some] <;> rfl) | (simp [*, errW_none, errW_some] <;> rfl), by repeat (first | (with_reducible first | exact HB.out | apply below_alloc | apply pw_below_drewN | apply below_drew1 | refine below_set ?_ GE118.out) | exact HB.out)⟩
  ·rw [if_neg c5] at H
   have c5b0 : decide (70 < t120) = false := decide_eq_false c5
   clear c5
   replace H := Option.bind_eq_some_iff.mp H
   obtain ⟨t121, A110, H⟩ := H
   replace H : (if t121 > 1000 then (some 2) else ((syntax_bodies.f l0_1).bind fun t122 => (if t122 = true then (some 0) else (some 2)))) = some r := H
   have A11 := Aside0.mk A110
   clear A110
   by_cases c12 : t121 > 1000
   ·rw [if_pos c12] at H
    have c12b0 : decide (1000 < t121) = true := decide_eq_true c12
    clear c12
    obtain rfl := Option.some.inj H
    go_enter Tryz.func109, Tryz.ntmps109
    go_wp2_with (first | ((with_reducible refine gate_dst (N := 1) rfl ?_); refine box_event ?hg (N := 1) ?hd (cs := #[.string a0_0, .slice A0_1 l0_1.length c0_1]) (t := 54) ?hr ?_; (case hd => rfl); (case hg => rfl); (case hr => first | (go_simp; done) | (go_simp; rfl)); intro gb118 hg w13 hbox hb; have n0_ := Aside0.mk (below_step (by repeat (first | (with_reducible first | exact HB.out | apply below_alloc | apply pw_below_drewN | apply below_drew1) | exact HB.out)) hb); have n1_ := Aside0.mk (hbox); have n2_ := Aside0.mk ((by rw [hg]; exact (below_size (by repeat (first | (with_reducible first | exact HB.out | apply below_alloc | apply pw_below_drewN | apply below_drew1) | exact HB.out))) : w.heap.size ≤ gb118)); have n3_ := Aside0.mk ((by rw [hg]; exact (below_size (by repeat (first | (with_reducible first | exact HB.out | apply below_alloc | apply pw_below_drewN | apply below_drew1) | exact HB.out))) : w.heap.size ≤ gb118)); clear HB; have HB := n0_; have BK118 := n1_; have GW118 := n2_; have GE118 := n3_; clear n0_ n1_ n2_ n3_; clear hb hbox hg; have hcz14_0 : w13.cell? ⟨gb118, 0, none⟩ = some (.string a0_0) := (blk_cell BK118.out 0).trans rfl; have hcz14_1 : w13.cell? ⟨gb118, 1, none⟩ = some (.slice A0_1 l0_1.length c0_1) := (blk_cell BK118.out 1).trans rfl; have hfz14_0 := blk_frozen BK118.out 0; have hfz14_1 := blk_frozen BK118.out 1) | ((with_reducible refine gate_callee (f := 129) rfl ?_); refine goesL_ (some 5) rfl rfl Tryz.func129 (by kernel_rfl) rfl #[.string a0_0] rfl (by (try simp only [List.map_toArray, List.map_cons, List.map_nil]); first | done | rfl | (simp only [List.length_drop, List.length_take]; rfl)) ?_; (with_reducible refine (syntax_names.calls a0_0 true _ A2.out).mono ?_); rintro e w15 ⟨rfl, hb⟩; refine ⟨_, rfl, ?_⟩; have n0_ := Aside0.mk (blk_below (g := gb118) (o := .cells #[.string a0_0, .slice A0_1 l0_1.length c0_1] 54 (0, 0)) (by (with_reducible repeat (first | refine blk_drewN ?_ _ | refine blk_drew ?_ | refine blk_alloc ?_ _)); exact BK118.out) hb); have n1_ := Aside0.mk (below_step (by repeat (first | (with_reducible first | exact HB.out | apply below_alloc | apply pw_below_drewN | apply below_drew1 | refine below_set ?_ GE118.out) | exact HB.out)) hb); clear BK118; clear HB; have BK118 := n0_; have HB := n1_; clear n0_ n1_; (try clear hb); (try clear hb2); (try clear hk); (try clear hi); have hcz16_0 : w15.cell? ⟨gb118, 0, none⟩ = some (.string a0_0) := (blk_cell BK118.out 0).trans rfl; have hcz16_1 : w15.cell? ⟨gb118, 1, none⟩ = some (.slice A0_1 l0_1.length c0_1) := (blk_cell BK118.out 1).trans rfl; have hfz16_0 := blk_frozen BK118.out 0; have hfz16_1 := blk_frozen BK118.out 1) | (go_at_call 130; (with_reducible refine (syntax_Depth.calls k a0_0 _ _ l0_1 t120 _ ?side1 ?side2 A4.out).mono ?_); (case side1 => repeat (first | exact (Kd.C_below HR0_1.out HB.out) | (with_reducible refine Kd.C_alloc ?_ _) | (with_reducible refine Kd.C_drewN ?_ _) | (with_reducible refine Kd.C_drew ?_))); (case side2 => exact HC0_1.out); rintro e w17 ⟨rfl, hb⟩; have n0_ := Aside0.mk (blk_below (g := gb118) (o := .cells #[.string a0_0, .slice A0_1 l0_1.length c0_1] 54 (0, 0)) (by (with_reducible repeat (first | refine blk_drewN ?_ _ | refine blk_drew ?_ | refine blk_alloc ?_ _)); exact BK118.out) hb); have n1_ := Aside0.mk (below_step (by repeat (first | (with_reducible first | exact HB.out | apply below_alloc | apply pw_below_drewN | apply below_drew1 | refine below_set ?_ GE118.out) | exact HB.out)) hb); clear BK118; clear HB; have BK118 := n0_; have HB := n1_; clear n0_ n1_; (try clear hb); (try clear hb2); (try clear hk); (try clear hi); have hcz18_0 : w17.cell? ⟨gb118, 0, none⟩ = some (.string a0_0) := (blk_cell BK118.out 0).trans rfl; have hcz18_1 : w17.cell? ⟨gb118, 1, none⟩ = some (.slice A0_1 l0_1.length c0_1) := (blk_cell BK118.out 1).trans rfl; have hfz18_0 := blk_frozen BK118.out 0; have hfz18_1 := blk_frozen BK118.out 1) | (go_at_call 110; (with_reducible refine (syntax_Count.calls k a0_0 _ _ l0_1 t121 _ ?side1 ?side2 A11.out).mono ?_); (case side1 => repeat (first | exact (Kd.C_below HR0_1.out HB.out) | (with_reducible refine Kd.C_alloc ?_ _) | (with_reducible refine Kd.C_drewN ?_ _) | (with_reducible refine Kd.C_drew ?_))); (case side2 => exact HC0_1.out); rintro e w19 ⟨rfl, hb⟩; have n0_ := Aside0.mk (blk_below (g := gb118) (o := .cells #[.string a0_0, .slice A0_1 l0_1.length c0_1] 54 (0, 0)) (by (with_reducible repeat (first | refine blk_drewN ?_ _ | refine blk_drew ?_ | refine blk_alloc ?_ _)); exact BK118.out) hb); have n1_ := Aside0.mk (below_step (by repeat (first | (with_reducible first | exact HB.out | apply below_alloc | apply pw_below_drewN | apply below_drew1 | refine below_set ?_ GE118.out) | exact HB.out)) hb); clear BK118; clear HB; have BK118 := n0_; have HB := n1_; clear n0_ n1_; (try clear hb); (try clear hb2); (try clear hk); (try clear hi)))
    go_ret
    exact ⟨by first | rfl | (simp [errW_none, errW_some] <;> rfl) | (simp [*, errW_none, errW_some] <;> rfl), by repeat (first | (with_reducible first | exact HB.out | apply below_alloc | apply pw_below_drewN | apply below_drew1 | refine below_set ?_ GE118.out) | exact HB.out)⟩
   ·rw [if_neg c12] at H
    have c12b0 : decide (1000 < t121) = false := decide_eq_false c12
    clear c12
    replace H := Option.bind_eq_some_iff.mp H
    obtain ⟨t122, A200, H⟩ := H
    replace H : (if t122 = true then (some 0) else (some 2)) = some r := H
    have A20 := Aside0.mk A200
    clear A200
    by_cases c21 : t122 = true
    ·subst c21
     have H1 : (some 0) = some r := by rw [if_pos rfl] at H; exact H
     clear H
     have H := H1
     clear H1
     obtain rfl := Option.some.inj H
     go_enter Tryz.func109, Tryz.ntmps109
     go_wp2_with (first | ((with_reducible refine gate_dst (N := 1) rfl ?_); refine box_event ?hg (N := 1) ?hd (cs := #[.string a0_0, .slice A0_1 l0_1.length c0_1]) (t := 54) ?hr ?_; (case hd => rfl); (case hg => rfl); (case hr => first | (go_simp; done) | (go_simp; rfl)); intro gb118 hg w22 hbox hb; have n0_ := Aside0.mk (below_step (by repeat (first | (with_reducible first | exact HB.out | apply below_alloc | apply pw_below_drewN | apply below_drew1) | exact HB.out)) hb); have n1_ := Aside0.mk (hbox); have n2_ := Aside0.mk ((by rw [hg]; exact (below_size (by repeat (first | (with_reducible first | exact HB.out | apply below_alloc | apply pw_below_drewN | apply below_drew1) | exact HB.out))) : w.heap.size ≤ gb118)); have n3_ := Aside0.mk ((by rw [hg]; exact (below_size (by repeat (first | (with_reducible first | exact HB.out | apply below_alloc | apply pw_below_drewN | apply below_drew1) | exact HB.out))) : w.heap.size ≤ gb118)); clear HB; have HB := n0_; have BK118 := n1_; have GW118 := n2_; have GE118 := n3_; clear n0_ n1_ n2_ n3_; clear hb hbox hg; have hcz23_0 : w22.cell? ⟨gb118, 0, none⟩ = some (.string a0_0) := (blk_cell BK118.out 0).trans rfl; have hcz23_1 : w22.cell? ⟨gb118, 1, none⟩ = some (.slice A0_1 l0_1.length c0_1) := (blk_cell BK118.out 1).trans rfl; have hfz23_0 := blk_frozen BK118.out 0; have hfz23_1 := blk_frozen BK118.out 1) | ((with_reducible refine gate_callee (f := 129) rfl ?_); refine goesL_ (some 5) rfl rfl Tryz.func129 (by kernel_rfl) rfl #[.string a0_0] rfl (by (try simp only [List.map_toArray, List.map_cons, List.map_nil]); first | done | rfl | (simp only [List.length_drop, List.length_take]; rfl)) ?_; (with_reducible refine (syntax_names.calls a0_0 true _ A2.out).mono ?_); rintro e w24 ⟨rfl, hb⟩; refine ⟨_, rfl, ?_⟩; have n0_ := Aside0.mk (blk_below (g := gb118) (o := .cells #[.string a0_0, .slice A0_1 l0_1.length c0_1] 54 (0, 0)) (by (with_reducible repeat (first | refine blk_drewN ?_ _ | refine blk_drew ?_ | refine blk_alloc ?_ _)); exact BK118.out) hb); have n1_ := Aside0.mk (below_step (by repeat (first | (with_reducible first | exact HB.out | apply below_alloc | apply pw_below_drewN | apply below_drew1 | refine below_set ?_ GE118.out) | exact HB.out)) hb); clear BK118; clear HB; have BK118 := n0_; have HB := n1_; clear n0_ n1_; (try clear hb); (try clear hb2); (try clear hk); (try clear hi); have hcz25_0 : w24.cell? ⟨gb118, 0, none⟩ = some (.string a0_0) := (blk_cell BK118.out 0).trans rfl; have hcz25_1 : w24.cell? ⟨gb118, 1, none⟩ = some (.slice A0_1 l0_1.length c0_1) := (blk_cell BK118.out 1).trans rfl; have hfz25_0 := blk_frozen BK118.out 0; have hfz25_1 := blk_frozen BK118.out 1) | (go_at_call 130; (with_reducible refine (syntax_Depth.calls k a0_0 _ _ l0_1 t120 _ ?side1 ?side2 A4.out).mono ?_); (case side1 => repeat (first | exact (Kd.C_below HR0_1.out HB.out) | (with_reducible refine Kd.C_alloc ?_ _) | (with_reducible refine Kd.C_drewN ?_ _) | (with_reducible refine Kd.C_drew ?_))); (case side2 => exact HC0_1.out); rintro e w26 ⟨rfl, hb⟩; have n0_ := Aside0.mk (blk_below (g := gb118) (o := .cells #[.string a0_0, .slice A0_1 l0_1.length c0_1] 54 (0, 0)) (by (with_reducible repeat (first | refine blk_drewN ?_ _ | refine blk_drew ?_ | refine blk_alloc ?_ _)); exact BK118.out) hb); have n1_ := Aside0.mk (below_step (by repeat (first | (with_reducible first | exact HB.out | apply below_alloc | apply pw_below_drewN | apply below_drew1 | refine below_set ?_ GE118.out) | exact HB.out)) hb); clear BK118; clear HB; have BK118 := n0_; have HB := n1_; clear n0_ n1_; (try clear hb); (try clear hb2); (try clear hk); (try clear hi); have hcz27_0 : w26.cell? ⟨gb118, 0, none⟩ = some (.string a0_0) := (blk_cell BK118.out 0).trans rfl; have hcz27_1 : w26.cell? ⟨gb118, 1, none⟩ = some (.slice A0_1 l0_1.length c0_1) := (blk_cell BK118.out 1).trans rfl; have hfz27_0 := blk_frozen BK118.out 0; have hfz27_1 := blk_frozen BK118.out 1) | (go_at_call 110; (with_reducible refine (syntax_Count.calls k a0_0 _ _ l0_1 t121 _ ?side1 ?side2 A11.out).mono ?_); (case side1 => repeat (first | exact (Kd.C_below HR0_1.out HB.out) | (with_reducible refine Kd.C_alloc ?_ _) | (with_reducible refine Kd.C_drewN ?_ _) | (with_reducible refine Kd.C_drew ?_))); (case side2 => exact HC0_1.out); rintro e w28 ⟨rfl, hb⟩; have n0_ := Aside0.mk (blk_below (g := gb118) (o := .cells #[.string a0_0, .slice A0_1 l0_1.length c0_1] 54 (0, 0)) (by (with_reducible repeat (first | refine blk_drewN ?_ _ | refine blk_drew ?_ | refine blk_alloc ?_ _)); exact BK118.out) hb); have n1_ := Aside0.mk (below_step (by repeat (first | (with_reducible first | exact HB.out | apply below_alloc | apply pw_below_drewN | apply below_drew1 | refine below_set ?_ GE118.out) | exact HB.out)) hb); clear BK118; clear HB; have BK118 := n0_; have HB := n1_; clear n0_ n1_; (try clear hb); (try clear hb2); (try clear hk); (try clear hi); have hcz29_0 : w28.cell? ⟨gb118, 0, none⟩ = some (.string a0_0) := (blk_cell BK118.out 0).trans rfl; have hcz29_1 : w28.cell? ⟨gb118, 1, none⟩ = some (.slice A0_1 l0_1.length c0_1) := (blk_cell BK118.out 1).trans rfl; have hfz29_0 := blk_frozen BK118.out 0; have hfz29_1 := blk_frozen BK118.out 1) | (go_at_call 131; (with_reducible refine (syntax_bodies.calls _ _ l0_1 true _ ?side1 ?side2 A20.out).mono ?_); (case side1 => repeat (first | exact (Kd.C_below HR0_1.out HB.out) | (with_reducible refine Kd.C_alloc ?_ _) | (with_reducible refine Kd.C_drewN ?_ _) | (with_reducible refine Kd.C_drew ?_))); (case side2 => exact HC0_1.out); rintro e w30 ⟨rfl, hb⟩; have n0_ := Aside0.mk (blk_below (g := gb118) (o := .cells #[.string a0_0, .slice A0_1 l0_1.length c0_1] 54 (0, 0)) (by (with_reducible repeat (first | refine blk_drewN ?_ _ | refine blk_drew ?_ | refine blk_alloc ?_ _)); exact BK118.out) hb); have n1_ := Aside0.mk (below_step (by repeat (first | (with_reducible first | exact HB.out | apply below_alloc | apply pw_below_drewN | apply below_drew1 | refine below_set ?_ GE118.out) | exact HB.out)) hb); clear BK118; clear HB; have BK118 := n0_; have HB := n1_; clear n0_ n1_; (try clear hb); (try clear hb2); (try clear hk); (try clear hi)))
     go_ret
     exact ⟨by first | rfl | (simp [errW_none, errW_some] <;> rfl) | (simp [*, errW_none, errW_some] <;> rfl), by repeat (first | (with_reducible first | exact HB.out | apply below_alloc | apply pw_below_drewN | apply below_drew1 | refine below_set ?_ GE118.out) | exact HB.out)⟩
    ·replace c21 := Bool.eq_false_iff.mpr c21
     subst c21
     have H1 : (some 2) = some r := by rw [if_neg (show ¬ (false = true) by decide)] at H; exact H
     clear H
     have H := H1
     clear H1
     obtain rfl := Option.some.inj H
     go_enter Tryz.func109, Tryz.ntmps109
     go_wp2_with (first | ((with_reducible refine gate_dst (N := 1) rfl ?_); refine box_event ?hg (N := 1) ?hd (cs := #[.string a0_0, .slice A0_1 l0_1.length c0_1]) (t := 54) ?hr ?_; (case hd => rfl); (case hg => rfl); (case hr => first | (go_simp; done) | (go_simp; rfl)); intro gb118 hg w31 hbox hb; have n0_ := Aside0.mk (below_step (by repeat (first | (with_reducible first | exact HB.out | apply below_alloc | apply pw_below_drewN | apply below_drew1) | exact HB.out)) hb); have n1_ := Aside0.mk (hbox); have n2_ := Aside0.mk ((by rw [hg]; exact (below_size (by repeat (first | (with_reducible first | exact HB.out | apply below_alloc | apply pw_below_drewN | apply below_drew1) | exact HB.out))) : w.heap.size ≤ gb118)); have n3_ := Aside0.mk ((by rw [hg]; exact (below_size (by repeat (first | (with_reducible first | exact HB.out | apply below_alloc | apply pw_below_drewN | apply below_drew1) | exact HB.out))) : w.heap.size ≤ gb118)); clear HB; have HB := n0_; have BK118 := n1_; have GW118 := n2_; have GE118 := n3_; clear n0_ n1_ n2_ n3_; clear hb hbox hg; have hcz32_0 : w31.cell? ⟨gb118, 0, none⟩ = some (.string a0_0) := (blk_cell BK118.out 0).trans rfl; have hcz32_1 : w31.cell? ⟨gb118, 1, none⟩ = some (.slice A0_1 l0_1.length c0_1) := (blk_cell BK118.out 1).trans rfl; have hfz32_0 := blk_frozen BK118.out 0; have hfz32_1 := blk_frozen BK118.out 1) | ((with_reducible refine gate_callee (f := 129) rfl ?_); refine goesL_ (some 5) rfl rfl Tryz.func129 (by kernel_rfl) rfl #[.string a0_0] rfl (by (try simp only [List.map_toArray, List.map_cons, List.map_nil]); first | done | rfl | (simp only [List.length_drop, List.length_take]; rfl)) ?_; (with_reducible refine (syntax_names.calls a0_0 true _ A2.out).mono ?_); rintro e w33 ⟨rfl, hb⟩; refine ⟨_, rfl, ?_⟩; have n0_ := Aside0.mk (blk_below (g := gb118) (o := .cells #[.string a0_0, .slice A0_1 l0_1.length c0_1] 54 (0, 0)) (by (with_reducible repeat (first | refine blk_drewN ?_ _ | refine blk_drew ?_ | refine blk_alloc ?_ _)); exact BK118.out) hb); have n1_ := Aside0.mk (below_step (by repeat (first | (with_reducible first | exact HB.out | apply below_alloc | apply pw_below_drewN | apply below_drew1 | refine below_set ?_ GE118.out) | exact HB.out)) hb); clear BK118; clear HB; have BK118 := n0_; have HB := n1_; clear n0_ n1_; (try clear hb); (try clear hb2); (try clear hk); (try clear hi); have hcz34_0 : w33.cell? ⟨gb118, 0, none⟩ = some (.string a0_0) := (blk_cell BK118.out 0).trans rfl; have hcz34_1 : w33.cell? ⟨gb118, 1, none⟩ = some (.slice A0_1 l0_1.length c0_1) := (blk_cell BK118.out 1).trans rfl; have hfz34_0 := blk_frozen BK118.out 0; have hfz34_1 := blk_frozen BK118.out 1) | (go_at_call 130; (with_reducible refine (syntax_Depth.calls k a0_0 _ _ l0_1 t120 _ ?side1 ?side2 A4.out).mono ?_); (case side1 => repeat (first | exact (Kd.C_below HR0_1.out HB.out) | (with_reducible refine Kd.C_alloc ?_ _) | (with_reducible refine Kd.C_drewN ?_ _) | (with_reducible refine Kd.C_drew ?_))); (case side2 => exact HC0_1.out); rintro e w35 ⟨rfl, hb⟩; have n0_ := Aside0.mk (blk_below (g := gb118) (o := .cells #[.string a0_0, .slice A0_1 l0_1.length c0_1] 54 (0, 0)) (by (with_reducible repeat (first | refine blk_drewN ?_ _ | refine blk_drew ?_ | refine blk_alloc ?_ _)); exact BK118.out) hb); have n1_ := Aside0.mk (below_step (by repeat (first | (with_reducible first | exact HB.out | apply below_alloc | apply pw_below_drewN | apply below_drew1 | refine below_set ?_ GE118.out) | exact HB.out)) hb); clear BK118; clear HB; have BK118 := n0_; have HB := n1_; clear n0_ n1_; (try clear hb); (try clear hb2); (try clear hk); (try clear hi); have hcz36_0 : w35.cell? ⟨gb118, 0, none⟩ = some (.string a0_0) := (blk_cell BK118.out 0).trans rfl; have hcz36_1 : w35.cell? ⟨gb118, 1, none⟩ = some (.slice A0_1 l0_1.length c0_1) := (blk_cell BK118.out 1).trans rfl; have hfz36_0 := blk_frozen BK118.out 0; have hfz36_1 := blk_frozen BK118.out 1) | (go_at_call 110; (with_reducible refine (syntax_Count.calls k a0_0 _ _ l0_1 t121 _ ?side1 ?side2 A11.out).mono ?_); (case side1 => repeat (first | exact (Kd.C_below HR0_1.out HB.out) | (with_reducible refine Kd.C_alloc ?_ _) | (with_reducible refine Kd.C_drewN ?_ _) | (with_reducible refine Kd.C_drew ?_))); (case side2 => exact HC0_1.out); rintro e w37 ⟨rfl, hb⟩; have n0_ := Aside0.mk (blk_below (g := gb118) (o := .cells #[.string a0_0, .slice A0_1 l0_1.length c0_1] 54 (0, 0)) (by (with_reducible repeat (first | refine blk_drewN ?_ _ | refine blk_drew ?_ | refine blk_alloc ?_ _)); exact BK118.out) hb); have n1_ := Aside0.mk (below_step (by repeat (first | (with_reducible first | exact HB.out | apply below_alloc | apply pw_below_drewN | apply below_drew1 | refine below_set ?_ GE118.out) | exact HB.out)) hb); clear BK118; clear HB; have BK118 := n0_; have HB := n1_; clear n0_ n1_; (try clear hb); (try clear hb2); (try clear hk); (try clear hi); have hcz38_0 : w37.cell? ⟨gb118, 0, none⟩ = some (.string a0_0) := (blk_cell BK118.out 0).trans rfl; have hcz38_1 : w37.cell? ⟨gb118, 1, none⟩ = some (.slice A0_1 l0_1.length c0_1) := (blk_cell BK118.out 1).trans rfl; have hfz38_0 := blk_frozen BK118.out 0; have hfz38_1 := blk_frozen BK118.out 1) | (go_at_call 131; (with_reducible refine (syntax_bodies.calls _ _ l0_1 false _ ?side1 ?side2 A20.out).mono ?_); (case side1 => repeat (first | exact (Kd.C_below HR0_1.out HB.out) | (with_reducible refine Kd.C_alloc ?_ _) | (with_reducible refine Kd.C_drewN ?_ _) | (with_reducible refine Kd.C_drew ?_))); (case side2 => exact HC0_1.out); rintro e w39 ⟨rfl, hb⟩; have n0_ := Aside0.mk (blk_below (g := gb118) (o := .cells #[.string a0_0, .slice A0_1 l0_1.length c0_1] 54 (0, 0)) (by (with_reducible repeat (first | refine blk_drewN ?_ _ | refine blk_drew ?_ | refine blk_alloc ?_ _)); exact BK118.out) hb); have n1_ := Aside0.mk (below_step (by repeat (first | (with_reducible first | exact HB.out | apply below_alloc | apply pw_below_drewN | apply below_drew1 | refine below_set ?_ GE118.out) | exact HB.out)) hb); clear BK118; clear HB; have BK118 := n0_; have HB := n1_; clear n0_ n1_; (try clear hb); (try clear hb2); (try clear hk); (try clear hi)))
     go_ret
     exact ⟨by first | rfl | (simp [errW_none, errW_some] <;> rfl) | (simp [*, errW_none, errW_some] <;> rfl), by repeat (first | (with_reducible first | exact HB.out | apply below_alloc | apply pw_below_drewN | apply below_drew1 | refine below_set ?_ GE118.out) | exact HB.out)⟩
 ·replace c3 := Bool.eq_false_iff.mpr c3
  subst c3
  have H1 : (some 2) = some r := by rw [if_neg (show ¬ (false = true) by decide)] at H; exact H
  clear H
  have H := H1
  clear H1
  obtain rfl := Option.some.inj H
  go_enter Tryz.func109, Tryz.ntmps109
  go_wp2_with (first | ((with_reducible refine gate_dst (N := 1) rfl ?_); refine box_event ?hg (N := 1) ?hd (cs := #[.string a0_0, .slice A0_1 l0_1.length c0_1]) (t := 54) ?hr ?_; (case hd => rfl); (case hg => rfl); (case hr => first | (go_simp; done) | (go_simp; rfl)); intro gb118 hg w40 hbox hb; have n0_ := Aside0.mk (below_step (by repeat (first | (with_reducible first | exact HB.out | apply below_alloc | apply pw_below_drewN | apply below_drew1) | exact HB.out)) hb); have n1_ := Aside0.mk (hbox); have n2_ := Aside0.mk ((by rw [hg]; exact (below_size (by repeat (first | (with_reducible first | exact HB.out | apply below_alloc | apply pw_below_drewN | apply below_drew1) | exact HB.out))) : w.heap.size ≤ gb118)); have n3_ := Aside0.mk ((by rw [hg]; exact (below_size (by repeat (first | (with_reducible first | exact HB.out | apply below_alloc | apply pw_below_drewN | apply below_drew1) | exact HB.out))) : w.heap.size ≤ gb118)); clear HB; have HB := n0_; have BK118 := n1_; have GW118 := n2_; have GE118 := n3_; clear n0_ n1_ n2_ n3_; clear hb hbox hg; have hcz41_0 : w40.cell? ⟨gb118, 0, none⟩ = some (.string a0_0) := (blk_cell BK118.out 0).trans rfl; have hcz41_1 : w40.cell? ⟨gb118, 1, none⟩ = some (.slice A0_1 l0_1.length c0_1) := (blk_cell BK118.out 1).trans rfl; have hfz41_0 := blk_frozen BK118.out 0; have hfz41_1 := blk_frozen BK118.out 1) | ((with_reducible refine gate_callee (f := 129) rfl ?_); refine goesL_ (some 5) rfl rfl Tryz.func129 (by kernel_rfl) rfl #[.string a0_0] rfl (by (try simp only [List.map_toArray, List.map_cons, List.map_nil]); first | done | rfl | (simp only [List.length_drop, List.length_take]; rfl)) ?_; (with_reducible refine (syntax_names.calls a0_0 false _ A2.out).mono ?_); rintro e w42 ⟨rfl, hb⟩; refine ⟨_, rfl, ?_⟩; have n0_ := Aside0.mk (blk_below (g := gb118) (o := .cells #[.string a0_0, .slice A0_1 l0_1.length c0_1] 54 (0, 0)) (by (with_reducible repeat (first | refine blk_drewN ?_ _ | refine blk_drew ?_ | refine blk_alloc ?_ _)); exact BK118.out) hb); have n1_ := Aside0.mk (below_step (by repeat (first | (with_reducible first | exact HB.out | apply below_alloc | apply pw_below_drewN | apply below_drew1 | refine below_set ?_ GE118.out) | exact HB.out)) hb); clear BK118; clear HB; have BK118 := n0_; have HB := n1_; clear n0_ n1_; (try clear hb); (try clear hb2); (try clear hk); (try clear hi)))
  go_ret
  exact ⟨by first | rfl | (simp [errW_none, errW_some] <;> rfl) | (simp [*, errW_none, errW_some] <;> rfl), by repeat (first | (with_reducible first | exact HB.out | apply below_alloc | apply pw_below_drewN | apply below_drew1 | refine below_set ?_ GE118.out) | exact HB.out)⟩
def slices_Index_string_string.l0 : Nat → List ByteArray → ByteArray → Int → Int → Option (Int)
 | 0, _, _, _, _ => none
 | k + 1, x0, x1, x7, x8 => if x8 < x7 then (if 0 ≤ x8 then (if x8 < (x0.length : Int) then (if x1.toList = (rdOf ByteArray.empty x0 x8).toList then (some x8) else (slices_Index_string_string.l0 k x0 x1 x7 (wrap64 (x8 + 1)))) else (none)) else (none)) else (some (-1))
def slices_Index_string_string.f (k : Nat) (l0 : List ByteArray) (a1 : ByteArray) : Option (Int) := slices_Index_string_string.l0 k l0 a1 (l0.length : Int) 0
set_option maxHeartbeats 8000000 in
set_option maxRecDepth 100000 in
theorem slices_Index_string_string.calls (k : Nat) (A0 : Option Addr) (c0 : Nat) (l0 : List ByteArray) (a1 : ByteArray) (r : Int) (w : World) (hr0 : Kd.C Kd.string w A0 l0.length l0) (hc0 : l0.length ≤ c0) (h : slices_Index_string_string.f k l0 a1 = some r) :
  Calls Tryz.prog 166 #[.slice A0 l0.length c0, .string a1] w fun e w' => e = .returned (.int .i64 r) ∧ Drawn0 w w' := by
 have HR0 := Aside0.mk hr0
 have HC0 := Aside0.mk hc0
 clear hr0 hc0
 have H : (slices_Index_string_string.l0 k l0 a1 (l0.length : Int) 0) = some r := h
 clear h
 have H' := Aside0.mk H
 clear H
 go_enter Tryz.func166, Tryz.ntmps166
 go_wp2
 go_loopg [8] k (fun kq v8 w' => ∃ (x8_1 : Int), v8 = .int .i64 x8_1 ∧ Aside0 (slices_Index_string_string.l0 kq l0 a1 (l0.length : Int) x8_1 = some r) ∧ Aside0 (kq ≤ k) ∧ Drawn0 w w')
 case atStart => exact ⟨(0), (by first | rfl | (simp; done) | (simp [*]; done)), H', ⟨Nat.le_refl _⟩, by repeat (first | exact Drawn0.refl _ | apply Drawn0.step)⟩
 case round =>
  clear H'
  try clear c1
  try clear p2
  obtain ⟨x8_1, rfl, HA, HK1, ⟨m1, rfl⟩⟩ := hrel
  cases gk with
  | zero => exact absurd HA.out (by simp [slices_Index_string_string.l0])
  | succ k1 =>
   have H := HA.out
   clear HA
   simp only [slices_Index_string_string.l0] at H
   by_cases c3 : x8_1 < (l0.length : Int)
   ·rw [if_pos c3] at H
    have c3b0 : decide (x8_1 < (l0.length : Int)) = true := decide_eq_true c3
    clear c3
    by_cases c4 : 0 ≤ x8_1
    ·rw [if_pos c4] at H
     have c4b0 : decide (0 ≤ x8_1) = true := decide_eq_true c4
     clear c4
     by_cases c5 : x8_1 < (l0.length : Int)
     ·rw [if_pos c5] at H
      have c5b0 : decide (x8_1 < (l0.length : Int)) = true := decide_eq_true c5
      clear c5
      by_cases c6 : a1.toList = (rdOf ByteArray.empty l0 x8_1).toList
      ·rw [if_pos c6] at H
       have c6b0 : (a1.toList == (rdOf ByteArray.empty l0 x8_1).toList) = true := beq_iff_eq.mpr c6
       have c6b1 : (a1.toList != (rdOf ByteArray.empty l0 x8_1).toList) = false := bne_eq_false_iff_eq.mpr c6
       clear c6
       obtain rfl := Option.some.inj H
       have p123 : 0 ≤ (x8_1 : Int) := of_decide_eq_true (by first | (with_reducible assumption) | assumption)
       have q123 : x8_1 < (l0.length : Int) := of_decide_eq_true (by first | (with_reducible assumption) | assumption)
       obtain ⟨ad123, e123, hx123_0⟩ := Kd.at_string HR0.out x8_1 p123 q123
       cases e123
       replace p123 := eq_true p123
       replace q123 := eq_true q123
       go_wp2
       go_ret
       exact ⟨by first | rfl | (simp; done) | (simp [*]; done), by repeat (first | exact Drawn0.refl _ | apply Drawn0.step)⟩
      ·rw [if_neg c6] at H
       have c6b0 : (a1.toList == (rdOf ByteArray.empty l0 x8_1).toList) = false := beq_eq_false_iff_ne.mpr c6
       have c6b1 : (a1.toList != (rdOf ByteArray.empty l0 x8_1).toList) = true := bne_iff_ne.mpr c6
       have H' := Aside0.mk H
       clear H
       have p123 : 0 ≤ (x8_1 : Int) := of_decide_eq_true (by first | (with_reducible assumption) | assumption)
       have q123 : x8_1 < (l0.length : Int) := of_decide_eq_true (by first | (with_reducible assumption) | assumption)
       obtain ⟨ad123, e123, hx123_0⟩ := Kd.at_string HR0.out x8_1 p123 q123
       cases e123
       replace p123 := eq_true p123
       replace q123 := eq_true q123
       go_wp2
       go_roundg k1
       case measure => have := HK1.out; omega
       case rel => exact ⟨(wrap64 (x8_1 + 1)), (by first | rfl | (simp; done) | (simp [*]; done)), H', ⟨by have := HK1.out; omega⟩, by repeat (first | exact Drawn0.refl _ | apply Drawn0.step)⟩
     ·rw [if_neg c5] at H
      exact absurd H (by simp)
    ·rw [if_neg c4] at H
     exact absurd H (by simp)
   ·rw [if_neg c3] at H
    have c3b0 : decide (x8_1 < (l0.length : Int)) = false := decide_eq_false c3
    clear c3
    obtain rfl := Option.some.inj H
    go_wp2
    go_ret
    exact ⟨by first | rfl | (simp; done) | (simp [*]; done), by repeat (first | exact Drawn0.refl _ | apply Drawn0.step)⟩
def slices_Contains_string_string.f (k : Nat) (l0 : List ByteArray) (a1 : ByteArray) : Option (Bool) := (slices_Index_string_string.f k l0 a1).bind fun t124 => (some (decide (t124 ≥ 0)))
set_option maxHeartbeats 8000000 in
set_option maxRecDepth 100000 in
theorem slices_Contains_string_string.calls (k : Nat) (A0 : Option Addr) (c0 : Nat) (l0 : List ByteArray) (a1 : ByteArray) (r : Bool) (w : World) (hr0 : Kd.C Kd.string w A0 l0.length l0) (hc0 : l0.length ≤ c0) (h : slices_Contains_string_string.f k l0 a1 = some r) :
  Calls Tryz.prog 150 #[.slice A0 l0.length c0, .string a1] w fun e w' => e = .returned (.bool r) ∧ Drawn0 w w' := by
 have HR0 := Aside0.mk hr0
 have HC0 := Aside0.mk hc0
 clear hr0 hc0
 have H : ((slices_Index_string_string.f k l0 a1).bind fun t124 => (some (decide (t124 ≥ 0)))) = some r := h
 clear h
 replace H := Option.bind_eq_some_iff.mp H
 obtain ⟨t124, A30, H⟩ := H
 replace H : (some (decide (t124 ≥ 0))) = some r := H
 have A3 := Aside0.mk A30
 clear A30
 obtain rfl := Option.some.inj H
 go_enter Tryz.func150, Tryz.ntmps150
 go_wp2_with (first | ((with_reducible refine gate_callee (f := 166) rfl ?_); refine goesL_ (some 7) rfl rfl Tryz.func166 (by kernel_rfl) rfl #[.slice A0 l0.length c0, .string a1] rfl (by (try simp only [List.map_toArray, List.map_cons, List.map_nil]); first | done | rfl | (simp only [List.length_drop, List.length_take]; rfl)) ?_; (with_reducible refine (slices_Index_string_string.calls k _ _ l0 a1 t124 _ ?side1 ?side2 A3.out).mono ?_); (case side1 => repeat (first | exact HR0.out | (with_reducible refine Kd.C_alloc ?_ _) | (with_reducible refine Kd.C_drewN ?_ _) | (with_reducible refine Kd.C_drew ?_))); (case side2 => exact HC0.out); rintro e w' ⟨rfl, ⟨nd, rfl⟩⟩; refine ⟨_, rfl, ?_⟩))
 go_ret
 exact ⟨by first | rfl | (simp; done) | (simp [*]; done), by repeat (first | exact Drawn0.refl _ | apply Drawn0.step)⟩
end Go.Proofs.YtloijngccppfgaaGreat.F
end

section
namespace Go.Proofs.YtloijngccppfgaaGreat.F
open Go.RowKit Go.Proofs.YtloijngccppfgaaGreatW.PrintWords Go.Proofs.YtloijngccppfgaaGreatW.PrintLast Go.Proofs.YtloijngccppfgaaGreatW.PrintMore
attribute [local go_sem] max2_int min2_int max_two min_two max_three min_three max_four min_four
set_option linter.unusedVariables false
set_option linter.unusedSimpArgs false
def faultV (why : ByteArray) : Value := .iface 167 (.string why)
theorem must_yes (why : ByteArray) (w : World) : Calls Tryz.prog 108 #[.bool true, .string why] w fun e w' => e = .returned (.tuple #[]) ∧ w' = w := by
 go_enter Tryz.func108, Tryz.ntmps108
 go_wp2
 exact ⟨rfl, _, results_none rfl _ _ _, rfl, rfl⟩
theorem must_no (why : ByteArray) (w : World) : Calls Tryz.prog 108 #[.bool false, .string why] w fun e w' => e = .panicked [{ v := faultV why, recovered := false }] ∧ w' = w := by
 go_enter Tryz.func108, Tryz.ntmps108
 go_wp2
 exact ⟨rfl, rfl, rfl⟩
def isName (s : ByteArray) (x : S112) : Bool := x.f0.toList == s.toList
def namedI (b : List S112) (s : ByteArray) : Int := idxF (isName s) b 0
set_option maxHeartbeats 2000000 in
set_option maxRecDepth 100000 in
theorem named1_lit (g : Nat) (s : ByteArray) (x : S112) (w : World) (cs : List Value) (hg : w.heap[g]? = some (.cells #[.string s] 9 (0, 0))) (hK : k112.K w x cs) : Calls Tryz.prog 114 #[.agg cs.toArray, .pointer (some ⟨g, 0, none⟩)] w fun e w' => e = .returned (.bool (isName s x)) ∧ Below w.heap.size w w' := by
 obtain ⟨A2, c2, A5, c5, rfl, l2, g2, l5, g5⟩ := k112_open hK
 have hc : (w.alloc (.cells #[.string x.f0, .string x.f1, .slice A2 x.f2.length c2, .bool x.f3, .bool x.f4, .slice A5 x.f5.length c5] 112)).cell? ⟨g, 0, none⟩ = some (.string s) := (blk_cell (blk_alloc hg _) 0).trans rfl
 clear hK l2 g2 l5 g5 hg
 go_enter Tryz.func114, Tryz.ntmps114
 go_wp2
 go_ret
 exact ⟨rfl, (Below.refl _ _).alloc (Nat.le_refl _) _⟩
set_option maxHeartbeats 4000000 in
set_option maxRecDepth 100000 in
theorem named_walk (A0 : Option Addr) (c0 : Nat) (b : List S112) (s : ByteArray) (w : World) (hr0 : Kd.C k112 w A0 b.length b) :
  Calls Tryz.prog 82 #[.agg #[.slice A0 b.length c0], .string s] w fun e w' => e = .returned (.int .i64 (namedI b s)) ∧ Below w.heap.size w w' := by
 have hmf : ∀ (fn : Fn) (first cap : Array Value) (w : World), (Instr.makeFunc fn first cap).run Tryz.prog w = .ok (.func fn first cap) w := fun _ _ _ _ => rfl
 have e1 : ∀ args w, (callFunc 114 args).run Tryz.prog w = .ok (.enter 114 args) w := enters_of Tryz.func114 (by kernel_rfl) rfl
 have HE := Aside0.mk e1
 have HR := Aside0.mk (Kd.C_alloc (Kd.C_alloc hr0 (.cells #[.slice A0 b.length c0] 110 (0, 0))) (.cells #[.string s] 9 (0, 0)))
 have HG := Aside0.mk (blk_new (w.alloc (.cells #[.slice A0 b.length c0] 110 (0, 0))) (.cells #[.string s] 9 (0, 0)))
 have HB := Aside0.mk (below_alloc (below_alloc (Below.refl w.heap.size w) (.cells #[.slice A0 b.length c0] 110 (0, 0))) (.cells #[.string s] 9 (0, 0)))
 clear hr0 e1
 go_enter Tryz.func82, Tryz.ntmps82
 go_wp2_with (go_at_call 113; refine (index_func_node 114 #[.pointer (some ⟨w.heap.size + 1, 0, none⟩)] HE.out (isName s) A0 c0 b _ HR.out ?hp).mono ?_; (case hp => intro j hj W hW cs hk; exact named1_lit (w.heap.size + 1) s _ W cs (by have h1 := HG.out; simp only [World.size_alloc] at h1; exact blk_below h1 hW) hk); rintro e w2 ⟨rfl, hb⟩; have HB2 := Aside0.mk (HB.out.trans (hb.mono (by simp; omega))); clear hb)
 go_ret
 exact ⟨rfl, HB2.out⟩
end Go.Proofs.YtloijngccppfgaaGreat.F
end
