-- A contract by hand, filled by myprint.py for this seat.
import Derived.Test.YtphifpibjgeijaaFx0
import Derived.Test.YtphifpibjgeijaaOtracecourses
import Derived.Test.YtphifpibjgeijaaOShelf
import Derived.Shelf.AbstractIn
import Derived.RangeFuncBound
namespace Go.Proofs.Ytphifpibjgeijaa.F
open Go.RowKit Go.Proofs.YtphifpibjgeijaaW.PrintWords Go.Proofs.YtphifpibjgeijaaW.PrintLast Go.Proofs.YtphifpibjgeijaaW.PrintMore
attribute [local go_sem] max2_int min2_int max_two min_two max_three min_three max_four min_four   -- for this text's walks alone
set_option linter.unusedVariables false
set_option linter.unusedSimpArgs false

/-! trace.Left: which steps were done, and are not undone -/
open Go.Maps Go.Sort Go.Shelf in
theorem insert_perm {H : Type} (x : Lit × DataW H) : ∀ l : List (Lit × DataW H), (DataW.insert x l).Perm (x :: l)
  | [] => List.Perm.refl _
  | y :: r => by
    unfold DataW.insert
    split
    · exact List.Perm.refl _
    · exact ((insert_perm x r).cons y).trans (List.Perm.swap x y r)
theorem foldr_perm {H : Type} : ∀ l : List (Lit × DataW H), (l.foldr DataW.insert []).Perm l
  | [] => List.Perm.refl _
  | x :: l => (insert_perm x _).trans ((foldr_perm l).cons x)
def anyElem {H : Type} : Value → Option (DataW H × List MemPlace) := fun _ => some (.nil, [])
theorem keyOf_wf (n : Int) (h : (Lit.int .i64 n).wf = true) : keyOf Try.prog 3 (.int .i64 n) = some (.int .i64 n) := by
  unfold keyOf
  rw [Try.underlying3]
  simp [mapKey, Try.underlying3, h]
/-- Our map, as the library's contracts ask it. -/
theorem owns_of_map {H : Type} {ν : Type} {encV : ν → Value} {w : World} {b : Nat} {m : List (Int × ν)} (h : MapIs (fun n : Int => Value.int .i64 n) encV w b m) (hl : m.length ≤ 1000000) (hk : ∀ x ∈ m, (Lit.int .i64 x.1).wf = true) :
    ∃ D0 : DataW H, w.ownsMap Try.prog 3 anyElem b 1000000 D0 ∧ (Go.intKeys D0).Perm (keysOf m) ∧ Maps.size D0 = m.length := by
  obtain ⟨es, h1, h2⟩ := h.entries
  have hsz : es.size = m.length := by rw [← Array.length_toList, h2, entriesOf_length]
  have hkeys : es.toList.map (·.key) = (keysOf m).map (fun n : Int => Value.int .i64 n) := by
    rw [h2]; unfold entriesOf; rw [List.range_eq_range']; exact entries_keys m 0
  have hborn : es.toList.map (·.born) = List.range m.length := by
    rw [h2]
    apply List.ext_getElem?
    intro i
    rw [List.getElem?_map, entriesOf_get]
    by_cases hi : i < m.length
    · rw [List.getElem?_eq_getElem hi, List.getElem?_range hi]; rfl
    · rw [List.getElem?_eq_none (by omega), List.getElem?_eq_none (by simp; omega)]; rfl
  have hrd : ∀ x ∈ es.toList, ∃ n : Int, x.key = .int .i64 n ∧ (Lit.int .i64 n).wf = true := by
    intro x hx
    rw [h2] at hx
    obtain ⟨i, hi⟩ := List.mem_iff_getElem?.1 hx
    rw [entriesOf_get] at hi
    obtain ⟨y, hy, rfl⟩ := Option.map_eq_some_iff.1 hi
    exact ⟨y.1, rfl, hk y (List.mem_of_getElem? hy)⟩
  have hrg : es.toList.map (Go.WideElems.rg (H := H) Try.prog 3 anyElem) = (keysOf m).map fun n => (Lit.int .i64 n, DataW.nil) := by
    have e1 : es.toList.map (Go.WideElems.rg (H := H) Try.prog 3 anyElem) = es.toList.map (fun x => ((match x.key with | .int .i64 n => Lit.int .i64 n | _ => .bool false), DataW.nil)) := by
      apply List.map_congr_left
      intro x hx
      obtain ⟨n, hn, hw⟩ := hrd x hx
      unfold Go.WideElems.rg Go.WideElems.rd
      rw [hn, keyOf_wf n hw]; rfl
    rw [e1]
    have e2 := congrArg (List.map (fun v : Value => ((match v with | .int .i64 n => Lit.int .i64 n | _ => .bool false), (DataW.nil : DataW H)))) hkeys
    rw [List.map_map, List.map_map] at e2
    exact e2
  refine ⟨.map ((es.toList.map (Go.WideElems.rg Try.prog 3 anyElem)).foldr DataW.insert []), ⟨es, m.length, h1, ⟨by rw [hsz]; unfold maxLen; omega, ⟨?_, ?_, ?_⟩, ?_⟩, by omega, rfl⟩, ?_, ?_⟩
  · intro x hx
    have : x.born ∈ es.toList.map (·.born) := List.mem_map_of_mem hx
    rw [hborn] at this
    exact List.mem_range.1 this
  · rw [hborn]; exact List.nodup_range
  · rw [hkeys]
    exact List.pairwise_map.2 (h.nodup.imp (fun hne e => hne (by simpa using e)))
  · intro x hx
    obtain ⟨n, hn, hw⟩ := hrd x hx
    refine ⟨(Lit.int .i64 n, DataW.nil), ?_⟩
    unfold Go.WideElems.rd
    rw [hn, keyOf_wf n hw]; rfl
  · have hp := foldr_perm (es.toList.map (Go.WideElems.rg (H := H) Try.prog 3 anyElem))
    rw [hrg] at hp ⊢
    have := hp.map (fun p : Lit × DataW H => Go.intOf p.1)
    refine this.trans ?_
    rw [List.map_map]
    exact List.Perm.of_eq ((List.map_congr_left (fun n _ => rfl)).trans (List.map_id (keysOf m)))
  · show (List.foldr DataW.insert [] _).length = _
    rw [(foldr_perm _).length_eq, List.length_map, Array.length_toList, hsz]
open Go.Maps Go.Sort Go.Shelf in
theorem sorts_any (m : Nat) : AnyZI.SortsIn Try.prog Try.sortedA_ren Fence.wide m :=
  ⟨fun blk off cap ss W hH hblk hsz => callsIn_wide.2 (AnyM.slices_Sort_int Try.sortA blk off cap ss W hH hblk hsz),
   fun p cap W => callsIn_wide.2 (AnyM.slices_Sort_int_none Try.sortA p cap W)⟩
open Go.Maps Go.Sort Go.Shelf in
theorem keys_call (mb : Option Nat) (W : World) : Calls Try.prog 27 #[.map mb] W fun e w' => e = .returned (.func (.func 32) #[] #[.pointer (some ⟨W.heap.size, 0, none⟩)]) ∧ w' = W.alloc (.cells #[.map mb] 51) :=
  (callsIn_wide (n := 5)).1 (AnyZI.keys_in Try.keysA Fence.wide 5 trivial rfl mb W)
open Go.Maps Go.Sort Go.Shelf in
theorem sorted_call {H : Type} (b nn : Nat) (D0 : DataW H) (R : Value → Option (DataW H × List MemPlace)) (w : World) (hown : w.ownsMap Try.prog 3 R b nn D0) (hmax : Maps.size D0 ≤ maxLen) (hbytes : Maps.size D0 * 8 ≤ 140737488355328) :
    Calls Try.prog 26 #[.func (.func 32) #[] #[.pointer (some ⟨w.heap.size, 0, none⟩)]] (w.alloc (.cells #[.map (some b)] 51)) fun e w' => ∃ (v : Value) (ss : List Int), e = .returned v ∧ ss.Perm (Go.intKeys D0) ∧
      w'.ownsRow (w.alloc (.cells #[.map (some b)] 51)).heap.size 3 1 v ss.length ((ss.mergeSort (fun x y => decide (x ≤ y))).map Go.encZ) ∧ Below (w.alloc (.cells #[.map (some b)] 51)).heap.size (w.alloc (.cells #[.map (some b)] 51)) w' := by
  refine (callsIn_wide (n := 5)).1 ?_
  have hbl := hown.lt
  have hseq : SeqGives Fence.wide 2 Try.prog 32 #[.pointer (some ⟨w.heap.size, 0, none⟩)] Go.encZ (fun ss => ss.Perm (Go.intKeys D0)) (Maps.size D0) (w.alloc (.cells #[.map (some b)] 51)) :=
    AnyZI.keys_gives (ρ := Try.keysA_ren) { Try.keysA with } Fence.wide _ trivial rfl (by omega) w.heap.size b nn D0 _ (by simp) (by simp) (by
      obtain ⟨es, clock, hb, Ft, hs, hD⟩ := hown
      exact ⟨es, clock, (Below.heap_alloc _ _ b hbl).trans hb, Ft, hs, hD⟩)
  have cS := AnyZI.sorted_in Try.sortedA Fence.wide 5 trivial trivial trivial trivial rfl (by omega) (sorts_any _) (enters_of Try.func31 (by kernel_rfl) rfl) 32 #[.pointer (some ⟨w.heap.size, 0, none⟩)] trivial (enters_of Try.func32 (by kernel_rfl) rfl) _ _ hmax hbytes _ hseq
  refine cS.mono ?_
  rintro e w' ⟨v, ss, he, hS, hrow, _, hb⟩
  exact ⟨v, ss, he, hS, hrow, hb⟩

theorem mem_coursesOf {x : Int × Course} : ∀ (l : List S37) (i : Int) (m : List (Int × Course)), x ∈ coursesOf l i m → x.1 ∈ keysOf m ∨ ∃ y ∈ l, y.f0.f0 = x.1 := by
  intro l
  induction l with
  | nil => intro i m h; exact .inl (List.mem_map_of_mem h)
  | cons y l ih =>
    intro i m h
    rcases ih _ _ h with h | ⟨z, hz, he⟩
    · rw [keysOf_put] at h
      split at h
      · exact .inl h
      · rcases List.mem_append.1 h with h | h
        · exact .inl h
        · rw [List.mem_singleton] at h
          exact .inr ⟨y, List.mem_cons_self .., h.symm⟩
    · exact .inr ⟨z, List.mem_cons_of_mem _ hz, he⟩
theorem length_put {κ ν : Type} [DecidableEq κ] (m : List (κ × ν)) (k : κ) (v : ν) : (mapPut m k v).length ≤ m.length + 1 := by
  unfold mapPut
  split
  · rw [List.length_map]; omega
  · simp
theorem length_coursesOf : ∀ (l : List S37) (i : Int) (m : List (Int × Course)), (coursesOf l i m).length ≤ m.length + l.length := by
  intro l
  induction l with
  | nil => intro i m; exact Nat.le_refl _
  | cons y l ih =>
    intro i m
    have h1 := ih (i + 1) (mapPut m y.f0.f0 (courseStep ((mapLook m y.f0.f0).getD course0) i y))
    have h2 := length_put m y.f0.f0 (courseStep ((mapLook m y.f0.f0).getD course0) i y)
    show (coursesOf l (i + 1) _).length ≤ _
    rw [List.length_cons]
    omega
/-- Of so many items those that are left. -/
def isLeft (m : List (Int × Course)) (i : Int) : Bool := decide (((mapLook m i).getD course0).done > 0) && ((mapLook m i).getD course0).undone == 0
def leftOf (l : List S37) : List Int := ((keysOf (coursesOf l 0 [])).mergeSort (fun x y => decide (x ≤ y))).filter (isLeft (coursesOf l 0 []))
def trace_Left.f (l0 : List S37) : Option (List Int) := if l0.length ≤ 1000000 ∧ ∀ x ∈ l0, (Lit.int .i64 x.f0.f0).wf = true then some (leftOf l0) else none
theorem sort_perm {a b : List Int} (h : a.Perm b) : a.mergeSort (fun x y => decide (x ≤ y)) = b.mergeSort (fun x y => decide (x ≤ y)) := by
  have ha := List.pairwise_mergeSort (le := fun x y : Int => decide (x ≤ y)) (fun a b c => by simp; omega) (fun a b => by simp; omega) a
  have hb := List.pairwise_mergeSort (le := fun x y : Int => decide (x ≤ y)) (fun a b c => by simp; omega) (fun a b => by simp; omega) b
  have hp : (a.mergeSort (fun x y => decide (x ≤ y))).Perm (b.mergeSort (fun x y => decide (x ≤ y))) := (List.mergeSort_perm a _).trans (h.trans (List.mergeSort_perm b _).symm)
  exact hp.eq_of_pairwise (le := fun x y : Int => decide (x ≤ y) = true) (fun x y _ _ h1 h2 => by simp at h1 h2; omega) ha hb
theorem filter_take (p : Int → Bool) (l : List Int) (i : Nat) (h : i < l.length) : (l.take (i + 1)).filter p = if p l[i] then (l.take i).filter p ++ [l[i]] else (l.take i).filter p := by
  rw [List.take_succ_eq_append_getElem h, List.filter_append]
  by_cases hp : p l[i] = true
  · simp [hp]
  · simp [hp]
set_option maxHeartbeats 8000000 in
set_option maxRecDepth 100000 in
theorem trace_Left.calls (A0 : Option Addr) (c0 : Nat) (l0 : List S37) (r : List Int) (w : World) (hr0 : Kd.C k37 w A0 l0.length l0) (hc0 : l0.length ≤ c0) (h : trace_Left.f l0 = some r) :
    Calls Try.prog 17 #[.slice A0 l0.length c0] w fun e w' => ∃ v0_ : Value, e = .returned (v0_) ∧ Kd.R (Kd.int .i64) 3 w' w.heap.size (fun _ => True) v0_ r ∧ Below w.heap.size w w' := by
  unfold trace_Left.f at h
  have hcond : l0.length ≤ 1000000 ∧ ∀ x ∈ l0, (Lit.int .i64 x.f0.f0).wf = true := by
    by_cases hc : l0.length ≤ 1000000 ∧ ∀ x ∈ l0, (Lit.int .i64 x.f0.f0).wf = true
    · exact hc
    · rw [if_neg hc] at h; cases h
  rw [if_pos hcond] at h
  obtain rfl := Option.some.inj h
  clear h
  have HC := Aside0.mk (courses_calls A0 c0 l0 w hr0 hc0)
  have HCOND := Aside0.mk hcond
  clear hr0 hcond
  go_enter Try.func17, Try.ntmps17
  go_wp2_with (go_at_call 25; refine HC.out.mono ?_; rintro e w1 ⟨rfl, hM, hB⟩; have HM1 := Aside0.mk hM; have HB1 := Aside0.mk hB; clear hM hB)
  obtain ⟨m, HMM⟩ : ∃ m, Aside0 (coursesOf l0 0 [] = m) := ⟨_, ⟨rfl⟩⟩
  have hml : m.length ≤ 1000000 := by rw [← HMM.out]; have := length_coursesOf l0 0 []; have := HCOND.out.1; simp at *; omega
  have hmk : ∀ x ∈ m, (Lit.int .i64 x.1).wf = true := by
    intro x hx
    rw [← HMM.out] at hx
    rcases mem_coursesOf l0 0 [] hx with h | ⟨y, hy, he⟩
    · cases h
    · rw [← he]; exact HCOND.out.2 y hy
  have hM1 := HM1.out
  rw [HMM.out] at hM1
  obtain ⟨D0, ho, hp, hsz⟩ := owns_of_map (H := Unit) hM1 hml hmk
  have HS := Aside0.mk (sorted_call w.heap.size 1000000 D0 anyElem w1 ho (by rw [hsz]; unfold maxLen; omega) (by rw [hsz]; omega))
  have HP := Aside0.mk hp
  have HML := Aside0.mk hml
  have HMW := Aside0.mk hM1
  clear ho hp hsz hml hmk hM1 HC HM1
  go_wp2_with (go_at_call 27; refine (keys_call _ _).mono ?_; rintro e w2 ⟨rfl, rfl⟩)
  go_wp2_with (go_at_call 26; refine HS.out.mono ?_; rintro e w3 ⟨v, ss, rfl, hS, hrow, hB⟩; have HSS := Aside0.mk hS; have HROW := Aside0.mk hrow; have HB3 := Aside0.mk hB; clear hS hrow hB; obtain ⟨A, c, rfl, hrd⟩ := own_reads (k := .i64) (xs := ss.mergeSort (fun x y => decide (x ≤ y))) HROW.out; have HRD := Aside0.mk hrd; clear hrd)
  clear HS HROW
  obtain ⟨ks, HKS⟩ : ∃ ks, Aside0 ((keysOf m).mergeSort (fun x y => decide (x ≤ y)) = ks) := ⟨_, ⟨rfl⟩⟩
  have hke : ss.mergeSort (fun x y => decide (x ≤ y)) = ks := (sort_perm (HSS.out.trans HP.out)).trans HKS.out
  have hkl : ks.length = ss.length := by rw [← hke, List.length_mergeSort]
  have hsl : ss.length ≤ 1000000 := by
    have h1 := (HSS.out.trans HP.out).length_eq
    have h2 := HML.out
    unfold keysOf at h1
    rw [List.length_map] at h1
    omega
  have hC := Kd.C_of_reads (d := (0 : Int)) (h1 := fun _ => rfl) HRD.out
  rw [hke] at hC
  have HK := Aside0.mk (show Kd.C (Kd.int .i64) w3 A ss.length ks from hC)
  have HM3 := Aside0.mk ((HMW.out.alloc (.cells #[.map (some w.heap.size)] 51)).below HB3.out)
  have HB03 := Aside0.mk ((HB1.out.alloc HB1.out.size (.cells #[.map (some w.heap.size)] 51)).trans (HB3.out.mono (by simp; have := HB1.out.size; omega)))
  have HLR : Aside0 (leftOf l0 = ks.filter (isLeft m)) := ⟨by unfold leftOf; rw [HMM.out, HKS.out]⟩
  have HFT := Aside0.mk (filter_take (isLeft m) ks)
  clear hC hke HRD HSS HP HMW HB3 HB1 HKS HMM HCOND
  have HKL := Aside0.mk hkl
  have HSL := Aside0.mk hsl
  clear hkl hsl
  go_wp2
  go_loopg [3, 14] ss.length (fun kq v3 v14 w' => ∃ (i : Nat) (ys : List Int), i + kq = ss.length ∧ v14 = .int .i64 i ∧ Aside0 (ys = (ks.take i).filter (isLeft m)) ∧ Aside0 (Kd.R (Kd.int .i64) 3 w' w3.heap.size (fun _ => True) v3 ys) ∧ Aside0 (Below w3.heap.size w3 w'))
  case atStart => exact ⟨0, [], by omega, rfl, ⟨rfl⟩, ⟨Kd.R_nil _ _ _ _ _⟩, ⟨Below.refl _ _⟩⟩
  case round =>
    obtain ⟨i, ys, hi, rfl, HY, HO, HB⟩ := hrel
    have hsl := HSL.out
    cases gk with
    | zero =>
      obtain rfl : i = ss.length := by omega
      have HE : Aside0 (leftOf l0 = ys) := ⟨by rw [HLR.out, HY.out, ← HKL.out, List.take_length]⟩
      go_wp2
      go_ret
      exact ⟨_, rfl, by rw [HE.out]; exact Kd.R_lower HO.out HB03.out.size, HB03.out.trans (HB.out.mono HB03.out.size)⟩
    | succ k =>
      have hlt : i < ks.length := by have := HKL.out; omega
      obtain ⟨x, hx⟩ : ∃ x, ks[i] = x := ⟨_, rfl⟩
      have HF := Aside0.mk (HFT.out i hlt)
      obtain ⟨ad, e0, hc0_⟩ := Kd.at_int HK.out (i : Int) (by omega) (by omega)
      have hrd : rd ks (i : Int) = x := by unfold rd; rw [Int.toNat_natCast, List.getD_eq_getElem?_getD, List.getElem?_eq_getElem hlt]; exact hx
      rw [Int.toNat_natCast, hrd] at hc0_
      have hcell := (HB.out.cell (World.block_lt_of_cell? w3 _ hc0_)).trans hc0_
      rw [hx] at HF
      subst e0
      have hlt' : (i : Int) < (ss.length : Int) := by omega
      have h0 : (0 : Int) ≤ i := by omega
      have HI2 := Aside0.mk hi
      have hyl : ys.length ≤ 1000000 := by
        rw [HY.out]
        have h1 := List.length_filter_le (isLeft m) (ks.take i)
        have h2 := List.length_take_le i ks
        omega
      have HYL := Aside0.mk hyl
      have hlk := run_map_lookup (key_ok_int Try.underlying3) Try.underlying51 course_zero (HM3.out.below HB.out) x false
      simp only [Bool.false_eq_true, if_false] at hlk
      obtain ⟨⟨d0, d1, d2, d3, d4⟩, hce⟩ : ∃ c, (mapLook m x).getD course0 = c := ⟨_, rfl⟩
      have hil : isLeft m x = (decide (d0 > 0) && d2 == 0) := by unfold isLeft; rw [hce]
      rw [hce] at hlk
      change (Instr.lookup 51 (.map (some w.heap.size)) (.int .i64 x) false).run Try.prog _ = .ok (.agg #[.int .i64 d0, .int .i64 d1, .int .i64 d2, .bool d3, .bool d4]) _ at hlk
      have HIL := Aside0.mk hil
      have HS3 := Aside0.mk HB.out.size
      clear hx hrd hc0_ hi hlt hce hil hyl
      by_cases hd0 : 0 < d0
      · by_cases hd2 : d2 = 0
        · have HT : Aside0 ((ks.take (i + 1)).filter (isLeft m) = ys ++ [x]) := ⟨by rw [HF.out, HIL.out, HY.out]; simp [hd0, hd2]⟩
          subst hd2
          go_wp2_with (((with_reducible refine gate_builtin (b := .append) (xs := #[.tmp 29, .tmp 31]) rfl ?_); (try (refine gate_guard (by rfl) ?_; dsimp only)); at_builtin; refine Kd.R_append (Kd.int .i64) (w0 := w3) w3.heap.size rfl (.tmp 29) (.tmp 31) 33 3 (.int .i64 0) 8 rfl Try.underlying33 info3 rfl (by decide) (by omega) u3 ys x [.int .i64 x] (fun _ => True) (fun _ => False) rfl (by simp [Act.eval]) ?aP (fun _ hk => hk.elim) ?aF ?aO ?aB ?aS ?aL ?_; (case aP => exact rfl); (case aF => exact (fun _ _ => trivial)); (case aO => exact (by (with_reducible repeat (first | apply Kd.R_alloc | apply Kd.R_drewN | apply Kd.R_drew)); exact HO.out)); (case aB => exact HB.out.alloc HS3.out _); (case aS => exact Nat.le_trans HS3.out (by simp)); (case aL => have := HYL.out; omega); intro v4 w4 ho hb hg hat; have HO4 := Aside0.mk ho; have HB4 := Aside0.mk hb; clear ho hb hg hat))
          go_roundg k
          case measure => omega
          case rel => exact ⟨i + 1, ys ++ [x], by have := HI2.out; omega, by go_num, ⟨HT.out.symm⟩, HO4, HB4⟩
        · have HT : Aside0 ((ks.take (i + 1)).filter (isLeft m) = ys) := ⟨by rw [HF.out, HIL.out, HY.out]; simp [hd2]⟩
          have hd2b : (d2 == 0) = false := by simpa using hd2
          clear hd2
          go_wp2
          go_roundg k
          case measure => omega
          case rel => exact ⟨i + 1, ys, by have := HI2.out; omega, by go_num, ⟨HT.out.symm⟩, ⟨Kd.R_alloc HO.out _⟩, ⟨HB.out.alloc HS3.out _⟩⟩
      · have HT : Aside0 ((ks.take (i + 1)).filter (isLeft m) = ys) := ⟨by rw [HF.out, HIL.out, HY.out]; simp [hd0]⟩
        go_wp2
        go_roundg k
        case measure => omega
        case rel => exact ⟨i + 1, ys, by have := HI2.out; omega, by go_num, ⟨HT.out.symm⟩, ⟨Kd.R_alloc HO.out _⟩, ⟨HB.out.alloc HS3.out _⟩⟩

end Go.Proofs.Ytphifpibjgeijaa.F
