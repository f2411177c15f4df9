import Derived.Test.YtifmchddekgmbaaDoorFx3
namespace Go.Proofs.YtifmchddekgmbaaDoor.S
open Go.RowKit Go.Proofs.YtifmchddekgmbaaDoor.F Go.Proofs.YtifmchddekgmbaaDoorW.PrintWords Go.Proofs.YtifmchddekgmbaaDoorW.PrintLast

/-! Plain facts of the oracle. -/
def IsByte (x : Int) : Prop := 0 ≤ x ∧ x ≤ 255
theorem byte_of_wf {x : Int} (h : (Lit.int .u8 x).wf = true) : IsByte x := by
  simp [Lit.wf, IntKind.min, IntKind.max, IntKind.signed, IntKind.bits] at h
  exact h
theorem and3 (x : Int) (h : IsByte x) : Go.bits .and .u8 x 3 = x % 4 := by
  obtain ⟨h0, h1⟩ := h
  obtain ⟨n, rfl⟩ := Int.eq_ofNat_of_zero_le h0
  have hn : n < 256 := by omega
  have := (by decide +kernel : ∀ m : Fin 256, Go.bits .and .u8 ((m.val : Nat) : Int) 3 = ((m.val : Nat) : Int) % 4) ⟨n, hn⟩
  exact this
theorem and4 (x : Int) (h : IsByte x) : (Go.bits .and .u8 x 4 != 0) = (x / 4 % 2 == 1) := by
  obtain ⟨h0, h1⟩ := h
  obtain ⟨n, rfl⟩ := Int.eq_ofNat_of_zero_le h0
  have hn : n < 256 := by omega
  have := (by decide +kernel : ∀ m : Fin 256, (Go.bits .and .u8 ((m.val : Nat) : Int) 4 != 0) = (((m.val : Nat) : Int) / 4 % 2 == 1)) ⟨n, hn⟩
  exact this
theorem or4 (x : Int) (h0 : 0 ≤ x) (h1 : x ≤ 7) : Go.bits .or .u8 x 4 = if x < 4 then x + 4 else x := by
  obtain ⟨n, rfl⟩ := Int.eq_ofNat_of_zero_le h0
  have hn : n < 8 := by omega
  have := (by decide +kernel : ∀ m : Fin 8, Go.bits .or .u8 ((m.val : Nat) : Int) 4 = if ((m.val : Nat) : Int) < 4 then ((m.val : Nat) : Int) + 4 else ((m.val : Nat) : Int)) ⟨n, hn⟩
  exact this
theorem w64_small {x : Int} (h0 : 0 ≤ x) (h1 : x < 9223372036854775808) : wrap64 x = x := by
  unfold wrap64
  omega
/-- A script's byte. -/
def byteAt (l : List Int) (i : Int) : Int := if i < 0 then 0 else l.getD i.toNat 0
theorem byteAt_byte {l : List Int} (h : ∀ x ∈ l, IsByte x) (i : Int) : IsByte (byteAt l i) := by
  unfold byteAt
  split
  · exact ⟨by decide, by decide⟩
  · rw [List.getD_eq_getElem?_getD]
    cases hx : l[i.toNat]? with
    | none => exact ⟨by decide, by decide⟩
    | some x => exact h x (List.mem_of_getElem? hx)
theorem at_eq (l : List Int) (i : Int) : oracle_at.f l i = some (byteAt l i) := by
  unfold oracle_at.f byteAt
  by_cases h : i < 0
  · rw [if_pos h, if_pos h]
  · rw [if_neg h, if_neg h]
    by_cases h1 : i ≥ (l.length : Int)
    · rw [if_pos h1, List.getD_eq_getElem?_getD, List.getElem?_eq_none (by omega)]; rfl
    · rw [if_neg h1, if_pos (by omega), if_pos (by omega)]; rfl
def failsB (l : List Int) (i : Int) : Bool := byteAt l i / 4 % 2 == 1
def slipsN (l : List Int) (i : Int) : Int := byteAt l i % 4
theorem fails_eq {l : List Int} (h : ∀ x ∈ l, IsByte x) (i : Int) : oracle_Fails.f l i = some (failsB l i) := by
  unfold oracle_Fails.f
  rw [at_eq, Option.bind_some, and4 _ (byteAt_byte h i)]; rfl
theorem slipsN_range (l : List Int) (i : Int) : 0 ≤ slipsN l i ∧ slipsN l i ≤ 3 := by unfold slipsN; omega
theorem slips_eq {l : List Int} (h : ∀ x ∈ l, IsByte x) (i : Int) : oracle_Slips.f l i = some (slipsN l i) := by
  unfold oracle_Slips.f
  rw [at_eq, Option.bind_some, and3 _ (byteAt_byte h i)]
  have := slipsN_range l i
  unfold slipsN at this
  rw [w64_small (by omega) (by omega)]; rfl
def okB (l : List Int) (i : Int) (u : Bool) (t : Int) : Bool := if u then decide (t ≥ slipsN l i) else !failsB l i
theorem ok_eq {l : List Int} (h : ∀ x ∈ l, IsByte x) (i : Int) (u : Bool) (t : Int) : oracle_Ok.f l i u t = some (okB l i u t) := by
  unfold oracle_Ok.f okB
  cases u
  · rw [if_neg (by decide), fails_eq h]; rfl
  · rw [if_pos rfl, slips_eq h]; rfl
theorem lives_at : argosylaw19_lives.f 100 = some true := by decide +kernel
theorem lives_ge {k : Nat} (hk : 100 ≤ k) : argosylaw19_lives.f k = some true := at_rounds argosylaw19_lives.mono hk lives_at
end Go.Proofs.YtifmchddekgmbaaDoor.S
