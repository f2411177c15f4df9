-- A contract by hand, filled by myprint.py for this seat.
import Derived.Test.YtifmchddekgmbaaDoorFx0
import Derived.Test.YtifmchddekgmbaaDoorFx1
namespace Go.Proofs.YtifmchddekgmbaaDoor.F
open Go.RowKit Go.Proofs.YtifmchddekgmbaaDoorW.PrintWords Go.Proofs.YtifmchddekgmbaaDoorW.PrintLast Go.Proofs.YtifmchddekgmbaaDoorW.PrintMore
attribute [local go_sem] max2_int min2_int max_two min_two max_three min_three max_four min_four   -- for this text's walks alone
set_option linter.unusedVariables false
set_option linter.unusedSimpArgs false

/-! bytes.TrimRight at a cutset of one ASCII byte -/
def bytes_TrimRight.f (k : Nat) (l0 : List Int) (a1 : ByteArray) : Option (List Int) :=
  if l0.length = 0 then some l0 else if a1.size = 1 then (if bt a1 0 < 128 then bytes_trimRightByte.f k l0 (bt a1 0) else none) else none
theorem bytes_TrimRight.mono : ∀ a0 a1 k, LeO (bytes_TrimRight.f k a0 a1) (bytes_TrimRight.f (k + 1) a0 a1) := by
  intro a0 a1 k
  unfold bytes_TrimRight.f
  refine LeO.ite (LeO.refl _) (LeO.ite (LeO.ite (bytes_trimRightByte.mono _ _ _) (LeO.none _)) (LeO.none _))
theorem one_byte (a : ByteArray) (h : a.size = 1) : ∃ c : UInt8, a = ⟨#[c]⟩ := by
  obtain ⟨⟨l⟩⟩ := a
  have h2 : l.length = 1 := h
  obtain ⟨c, rfl⟩ := List.length_eq_one_iff.1 h2
  exact ⟨c, rfl⟩
set_option maxHeartbeats 2000000 in
set_option maxRecDepth 100000 in
theorem bytes_TrimRight.calls (k : Nat) (P0_ : Nat → Prop) (A0 : Option Addr) (c0 : Nat) (l0 : List Int) (a1 : ByteArray) (r : List Int) (w : World) (hs0 : Kd.V (Kd.int .u8) 5 w w.heap.size (fun k_ => P0_ k_) (.slice A0 l0.length c0) l0) (h : bytes_TrimRight.f k l0 a1 = some r) :
    Calls Tryd.prog 21 #[.slice A0 l0.length c0, .string a1] w fun e w' => ∃ v0_ : Value, e = .returned (v0_) ∧ Kd.V (Kd.int .u8) 5 w' w.heap.size (fun k_ => (P0_ k_ ∨ w.heap.size ≤ k_)) v0_ r ∧ Below w.heap.size w w' := by
  have hbig := (Kd.V_reads' hs0).2.2
  have hmax := Kd.C_max hbig
  clear hbig
  by_cases h0 : l0.length = 0
  · have H0 := Aside0.mk (show Kd.V (Kd.int .u8) 5 w w.heap.size (fun k_ => (P0_ k_ ∨ w.heap.size ≤ k_)) (.slice A0 l0.length c0) l0 from Kd.V_mono hs0 (fun k_ hk => .inl hk))
    obtain rfl : l0 = r := by unfold bytes_TrimRight.f at h; rw [if_pos h0] at h; exact Option.some.inj h
    clear h hs0
    have e0 : ((l0.length : Int) == 0) = true := by rw [h0]; rfl
    clear h0
    go_enter Tryd.func21, Tryd.ntmps21
    go_wp2
    go_ret
    exact ⟨_, rfl, H0.out, Below.refl _ _⟩
  · unfold bytes_TrimRight.f at h
    rw [if_neg h0] at h
    by_cases h1 : a1.size = 1
    · rw [if_pos h1] at h
      by_cases h2 : bt a1 0 < 128
      · rw [if_pos h2] at h
        have hc := bytes_trimRightByte.calls k P0_ A0 c0 l0 (bt a1 0) r w hs0 h
        have e0 : ((l0.length : Int) == 0) = false := by rw [beq_eq_false_iff_ne]; omega
        obtain ⟨c, rfl⟩ := one_byte a1 h1
        have hbt : bt ⟨#[c]⟩ 0 = (c.toNat : Int) := rfl
        rw [hbt] at hc h2
        have hg0 : ((⟨#[c]⟩ : ByteArray)[0]'Nat.zero_lt_one) = c := rfl
        have h2' : ¬ (128 : Int) ≤ (c.toNat : Int) := by omega
        have HC := Aside0.mk hc
        clear h hs0 h0 hbt h1 hc
        go_enter Tryd.func21, Tryd.ntmps21
        go_wp2_with (go_at_call 23; refine HC.out.mono ?_; rintro e w' ⟨v, rfl, hv, hB⟩)
        go_ret
        exact ⟨_, rfl, hv, hB⟩
      · rw [if_neg h2] at h; cases h
    · rw [if_neg h1] at h; cases h

end Go.Proofs.YtifmchddekgmbaaDoor.F
