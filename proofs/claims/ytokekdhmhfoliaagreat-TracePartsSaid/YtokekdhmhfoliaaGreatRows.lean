/-
  NARROWER THAN 'FOR EVERY INPUT', by the rows' own cells (each row's printed sentence says how): CauseEnded: loops · TaskApart: loops.
  DERIVED. THE GIVEN ROWS OF THIS SEAT. 5 by the template 'for every input the law returns true; each argument reads behind the call as it read before'; 0 by the template 'total and deterministic' (their statements: YtokekdhmhfoliaaGreatTotals.lean).
  GIVEN WITH THE SEED: the statements are not yours to turn. If you find one false, say at which input.
  Laid BY PROGRAM, IN A SANDBOX (cutbox-rows.mjs): the forced cells as the released guide's own fill.sh prints them over the translation 9078d8bdf4770d01… (all of the seat's roots in one cut). By AI agents, Wed Nov 11 2026. No macro, syntax, notation, axiom, sorry.
-/
import Derived.Test.YtokekdhmhfoliaaGreatChecked
import GoSem.Claim
import GoSem.ClaimJoined
import GoSem.ClaimMapViews
import Derived.JoinedTies
import Derived.KernelRfl
namespace Go.Proofs.YtokekdhmhfoliaaGreat
/- THE CELL 'sum', in the pinned program and in every row, IS THE sha256 OF THE DUMP (.gsa) THAT YtokekdhmhfoliaaGreatProg.lean LOADS. Nothing in Lean hashes anything: it is a label: what it is worth is what the hold of that sum in a sandbox is worth. -/
noncomputable def Tryz.pinned : Pinned := { name := "ytokekdhmhfoliaagreat", sum := "9078d8bdf4770d01de791e9393dd85cc973696215057c27ee46070a376c7c8e5", checked := Tryz.checked }
namespace Rows
def none {H : Type} : Left H := { results := [], args := [] }

/-- 'argosylaw20.TraceParts': WHATEVER THE INPUT: true; the input reads as it did. -/
def tracePartsSpec : ChangeSpec := { name := "traceParts", fn := fun _ => fun
  | [d1, d2, d3] => { results := [.lit (.bool true)], args := [d1, d2, d3] }
  | _ => none }
def tracePartsRow : OpenClaim := { program := "ytokekdhmhfoliaagreat", sum := "9078d8bdf4770d01de791e9393dd85cc973696215057c27ee46070a376c7c8e5", func := "argosy/argosylaw20.TraceParts", spec := "traceParts", unfollowed := true, recurses := true, plainKeys := false, apart := false }
def TracePartsSaid : Prop := tracePartsRow.holds Tryz.pinned (OpenSpec.ofChange tracePartsSpec)

/-- ITS FALSE NEIGHBOUR: 'it returns false'. Refute it at one input. -/
def tracePartsWrong : ChangeSpec := { name := "traceParts", fn := fun _ => fun
  | [d1, d2, d3] => { results := [.lit (.bool false)], args := [d1, d2, d3] }
  | _ => none }
def TracePartsWrongFalsely : Prop := tracePartsRow.holds Tryz.pinned (OpenSpec.ofChange tracePartsWrong)

/-- 'argosylaw22.CauseEnough': WHATEVER THE INPUT: true; the input reads as it did. -/
def causeEnoughSpec : ChangeSpec := { name := "causeEnough", fn := fun _ => fun
  | [d1, d2] => { results := [.lit (.bool true)], args := [d1, d2] }
  | _ => none }
def causeEnoughRow : OpenClaim := { program := "ytokekdhmhfoliaagreat", sum := "9078d8bdf4770d01de791e9393dd85cc973696215057c27ee46070a376c7c8e5", func := "argosy/argosylaw22.CauseEnough", spec := "causeEnough", unfollowed := true, recurses := true, plainKeys := false, apart := false }
def CauseEnoughSaid : Prop := causeEnoughRow.holds Tryz.pinned (OpenSpec.ofChange causeEnoughSpec)

/-- ITS FALSE NEIGHBOUR: 'it returns false'. Refute it at one input. -/
def causeEnoughWrong : ChangeSpec := { name := "causeEnough", fn := fun _ => fun
  | [d1, d2] => { results := [.lit (.bool false)], args := [d1, d2] }
  | _ => none }
def CauseEnoughWrongFalsely : Prop := causeEnoughRow.holds Tryz.pinned (OpenSpec.ofChange causeEnoughWrong)

/-- 'argosylaw22.CauseEnded': WHATEVER THE INPUT: true; the input reads as it did. -/
def causeEndedSpec : ChangeSpec := { name := "causeEnded", fn := fun _ => fun
  | [d1, d2] => { results := [.lit (.bool true)], args := [d1, d2] }
  | _ => none }
def causeEndedRow : OpenClaim := { program := "ytokekdhmhfoliaagreat", sum := "9078d8bdf4770d01de791e9393dd85cc973696215057c27ee46070a376c7c8e5", func := "argosy/argosylaw22.CauseEnded", spec := "causeEnded", unfollowed := true, recurses := true, loops := true, plainKeys := false, apart := false }
def CauseEndedSaid : Prop := causeEndedRow.holds Tryz.pinned (OpenSpec.ofChange causeEndedSpec)

/-- ITS FALSE NEIGHBOUR: 'it returns false'. Refute it at one input. -/
def causeEndedWrong : ChangeSpec := { name := "causeEnded", fn := fun _ => fun
  | [d1, d2] => { results := [.lit (.bool false)], args := [d1, d2] }
  | _ => none }
def CauseEndedWrongFalsely : Prop := causeEndedRow.holds Tryz.pinned (OpenSpec.ofChange causeEndedWrong)

/-- 'argosylaw15.TaskOrder': WHATEVER THE INPUT: true; the input reads as it did. -/
def taskOrderSpec : ChangeSpec := { name := "taskOrder", fn := fun _ => fun
  | [d1, d2] => { results := [.lit (.bool true)], args := [d1, d2] }
  | _ => none }
def taskOrderRow : OpenClaim := { program := "ytokekdhmhfoliaagreat", sum := "9078d8bdf4770d01de791e9393dd85cc973696215057c27ee46070a376c7c8e5", func := "argosy/argosylaw15.TaskOrder", spec := "taskOrder", unfollowed := true, recurses := true, plainKeys := false, apart := false }
def TaskOrderSaid : Prop := taskOrderRow.holds Tryz.pinned (OpenSpec.ofChange taskOrderSpec)

/-- ITS FALSE NEIGHBOUR: 'it returns false'. Refute it at one input. -/
def taskOrderWrong : ChangeSpec := { name := "taskOrder", fn := fun _ => fun
  | [d1, d2] => { results := [.lit (.bool false)], args := [d1, d2] }
  | _ => none }
def TaskOrderWrongFalsely : Prop := taskOrderRow.holds Tryz.pinned (OpenSpec.ofChange taskOrderWrong)

/-- 'argosylaw15.TaskApart': WHATEVER THE INPUT: true; the input reads as it did. -/
def taskApartSpec : ChangeSpec := { name := "taskApart", fn := fun _ => fun
  | [d1, d2, d3] => { results := [.lit (.bool true)], args := [d1, d2, d3] }
  | _ => none }
def taskApartRow : OpenClaim := { program := "ytokekdhmhfoliaagreat", sum := "9078d8bdf4770d01de791e9393dd85cc973696215057c27ee46070a376c7c8e5", func := "argosy/argosylaw15.TaskApart", spec := "taskApart", unfollowed := true, recurses := true, loops := true, plainKeys := false, apart := false }
def TaskApartSaid : Prop := taskApartRow.holds Tryz.pinned (OpenSpec.ofChange taskApartSpec)

/-- ITS FALSE NEIGHBOUR: 'it returns false'. Refute it at one input. -/
def taskApartWrong : ChangeSpec := { name := "taskApart", fn := fun _ => fun
  | [d1, d2, d3] => { results := [.lit (.bool false)], args := [d1, d2, d3] }
  | _ => none }
def TaskApartWrongFalsely : Prop := taskApartRow.holds Tryz.pinned (OpenSpec.ofChange taskApartWrong)

/- THE SECOND FORM. 'bulk': how many values and letters a reading holds, each counted each time it is reached (what is shared counts as often as it is met; a slice's spare places count too). A statement '..UptoSaid' is the law's where the arguments, and the package variables that the reading takes, are together of bulk at most 1048576: NARROWER than '..Said'. Prove '..Said' where nothing that the law and all that it calls make is longer than what came in: it says more and counts as full. Else prove '..UptoSaid'. A law counts once. -/
mutual
def uptoBulk {H : Type} : DataW H → Nat
  | .lit (.string bytes) => bytes.length + 1
  | .lit _ => 1
  | .nil => 1
  | .ptr d => uptoBulk d + 1
  | .slice elems spare => uptoBulkAll elems + uptoBulkAll spare + 1
  | .agg parts => uptoBulkAll parts + 1
  | .iface _ d => uptoBulk d + 1
  | .map entries => uptoBulkEntries entries + 1
  | .held _ => 1
def uptoBulkAll {H : Type} : List (DataW H) → Nat
  | [] => 0
  | d :: r => uptoBulk d + uptoBulkAll r
def uptoBulkEntries {H : Type} : List (Lit × DataW H) → Nat
  | [] => 0
  | x :: r => uptoBulkEntry x + uptoBulkEntries r
def uptoBulkEntry {H : Type} : Lit × DataW H → Nat
  | (.string bytes, d) => bytes.length + uptoBulk d + 1
  | (_, d) => uptoBulk d + 1
 end
def uptoSmall : (H : Type) → List (DataW H) → Bool := fun _ ds => decide (uptoBulkAll ds ≤ 1048576)
def OpenSpec.upto (s : _root_.Go.ChangeSpec) : _root_.Go.OpenSpec := { _root_.Go.OpenSpec.ofChange s with cond := some uptoSmall }

/-- 'argosylaw20.TraceParts', WHERE WHAT IT READS IS OF BULK AT MOST 1048576: true; the input reads as it did. -/
def tracePartsUptoRow : OpenClaim := { program := "ytokekdhmhfoliaagreat", sum := "9078d8bdf4770d01de791e9393dd85cc973696215057c27ee46070a376c7c8e5", func := "argosy/argosylaw20.TraceParts", spec := "traceParts", unfollowed := true, recurses := true, plainKeys := false, apart := false, narrowed := true }
def TracePartsUptoSaid : Prop := tracePartsUptoRow.holds Tryz.pinned (OpenSpec.upto tracePartsSpec)

/-- 'argosylaw22.CauseEnough', WHERE WHAT IT READS IS OF BULK AT MOST 1048576: true; the input reads as it did. -/
def causeEnoughUptoRow : OpenClaim := { program := "ytokekdhmhfoliaagreat", sum := "9078d8bdf4770d01de791e9393dd85cc973696215057c27ee46070a376c7c8e5", func := "argosy/argosylaw22.CauseEnough", spec := "causeEnough", unfollowed := true, recurses := true, plainKeys := false, apart := false, narrowed := true }
def CauseEnoughUptoSaid : Prop := causeEnoughUptoRow.holds Tryz.pinned (OpenSpec.upto causeEnoughSpec)

/-- 'argosylaw22.CauseEnded', WHERE WHAT IT READS IS OF BULK AT MOST 1048576: true; the input reads as it did. -/
def causeEndedUptoRow : OpenClaim := { program := "ytokekdhmhfoliaagreat", sum := "9078d8bdf4770d01de791e9393dd85cc973696215057c27ee46070a376c7c8e5", func := "argosy/argosylaw22.CauseEnded", spec := "causeEnded", unfollowed := true, recurses := true, loops := true, plainKeys := false, apart := false, narrowed := true }
def CauseEndedUptoSaid : Prop := causeEndedUptoRow.holds Tryz.pinned (OpenSpec.upto causeEndedSpec)

/-- 'argosylaw15.TaskOrder', WHERE WHAT IT READS IS OF BULK AT MOST 1048576: true; the input reads as it did. -/
def taskOrderUptoRow : OpenClaim := { program := "ytokekdhmhfoliaagreat", sum := "9078d8bdf4770d01de791e9393dd85cc973696215057c27ee46070a376c7c8e5", func := "argosy/argosylaw15.TaskOrder", spec := "taskOrder", unfollowed := true, recurses := true, plainKeys := false, apart := false, narrowed := true }
def TaskOrderUptoSaid : Prop := taskOrderUptoRow.holds Tryz.pinned (OpenSpec.upto taskOrderSpec)

/-- 'argosylaw15.TaskApart', WHERE WHAT IT READS IS OF BULK AT MOST 1048576: true; the input reads as it did. -/
def taskApartUptoRow : OpenClaim := { program := "ytokekdhmhfoliaagreat", sum := "9078d8bdf4770d01de791e9393dd85cc973696215057c27ee46070a376c7c8e5", func := "argosy/argosylaw15.TaskApart", spec := "taskApart", unfollowed := true, recurses := true, loops := true, plainKeys := false, apart := false, narrowed := true }
def TaskApartUptoSaid : Prop := taskApartUptoRow.holds Tryz.pinned (OpenSpec.upto taskApartSpec)

end Rows
end Go.Proofs.YtokekdhmhfoliaaGreat
