/-
  NARROWER THAN 'FOR EVERY INPUT', by the rows' own cells (each row's printed sentence says how): TaskApart: loops · TaskGoes: loops.
  DERIVED. THE GIVEN ROWS OF THIS SEAT. 5 by the template 'for every input the law returns true; each argument reads behind the call as it read before'; 0 by the template 'total and deterministic' (their statements: YtloijngccppfgaaGreatTotals.lean).
  GIVEN WITH THE SEED: the statements are not yours to turn. If you find one false, say at which input.
  Laid BY PROGRAM, IN A SANDBOX (cutbox-rows.mjs): the forced cells as the released guide's own fill.sh prints them over the translation 5f924d0f1967b6ab… (all of the seat's roots in one cut). By AI agents, Wed Nov 11 2026. No macro, syntax, notation, axiom, sorry.
-/
import Derived.Test.YtloijngccppfgaaGreatChecked
import GoSem.Claim
import GoSem.ClaimJoined
import GoSem.ClaimMapViews
import Derived.JoinedTies
import Derived.KernelRfl
namespace Go.Proofs.YtloijngccppfgaaGreat
/- THE CELL 'sum', in the pinned program and in every row, IS THE sha256 OF THE DUMP (.gsa) THAT YtloijngccppfgaaGreatProg.lean LOADS. Nothing in Lean hashes anything: it is a label: what it is worth is what the hold of that sum in a sandbox is worth. -/
noncomputable def Tryz.pinned : Pinned := { name := "ytloijngccppfgaagreat", sum := "5f924d0f1967b6ab0fa2fcc2bc2591a13fa486c2a3c8767d8de988ed98a925f4", checked := Tryz.checked }
namespace Rows
def none {H : Type} : Left H := { results := [], args := [] }

/-- 'argosylaw32.WhyTree': WHATEVER THE INPUT: true; the input reads as it did. -/
def whyTreeSpec : ChangeSpec := { name := "whyTree", fn := fun _ => fun
  | [d1, d2, d3] => { results := [.lit (.bool true)], args := [d1, d2, d3] }
  | _ => none }
def whyTreeRow : OpenClaim := { program := "ytloijngccppfgaagreat", sum := "5f924d0f1967b6ab0fa2fcc2bc2591a13fa486c2a3c8767d8de988ed98a925f4", func := "argosy/argosylaw32.WhyTree", spec := "whyTree", inPlace := ["internal/abi.NoEscape", "internal/bytealg.MakeNoZero"], unfollowed := true, recurses := true, apart := false }
def WhyTreeSaid : Prop := whyTreeRow.holds Tryz.pinned (OpenSpec.ofChange whyTreeSpec)

/-- ITS FALSE NEIGHBOUR: 'it returns false'. Refute it at one input. -/
def whyTreeWrong : ChangeSpec := { name := "whyTree", fn := fun _ => fun
  | [d1, d2, d3] => { results := [.lit (.bool false)], args := [d1, d2, d3] }
  | _ => none }
def WhyTreeWrongFalsely : Prop := whyTreeRow.holds Tryz.pinned (OpenSpec.ofChange whyTreeWrong)

/-- 'argosylaw32.WhyBlames': WHATEVER THE INPUT: true; the input reads as it did. -/
def whyBlamesSpec : ChangeSpec := { name := "whyBlames", fn := fun _ => fun
  | [d1, d2, d3] => { results := [.lit (.bool true)], args := [d1, d2, d3] }
  | _ => none }
def whyBlamesRow : OpenClaim := { program := "ytloijngccppfgaagreat", sum := "5f924d0f1967b6ab0fa2fcc2bc2591a13fa486c2a3c8767d8de988ed98a925f4", func := "argosy/argosylaw32.WhyBlames", spec := "whyBlames", inPlace := ["internal/abi.NoEscape", "internal/bytealg.MakeNoZero"], unfollowed := true, recurses := true, apart := false }
def WhyBlamesSaid : Prop := whyBlamesRow.holds Tryz.pinned (OpenSpec.ofChange whyBlamesSpec)

/-- ITS FALSE NEIGHBOUR: 'it returns false'. Refute it at one input. -/
def whyBlamesWrong : ChangeSpec := { name := "whyBlames", fn := fun _ => fun
  | [d1, d2, d3] => { results := [.lit (.bool false)], args := [d1, d2, d3] }
  | _ => none }
def WhyBlamesWrongFalsely : Prop := whyBlamesRow.holds Tryz.pinned (OpenSpec.ofChange whyBlamesWrong)

/-- 'argosylaw15.TaskOrder': WHATEVER THE INPUT: true; the input reads as it did. -/
def taskOrderSpec : ChangeSpec := { name := "taskOrder", fn := fun _ => fun
  | [d1, d2] => { results := [.lit (.bool true)], args := [d1, d2] }
  | _ => none }
def taskOrderRow : OpenClaim := { program := "ytloijngccppfgaagreat", sum := "5f924d0f1967b6ab0fa2fcc2bc2591a13fa486c2a3c8767d8de988ed98a925f4", func := "argosy/argosylaw15.TaskOrder", spec := "taskOrder", unfollowed := true, recurses := true, apart := false }
def TaskOrderSaid : Prop := taskOrderRow.holds Tryz.pinned (OpenSpec.ofChange taskOrderSpec)

/-- ITS FALSE NEIGHBOUR: 'it returns false'. Refute it at one input. -/
def taskOrderWrong : ChangeSpec := { name := "taskOrder", fn := fun _ => fun
  | [d1, d2] => { results := [.lit (.bool false)], args := [d1, d2] }
  | _ => none }
def TaskOrderWrongFalsely : Prop := taskOrderRow.holds Tryz.pinned (OpenSpec.ofChange taskOrderWrong)

/-- 'argosylaw15.TaskApart': WHATEVER THE INPUT: true; the input reads as it did. -/
def taskApartSpec : ChangeSpec := { name := "taskApart", fn := fun _ => fun
  | [d1, d2, d3] => { results := [.lit (.bool true)], args := [d1, d2, d3] }
  | _ => none }
def taskApartRow : OpenClaim := { program := "ytloijngccppfgaagreat", sum := "5f924d0f1967b6ab0fa2fcc2bc2591a13fa486c2a3c8767d8de988ed98a925f4", func := "argosy/argosylaw15.TaskApart", spec := "taskApart", unfollowed := true, recurses := true, loops := true, apart := false }
def TaskApartSaid : Prop := taskApartRow.holds Tryz.pinned (OpenSpec.ofChange taskApartSpec)

/-- ITS FALSE NEIGHBOUR: 'it returns false'. Refute it at one input. -/
def taskApartWrong : ChangeSpec := { name := "taskApart", fn := fun _ => fun
  | [d1, d2, d3] => { results := [.lit (.bool false)], args := [d1, d2, d3] }
  | _ => none }
def TaskApartWrongFalsely : Prop := taskApartRow.holds Tryz.pinned (OpenSpec.ofChange taskApartWrong)

/-- 'argosylaw15.TaskGoes': WHATEVER THE INPUT: true; the input reads as it did. -/
def taskGoesSpec : ChangeSpec := { name := "taskGoes", fn := fun _ => fun
  | [d1, d2] => { results := [.lit (.bool true)], args := [d1, d2] }
  | _ => none }
def taskGoesRow : OpenClaim := { program := "ytloijngccppfgaagreat", sum := "5f924d0f1967b6ab0fa2fcc2bc2591a13fa486c2a3c8767d8de988ed98a925f4", func := "argosy/argosylaw15.TaskGoes", spec := "taskGoes", unfollowed := true, recurses := true, loops := true, apart := false }
def TaskGoesSaid : Prop := taskGoesRow.holds Tryz.pinned (OpenSpec.ofChange taskGoesSpec)

/-- ITS FALSE NEIGHBOUR: 'it returns false'. Refute it at one input. -/
def taskGoesWrong : ChangeSpec := { name := "taskGoes", fn := fun _ => fun
  | [d1, d2] => { results := [.lit (.bool false)], args := [d1, d2] }
  | _ => none }
def TaskGoesWrongFalsely : Prop := taskGoesRow.holds Tryz.pinned (OpenSpec.ofChange taskGoesWrong)

/- THE SECOND FORM. 'bulk': how many values and letters a reading holds, each counted each time it is reached (what is shared counts as often as it is met; a slice's spare places count too). A statement '..UptoSaid' is the law's where the arguments, and the package variables that the reading takes, are together of bulk at most 1048576: NARROWER than '..Said'. Prove '..Said' where nothing that the law and all that it calls make is longer than what came in: it says more and counts as full. Else prove '..UptoSaid'. A law counts once. -/
mutual
def uptoBulk {H : Type} : DataW H → Nat
  | .lit (.string bytes) => bytes.length + 1
  | .lit _ => 1
  | .nil => 1
  | .ptr d => uptoBulk d + 1
  | .slice elems spare => uptoBulkAll elems + uptoBulkAll spare + 1
  | .agg parts => uptoBulkAll parts + 1
  | .iface _ d => uptoBulk d + 1
  | .map entries => uptoBulkEntries entries + 1
  | .held _ => 1
def uptoBulkAll {H : Type} : List (DataW H) → Nat
  | [] => 0
  | d :: r => uptoBulk d + uptoBulkAll r
def uptoBulkEntries {H : Type} : List (Lit × DataW H) → Nat
  | [] => 0
  | x :: r => uptoBulkEntry x + uptoBulkEntries r
def uptoBulkEntry {H : Type} : Lit × DataW H → Nat
  | (.string bytes, d) => bytes.length + uptoBulk d + 1
  | (_, d) => uptoBulk d + 1
 end
def uptoSmall : (H : Type) → List (DataW H) → Bool := fun _ ds => decide (uptoBulkAll ds ≤ 1048576)
def OpenSpec.upto (s : _root_.Go.ChangeSpec) : _root_.Go.OpenSpec := { _root_.Go.OpenSpec.ofChange s with cond := some uptoSmall }

/-- 'argosylaw32.WhyTree', WHERE WHAT IT READS IS OF BULK AT MOST 1048576: true; the input reads as it did. -/
def whyTreeUptoRow : OpenClaim := { program := "ytloijngccppfgaagreat", sum := "5f924d0f1967b6ab0fa2fcc2bc2591a13fa486c2a3c8767d8de988ed98a925f4", func := "argosy/argosylaw32.WhyTree", spec := "whyTree", inPlace := ["internal/abi.NoEscape", "internal/bytealg.MakeNoZero"], unfollowed := true, recurses := true, apart := false, narrowed := true }
def WhyTreeUptoSaid : Prop := whyTreeUptoRow.holds Tryz.pinned (OpenSpec.upto whyTreeSpec)

/-- 'argosylaw32.WhyBlames', WHERE WHAT IT READS IS OF BULK AT MOST 1048576: true; the input reads as it did. -/
def whyBlamesUptoRow : OpenClaim := { program := "ytloijngccppfgaagreat", sum := "5f924d0f1967b6ab0fa2fcc2bc2591a13fa486c2a3c8767d8de988ed98a925f4", func := "argosy/argosylaw32.WhyBlames", spec := "whyBlames", inPlace := ["internal/abi.NoEscape", "internal/bytealg.MakeNoZero"], unfollowed := true, recurses := true, apart := false, narrowed := true }
def WhyBlamesUptoSaid : Prop := whyBlamesUptoRow.holds Tryz.pinned (OpenSpec.upto whyBlamesSpec)

/-- 'argosylaw15.TaskOrder', WHERE WHAT IT READS IS OF BULK AT MOST 1048576: true; the input reads as it did. -/
def taskOrderUptoRow : OpenClaim := { program := "ytloijngccppfgaagreat", sum := "5f924d0f1967b6ab0fa2fcc2bc2591a13fa486c2a3c8767d8de988ed98a925f4", func := "argosy/argosylaw15.TaskOrder", spec := "taskOrder", unfollowed := true, recurses := true, apart := false, narrowed := true }
def TaskOrderUptoSaid : Prop := taskOrderUptoRow.holds Tryz.pinned (OpenSpec.upto taskOrderSpec)

/-- 'argosylaw15.TaskApart', WHERE WHAT IT READS IS OF BULK AT MOST 1048576: true; the input reads as it did. -/
def taskApartUptoRow : OpenClaim := { program := "ytloijngccppfgaagreat", sum := "5f924d0f1967b6ab0fa2fcc2bc2591a13fa486c2a3c8767d8de988ed98a925f4", func := "argosy/argosylaw15.TaskApart", spec := "taskApart", unfollowed := true, recurses := true, loops := true, apart := false, narrowed := true }
def TaskApartUptoSaid : Prop := taskApartUptoRow.holds Tryz.pinned (OpenSpec.upto taskApartSpec)

/-- 'argosylaw15.TaskGoes', WHERE WHAT IT READS IS OF BULK AT MOST 1048576: true; the input reads as it did. -/
def taskGoesUptoRow : OpenClaim := { program := "ytloijngccppfgaagreat", sum := "5f924d0f1967b6ab0fa2fcc2bc2591a13fa486c2a3c8767d8de988ed98a925f4", func := "argosy/argosylaw15.TaskGoes", spec := "taskGoes", unfollowed := true, recurses := true, loops := true, apart := false, narrowed := true }
def TaskGoesUptoSaid : Prop := taskGoesUptoRow.holds Tryz.pinned (OpenSpec.upto taskGoesSpec)

end Rows
end Go.Proofs.YtloijngccppfgaaGreat
