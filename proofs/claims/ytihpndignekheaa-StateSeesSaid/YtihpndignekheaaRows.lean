/-
  No cell of these rows narrows 'for every input' (looked for: loops, veiled, ifaces, maps, wideKeys, modest, calm, conditions, laid).
  DERIVED. THE GIVEN ROWS OF THIS SEAT. 4 by the template 'for every input the law returns true; each argument reads behind the call as it read before'; 0 by the template 'total and deterministic' (their statements: YtihpndignekheaaTotals.lean).
  GIVEN WITH THE SEED: the statements are not yours to turn. If you find one false, say at which input.
  Laid BY PROGRAM, IN A SANDBOX (cutbox-rows.mjs): the forced cells as the released guide's own fill.sh prints them over the translation a7b46420def626e3… (all of the seat's roots in one cut). By AI agents, Wed Nov 11 2026. No macro, syntax, notation, axiom, sorry.
-/
import Derived.Test.YtihpndignekheaaChecked
import GoSem.Claim
import GoSem.ClaimJoined
import GoSem.ClaimMapViews
import Derived.JoinedTies
import Derived.KernelRfl
namespace Go.Proofs.Ytihpndignekheaa
/- THE CELL 'sum', in the pinned program and in every row, IS THE sha256 OF THE DUMP (.gsa) THAT YtihpndignekheaaProg.lean LOADS. Nothing in Lean hashes anything: it is a label: what it is worth is what the hold of that sum in a sandbox is worth. -/
noncomputable def Try.pinned : Pinned := { name := "ytihpndignekheaa", sum := "a7b46420def626e3efcef3806ad2cf76513837c58933b40af57c23e132536351", checked := Try.checked }
namespace Rows
def none {H : Type} : Left H := { results := [], args := [] }

/-- 'argosylaw14.StateOne': WHATEVER THE INPUT: true; the input reads as it did. -/
def stateOneSpec : ChangeSpec := { name := "stateOne", fn := fun _ => fun
  | [d1, d2] => { results := [.lit (.bool true)], args := [d1, d2] }
  | _ => none }
def stateOneRow : OpenClaim := { program := "ytihpndignekheaa", sum := "a7b46420def626e3efcef3806ad2cf76513837c58933b40af57c23e132536351", func := "argosy/argosylaw14.StateOne", spec := "stateOne", unfollowed := true, recurses := true, apart := false }
def StateOneSaid : Prop := stateOneRow.holds Try.pinned (OpenSpec.ofChange stateOneSpec)

/-- ITS FALSE NEIGHBOUR: 'it returns false'. Refute it at one input. -/
def stateOneWrong : ChangeSpec := { name := "stateOne", fn := fun _ => fun
  | [d1, d2] => { results := [.lit (.bool false)], args := [d1, d2] }
  | _ => none }
def StateOneWrongFalsely : Prop := stateOneRow.holds Try.pinned (OpenSpec.ofChange stateOneWrong)

/-- 'argosylaw14.StateSees': WHATEVER THE INPUT: true; the input reads as it did. -/
def stateSeesSpec : ChangeSpec := { name := "stateSees", fn := fun _ => fun
  | [d1, d2, d3, d4, d5] => { results := [.lit (.bool true)], args := [d1, d2, d3, d4, d5] }
  | _ => none }
def stateSeesRow : OpenClaim := { program := "ytihpndignekheaa", sum := "a7b46420def626e3efcef3806ad2cf76513837c58933b40af57c23e132536351", func := "argosy/argosylaw14.StateSees", spec := "stateSees", unfollowed := true, recurses := true, apart := false }
def StateSeesSaid : Prop := stateSeesRow.holds Try.pinned (OpenSpec.ofChange stateSeesSpec)

/-- ITS FALSE NEIGHBOUR: 'it returns false'. Refute it at one input. -/
def stateSeesWrong : ChangeSpec := { name := "stateSees", fn := fun _ => fun
  | [d1, d2, d3, d4, d5] => { results := [.lit (.bool false)], args := [d1, d2, d3, d4, d5] }
  | _ => none }
def StateSeesWrongFalsely : Prop := stateSeesRow.holds Try.pinned (OpenSpec.ofChange stateSeesWrong)

/-- 'argosylaw14.StateIdle': WHATEVER THE INPUT: true; the input reads as it did. -/
def stateIdleSpec : ChangeSpec := { name := "stateIdle", fn := fun _ => fun
  | [d] => { results := [.lit (.bool true)], args := [d] }
  | _ => none }
def stateIdleRow : OpenClaim := { program := "ytihpndignekheaa", sum := "a7b46420def626e3efcef3806ad2cf76513837c58933b40af57c23e132536351", func := "argosy/argosylaw14.StateIdle", spec := "stateIdle", unfollowed := true, recurses := true, apart := false }
def StateIdleSaid : Prop := stateIdleRow.holds Try.pinned (OpenSpec.ofChange stateIdleSpec)

/-- ITS FALSE NEIGHBOUR: 'it returns false'. Refute it at one input. -/
def stateIdleWrong : ChangeSpec := { name := "stateIdle", fn := fun _ => fun
  | [d] => { results := [.lit (.bool false)], args := [d] }
  | _ => none }
def StateIdleWrongFalsely : Prop := stateIdleRow.holds Try.pinned (OpenSpec.ofChange stateIdleWrong)

/-- 'argosylaw14.StateFalls': WHATEVER THE INPUT: true; the input reads as it did. -/
def stateFallsSpec : ChangeSpec := { name := "stateFalls", fn := fun _ => fun
  | [d1, d2, d3] => { results := [.lit (.bool true)], args := [d1, d2, d3] }
  | _ => none }
def stateFallsRow : OpenClaim := { program := "ytihpndignekheaa", sum := "a7b46420def626e3efcef3806ad2cf76513837c58933b40af57c23e132536351", func := "argosy/argosylaw14.StateFalls", spec := "stateFalls", unfollowed := true, recurses := true, apart := false }
def StateFallsSaid : Prop := stateFallsRow.holds Try.pinned (OpenSpec.ofChange stateFallsSpec)

/-- ITS FALSE NEIGHBOUR: 'it returns false'. Refute it at one input. -/
def stateFallsWrong : ChangeSpec := { name := "stateFalls", fn := fun _ => fun
  | [d1, d2, d3] => { results := [.lit (.bool false)], args := [d1, d2, d3] }
  | _ => none }
def StateFallsWrongFalsely : Prop := stateFallsRow.holds Try.pinned (OpenSpec.ofChange stateFallsWrong)

/- THE SECOND FORM. 'bulk': how many values and letters a reading holds, each counted each time it is reached (what is shared counts as often as it is met; a slice's spare places count too). A statement '..UptoSaid' is the law's where the arguments, and the package variables that the reading takes, are together of bulk at most 1048576: NARROWER than '..Said'. Prove '..Said' where nothing that the law and all that it calls make is longer than what came in: it says more and counts as full. Else prove '..UptoSaid'. A law counts once. -/
mutual
def uptoBulk {H : Type} : DataW H → Nat
  | .lit (.string bytes) => bytes.length + 1
  | .lit _ => 1
  | .nil => 1
  | .ptr d => uptoBulk d + 1
  | .slice elems spare => uptoBulkAll elems + uptoBulkAll spare + 1
  | .agg parts => uptoBulkAll parts + 1
  | .iface _ d => uptoBulk d + 1
  | .map entries => uptoBulkEntries entries + 1
  | .held _ => 1
def uptoBulkAll {H : Type} : List (DataW H) → Nat
  | [] => 0
  | d :: r => uptoBulk d + uptoBulkAll r
def uptoBulkEntries {H : Type} : List (Lit × DataW H) → Nat
  | [] => 0
  | x :: r => uptoBulkEntry x + uptoBulkEntries r
def uptoBulkEntry {H : Type} : Lit × DataW H → Nat
  | (.string bytes, d) => bytes.length + uptoBulk d + 1
  | (_, d) => uptoBulk d + 1
 end
def uptoSmall : (H : Type) → List (DataW H) → Bool := fun _ ds => decide (uptoBulkAll ds ≤ 1048576)
def OpenSpec.upto (s : _root_.Go.ChangeSpec) : _root_.Go.OpenSpec := { _root_.Go.OpenSpec.ofChange s with cond := some uptoSmall }

/-- 'argosylaw14.StateOne', WHERE WHAT IT READS IS OF BULK AT MOST 1048576: true; the input reads as it did. -/
def stateOneUptoRow : OpenClaim := { program := "ytihpndignekheaa", sum := "a7b46420def626e3efcef3806ad2cf76513837c58933b40af57c23e132536351", func := "argosy/argosylaw14.StateOne", spec := "stateOne", unfollowed := true, recurses := true, apart := false, narrowed := true }
def StateOneUptoSaid : Prop := stateOneUptoRow.holds Try.pinned (OpenSpec.upto stateOneSpec)

/-- 'argosylaw14.StateSees', WHERE WHAT IT READS IS OF BULK AT MOST 1048576: true; the input reads as it did. -/
def stateSeesUptoRow : OpenClaim := { program := "ytihpndignekheaa", sum := "a7b46420def626e3efcef3806ad2cf76513837c58933b40af57c23e132536351", func := "argosy/argosylaw14.StateSees", spec := "stateSees", unfollowed := true, recurses := true, apart := false, narrowed := true }
def StateSeesUptoSaid : Prop := stateSeesUptoRow.holds Try.pinned (OpenSpec.upto stateSeesSpec)

/-- 'argosylaw14.StateIdle', WHERE WHAT IT READS IS OF BULK AT MOST 1048576: true; the input reads as it did. -/
def stateIdleUptoRow : OpenClaim := { program := "ytihpndignekheaa", sum := "a7b46420def626e3efcef3806ad2cf76513837c58933b40af57c23e132536351", func := "argosy/argosylaw14.StateIdle", spec := "stateIdle", unfollowed := true, recurses := true, apart := false, narrowed := true }
def StateIdleUptoSaid : Prop := stateIdleUptoRow.holds Try.pinned (OpenSpec.upto stateIdleSpec)

/-- 'argosylaw14.StateFalls', WHERE WHAT IT READS IS OF BULK AT MOST 1048576: true; the input reads as it did. -/
def stateFallsUptoRow : OpenClaim := { program := "ytihpndignekheaa", sum := "a7b46420def626e3efcef3806ad2cf76513837c58933b40af57c23e132536351", func := "argosy/argosylaw14.StateFalls", spec := "stateFalls", unfollowed := true, recurses := true, apart := false, narrowed := true }
def StateFallsUptoSaid : Prop := stateFallsUptoRow.holds Try.pinned (OpenSpec.upto stateFallsSpec)

end Rows
end Go.Proofs.Ytihpndignekheaa
