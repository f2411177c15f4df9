/-
  NARROWER THAN 'FOR EVERY INPUT', by the rows' own cells (each row's printed sentence says how): OracleTells: laid · OracleMakes: laid · OracleBack: laid · OracleLast: laid.
  DERIVED. THE GIVEN ROWS OF THIS SEAT. 4 by the template 'for every input the law returns true; each argument reads behind the call as it read before'; 0 by the template 'total and deterministic' (their statements: YtifmchddekgmbaaDoorTotals.lean).
  GIVEN WITH THE SEED: the statements are not yours to turn. If you find one false, say at which input.
  Laid BY PROGRAM, IN A SANDBOX (cutbox-rows.mjs): the forced cells as the released guide's own fill.sh prints them over the translation 3c378646816b7e64… (all of the seat's roots in one cut). By AI agents, Wed Nov 11 2026. No macro, syntax, notation, axiom, sorry.
-/
import Derived.Test.YtifmchddekgmbaaDoorChecked
import GoSem.PinnedTables
import GoSem.Claim
import GoSem.ClaimJoined
import GoSem.ClaimMapViews
import Derived.JoinedTies
import Derived.KernelRfl
namespace Go.Proofs.YtifmchddekgmbaaDoor
/- THE CELL 'sum', in the pinned program and in every row, IS THE sha256 OF THE DUMP (.gsa) THAT YtifmchddekgmbaaDoorProg.lean LOADS. Nothing in Lean hashes anything: it is a label: what it is worth is what the hold of that sum in a sandbox is worth. -/
noncomputable def Tryd.pinned : Pinned := { name := "ytifmchddekgmbaadoor", sum := "3c378646816b7e6418c7422be454de21ed2c47010f03ece6808d3ee38a4cbd57", checked := Tryd.checked }
namespace Rows
def none {H : Type} : Left H := { results := [], args := [] }

/- WHAT THE LISTED PACKAGE-LEVEL VARIABLES READ AS WHEN THE CALL BEGINS. Each datum BY PROGRAM (the guide's laid-datum.mjs) off the statement by which the dump's own 'gosem.cut.vars' lays the variable. In a bare row this is a premise. The card (YtifmchddekgmbaaDoorCards.lean) ties it to the program's text. -/
def laid_unicode_utf8_acceptRanges {H : Type} : DataW H := .agg [.agg [.lit (.int .u8 128), .lit (.int .u8 191)], .agg [.lit (.int .u8 160), .lit (.int .u8 191)], .agg [.lit (.int .u8 128), .lit (.int .u8 159)], .agg [.lit (.int .u8 144), .lit (.int .u8 191)], .agg [.lit (.int .u8 128), .lit (.int .u8 143)], .agg [.lit (.int .u8 0), .lit (.int .u8 0)], .agg [.lit (.int .u8 0), .lit (.int .u8 0)], .agg [.lit (.int .u8 0), .lit (.int .u8 0)], .agg [.lit (.int .u8 0), .lit (.int .u8 0)], .agg [.lit (.int .u8 0), .lit (.int .u8 0)], .agg [.lit (.int .u8 0), .lit (.int .u8 0)], .agg [.lit (.int .u8 0), .lit (.int .u8 0)], .agg [.lit (.int .u8 0), .lit (.int .u8 0)], .agg [.lit (.int .u8 0), .lit (.int .u8 0)], .agg [.lit (.int .u8 0), .lit (.int .u8 0)], .agg [.lit (.int .u8 0), .lit (.int .u8 0)]]
/-- One of Go's own tables, pinned by name: the form's constant. -/
def laid_unicode_utf8_first : DataW Unit := Go.Pinned.utf8First

/-- 'argosylaw19.OracleTells': WHATEVER THE INPUT: true; the input reads as it did. -/
def oracleTellsSpec : ChangeSpec := { name := "oracleTells", fn := fun _ => fun
  | [d1, d2, d3] => { results := [.lit (.bool true)], args := [d1, d2, d3] }
  | _ => none }
def oracleTellsRow : OpenClaim := { program := "ytifmchddekgmbaadoor", sum := "3c378646816b7e6418c7422be454de21ed2c47010f03ece6808d3ee38a4cbd57", func := "argosy/argosylaw19.OracleTells", spec := "oracleTells", unfollowed := true, recurses := true, named := ["unicode/utf8.first", "unicode/utf8.acceptRanges"], apart := false, laid := [("unicode/utf8.acceptRanges", laid_unicode_utf8_acceptRanges), ("unicode/utf8.first", laid_unicode_utf8_first)] }
def OracleTellsSaid : Prop := oracleTellsRow.holds Tryd.pinned (OpenSpec.ofChange oracleTellsSpec)

/-- ITS FALSE NEIGHBOUR: 'it returns false'. Refute it at one input. -/
def oracleTellsWrong : ChangeSpec := { name := "oracleTells", fn := fun _ => fun
  | [d1, d2, d3] => { results := [.lit (.bool false)], args := [d1, d2, d3] }
  | _ => none }
def OracleTellsWrongFalsely : Prop := oracleTellsRow.holds Tryd.pinned (OpenSpec.ofChange oracleTellsWrong)

/-- 'argosylaw19.OracleMakes': WHATEVER THE INPUT: true; the input reads as it did. -/
def oracleMakesSpec : ChangeSpec := { name := "oracleMakes", fn := fun _ => fun
  | [d1, d2] => { results := [.lit (.bool true)], args := [d1, d2] }
  | _ => none }
def oracleMakesRow : OpenClaim := { program := "ytifmchddekgmbaadoor", sum := "3c378646816b7e6418c7422be454de21ed2c47010f03ece6808d3ee38a4cbd57", func := "argosy/argosylaw19.OracleMakes", spec := "oracleMakes", unfollowed := true, recurses := true, named := ["unicode/utf8.first", "unicode/utf8.acceptRanges"], apart := false, laid := [("unicode/utf8.acceptRanges", laid_unicode_utf8_acceptRanges), ("unicode/utf8.first", laid_unicode_utf8_first)] }
def OracleMakesSaid : Prop := oracleMakesRow.holds Tryd.pinned (OpenSpec.ofChange oracleMakesSpec)

/-- ITS FALSE NEIGHBOUR: 'it returns false'. Refute it at one input. -/
def oracleMakesWrong : ChangeSpec := { name := "oracleMakes", fn := fun _ => fun
  | [d1, d2] => { results := [.lit (.bool false)], args := [d1, d2] }
  | _ => none }
def OracleMakesWrongFalsely : Prop := oracleMakesRow.holds Tryd.pinned (OpenSpec.ofChange oracleMakesWrong)

/-- 'argosylaw19.OracleBack': WHATEVER THE INPUT: true; the input reads as it did. -/
def oracleBackSpec : ChangeSpec := { name := "oracleBack", fn := fun _ => fun
  | [d1, d2, d3] => { results := [.lit (.bool true)], args := [d1, d2, d3] }
  | _ => none }
def oracleBackRow : OpenClaim := { program := "ytifmchddekgmbaadoor", sum := "3c378646816b7e6418c7422be454de21ed2c47010f03ece6808d3ee38a4cbd57", func := "argosy/argosylaw19.OracleBack", spec := "oracleBack", unfollowed := true, recurses := true, named := ["unicode/utf8.first", "unicode/utf8.acceptRanges"], apart := false, laid := [("unicode/utf8.acceptRanges", laid_unicode_utf8_acceptRanges), ("unicode/utf8.first", laid_unicode_utf8_first)] }
def OracleBackSaid : Prop := oracleBackRow.holds Tryd.pinned (OpenSpec.ofChange oracleBackSpec)

/-- ITS FALSE NEIGHBOUR: 'it returns false'. Refute it at one input. -/
def oracleBackWrong : ChangeSpec := { name := "oracleBack", fn := fun _ => fun
  | [d1, d2, d3] => { results := [.lit (.bool false)], args := [d1, d2, d3] }
  | _ => none }
def OracleBackWrongFalsely : Prop := oracleBackRow.holds Tryd.pinned (OpenSpec.ofChange oracleBackWrong)

/-- 'argosylaw19.OracleLast': WHATEVER THE INPUT: true; the input reads as it did. -/
def oracleLastSpec : ChangeSpec := { name := "oracleLast", fn := fun _ => fun
  | [d1, d2, d3] => { results := [.lit (.bool true)], args := [d1, d2, d3] }
  | _ => none }
def oracleLastRow : OpenClaim := { program := "ytifmchddekgmbaadoor", sum := "3c378646816b7e6418c7422be454de21ed2c47010f03ece6808d3ee38a4cbd57", func := "argosy/argosylaw19.OracleLast", spec := "oracleLast", unfollowed := true, recurses := true, named := ["unicode/utf8.first", "unicode/utf8.acceptRanges"], apart := false, laid := [("unicode/utf8.acceptRanges", laid_unicode_utf8_acceptRanges), ("unicode/utf8.first", laid_unicode_utf8_first)] }
def OracleLastSaid : Prop := oracleLastRow.holds Tryd.pinned (OpenSpec.ofChange oracleLastSpec)

/-- ITS FALSE NEIGHBOUR: 'it returns false'. Refute it at one input. -/
def oracleLastWrong : ChangeSpec := { name := "oracleLast", fn := fun _ => fun
  | [d1, d2, d3] => { results := [.lit (.bool false)], args := [d1, d2, d3] }
  | _ => none }
def OracleLastWrongFalsely : Prop := oracleLastRow.holds Tryd.pinned (OpenSpec.ofChange oracleLastWrong)

/- THE SECOND FORM. 'bulk': how many values and letters a reading holds, each counted each time it is reached (what is shared counts as often as it is met; a slice's spare places count too). A statement '..UptoSaid' is the law's where the arguments, and the package variables that the reading takes, are together of bulk at most 1048576: NARROWER than '..Said'. Prove '..Said' where nothing that the law and all that it calls make is longer than what came in: it says more and counts as full. Else prove '..UptoSaid'. A law counts once. -/
mutual
def uptoBulk {H : Type} : DataW H → Nat
  | .lit (.string bytes) => bytes.length + 1
  | .lit _ => 1
  | .nil => 1
  | .ptr d => uptoBulk d + 1
  | .slice elems spare => uptoBulkAll elems + uptoBulkAll spare + 1
  | .agg parts => uptoBulkAll parts + 1
  | .iface _ d => uptoBulk d + 1
  | .map entries => uptoBulkEntries entries + 1
  | .held _ => 1
def uptoBulkAll {H : Type} : List (DataW H) → Nat
  | [] => 0
  | d :: r => uptoBulk d + uptoBulkAll r
def uptoBulkEntries {H : Type} : List (Lit × DataW H) → Nat
  | [] => 0
  | x :: r => uptoBulkEntry x + uptoBulkEntries r
def uptoBulkEntry {H : Type} : Lit × DataW H → Nat
  | (.string bytes, d) => bytes.length + uptoBulk d + 1
  | (_, d) => uptoBulk d + 1
 end
def uptoSmall : (H : Type) → List (DataW H) → Bool := fun _ ds => decide (uptoBulkAll ds ≤ 1048576)
def OpenSpec.upto (s : _root_.Go.ChangeSpec) : _root_.Go.OpenSpec := { _root_.Go.OpenSpec.ofChange s with cond := some uptoSmall }

/-- 'argosylaw19.OracleTells', WHERE WHAT IT READS IS OF BULK AT MOST 1048576: true; the input reads as it did. -/
def oracleTellsUptoRow : OpenClaim := { program := "ytifmchddekgmbaadoor", sum := "3c378646816b7e6418c7422be454de21ed2c47010f03ece6808d3ee38a4cbd57", func := "argosy/argosylaw19.OracleTells", spec := "oracleTells", unfollowed := true, recurses := true, named := ["unicode/utf8.first", "unicode/utf8.acceptRanges"], apart := false, laid := [("unicode/utf8.acceptRanges", laid_unicode_utf8_acceptRanges), ("unicode/utf8.first", laid_unicode_utf8_first)], narrowed := true }
def OracleTellsUptoSaid : Prop := oracleTellsUptoRow.holds Tryd.pinned (OpenSpec.upto oracleTellsSpec)

/-- 'argosylaw19.OracleMakes', WHERE WHAT IT READS IS OF BULK AT MOST 1048576: true; the input reads as it did. -/
def oracleMakesUptoRow : OpenClaim := { program := "ytifmchddekgmbaadoor", sum := "3c378646816b7e6418c7422be454de21ed2c47010f03ece6808d3ee38a4cbd57", func := "argosy/argosylaw19.OracleMakes", spec := "oracleMakes", unfollowed := true, recurses := true, named := ["unicode/utf8.first", "unicode/utf8.acceptRanges"], apart := false, laid := [("unicode/utf8.acceptRanges", laid_unicode_utf8_acceptRanges), ("unicode/utf8.first", laid_unicode_utf8_first)], narrowed := true }
def OracleMakesUptoSaid : Prop := oracleMakesUptoRow.holds Tryd.pinned (OpenSpec.upto oracleMakesSpec)

/-- 'argosylaw19.OracleBack', WHERE WHAT IT READS IS OF BULK AT MOST 1048576: true; the input reads as it did. -/
def oracleBackUptoRow : OpenClaim := { program := "ytifmchddekgmbaadoor", sum := "3c378646816b7e6418c7422be454de21ed2c47010f03ece6808d3ee38a4cbd57", func := "argosy/argosylaw19.OracleBack", spec := "oracleBack", unfollowed := true, recurses := true, named := ["unicode/utf8.first", "unicode/utf8.acceptRanges"], apart := false, laid := [("unicode/utf8.acceptRanges", laid_unicode_utf8_acceptRanges), ("unicode/utf8.first", laid_unicode_utf8_first)], narrowed := true }
def OracleBackUptoSaid : Prop := oracleBackUptoRow.holds Tryd.pinned (OpenSpec.upto oracleBackSpec)

/-- 'argosylaw19.OracleLast', WHERE WHAT IT READS IS OF BULK AT MOST 1048576: true; the input reads as it did. -/
def oracleLastUptoRow : OpenClaim := { program := "ytifmchddekgmbaadoor", sum := "3c378646816b7e6418c7422be454de21ed2c47010f03ece6808d3ee38a4cbd57", func := "argosy/argosylaw19.OracleLast", spec := "oracleLast", unfollowed := true, recurses := true, named := ["unicode/utf8.first", "unicode/utf8.acceptRanges"], apart := false, laid := [("unicode/utf8.acceptRanges", laid_unicode_utf8_acceptRanges), ("unicode/utf8.first", laid_unicode_utf8_first)], narrowed := true }
def OracleLastUptoSaid : Prop := oracleLastUptoRow.holds Tryd.pinned (OpenSpec.upto oracleLastSpec)

end Rows
end Go.Proofs.YtifmchddekgmbaaDoor
