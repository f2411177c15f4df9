/-
  DERIVED. GIVEN WITH THE SEED: THE CARDS: each row of YtifmchddekgmbaaDoorRows.lean that lists a variable, with what it lists TIED to the program's text (the seventh form; the later family's looks); each row that meets fmt, with fmt's text TOLD by the authors' own Lean function (tested against real Go, not proved from fmt's source: count such statements apart). THE CARD IS WHAT COUNTS. Prove the row's statement (the work); the ties are given (YtifmchddekgmbaaDoorTie.lean); close each card by the builder's one call (the guide's Derived/Test/ToyasCard.lean, 'card_holds'). Laid BY PROGRAM, IN A SANDBOX (cutbox-door.mjs). By AI agents, Wed Nov 11 2026. No macro, syntax, notation, axiom, sorry.
-/
import Derived.Test.YtifmchddekgmbaaDoorRows
import GoSem.ClaimSeven
namespace Go.Proofs.YtifmchddekgmbaaDoor
namespace Rows

/-- THE TIED CARD OF 'argosylaw19.OracleTells'. -/
def oracleTellsCard : Claim7 := { stood := { row := oracleTellsRow, standIns := [], harness := (true, "a2347331f608cbbb66bc6883e51a27141c780a15d0616c22abe1104baad72465"), looks := false }, kinds := [], alts := [], laidByText := true, laidKinds := [.data, .pinned], laidTests := true, laidLooks := .later }
def OracleTellsCardSaid : Prop := Claim7.holds Tryd.pinned (.plain (OpenSpec.ofChange oracleTellsSpec)) oracleTellsCard

/-- THE TIED CARD OF 'argosylaw19.OracleMakes'. -/
def oracleMakesCard : Claim7 := { stood := { row := oracleMakesRow, standIns := [], harness := (true, "a2347331f608cbbb66bc6883e51a27141c780a15d0616c22abe1104baad72465"), looks := false }, kinds := [], alts := [], laidByText := true, laidKinds := [.data, .pinned], laidTests := true, laidLooks := .later }
def OracleMakesCardSaid : Prop := Claim7.holds Tryd.pinned (.plain (OpenSpec.ofChange oracleMakesSpec)) oracleMakesCard

/-- THE TIED CARD OF 'argosylaw19.OracleBack'. -/
def oracleBackCard : Claim7 := { stood := { row := oracleBackRow, standIns := [], harness := (true, "a2347331f608cbbb66bc6883e51a27141c780a15d0616c22abe1104baad72465"), looks := false }, kinds := [], alts := [], laidByText := true, laidKinds := [.data, .pinned], laidTests := true, laidLooks := .later }
def OracleBackCardSaid : Prop := Claim7.holds Tryd.pinned (.plain (OpenSpec.ofChange oracleBackSpec)) oracleBackCard

/-- THE TIED CARD OF 'argosylaw19.OracleLast'. -/
def oracleLastCard : Claim7 := { stood := { row := oracleLastRow, standIns := [], harness := (true, "a2347331f608cbbb66bc6883e51a27141c780a15d0616c22abe1104baad72465"), looks := false }, kinds := [], alts := [], laidByText := true, laidKinds := [.data, .pinned], laidTests := true, laidLooks := .later }
def OracleLastCardSaid : Prop := Claim7.holds Tryd.pinned (.plain (OpenSpec.ofChange oracleLastSpec)) oracleLastCard

/-- THE SECOND FORM's CARD OF 'argosylaw19.OracleTells'. -/
def oracleTellsUptoCard : Claim7 := { stood := { row := oracleTellsUptoRow, standIns := [], harness := (true, "a2347331f608cbbb66bc6883e51a27141c780a15d0616c22abe1104baad72465"), looks := false }, kinds := [], alts := [], laidByText := true, laidKinds := [.data, .pinned], laidTests := true, laidLooks := .later }
def OracleTellsUptoCardSaid : Prop := Claim7.holds Tryd.pinned (.plain (OpenSpec.upto oracleTellsSpec)) oracleTellsUptoCard

/-- THE SECOND FORM's CARD OF 'argosylaw19.OracleMakes'. -/
def oracleMakesUptoCard : Claim7 := { stood := { row := oracleMakesUptoRow, standIns := [], harness := (true, "a2347331f608cbbb66bc6883e51a27141c780a15d0616c22abe1104baad72465"), looks := false }, kinds := [], alts := [], laidByText := true, laidKinds := [.data, .pinned], laidTests := true, laidLooks := .later }
def OracleMakesUptoCardSaid : Prop := Claim7.holds Tryd.pinned (.plain (OpenSpec.upto oracleMakesSpec)) oracleMakesUptoCard

/-- THE SECOND FORM's CARD OF 'argosylaw19.OracleBack'. -/
def oracleBackUptoCard : Claim7 := { stood := { row := oracleBackUptoRow, standIns := [], harness := (true, "a2347331f608cbbb66bc6883e51a27141c780a15d0616c22abe1104baad72465"), looks := false }, kinds := [], alts := [], laidByText := true, laidKinds := [.data, .pinned], laidTests := true, laidLooks := .later }
def OracleBackUptoCardSaid : Prop := Claim7.holds Tryd.pinned (.plain (OpenSpec.upto oracleBackSpec)) oracleBackUptoCard

/-- THE SECOND FORM's CARD OF 'argosylaw19.OracleLast'. -/
def oracleLastUptoCard : Claim7 := { stood := { row := oracleLastUptoRow, standIns := [], harness := (true, "a2347331f608cbbb66bc6883e51a27141c780a15d0616c22abe1104baad72465"), looks := false }, kinds := [], alts := [], laidByText := true, laidKinds := [.data, .pinned], laidTests := true, laidLooks := .later }
def OracleLastUptoCardSaid : Prop := Claim7.holds Tryd.pinned (.plain (OpenSpec.upto oracleLastSpec)) oracleLastUptoCard
end Rows
end Go.Proofs.YtifmchddekgmbaaDoor
