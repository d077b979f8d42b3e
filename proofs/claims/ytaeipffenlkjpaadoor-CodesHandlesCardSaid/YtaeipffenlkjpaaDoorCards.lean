/-
  DERIVED. GIVEN WITH THE SEED: THE CARDS: each row of YtaeipffenlkjpaaDoorRows.lean that lists a variable, with what it lists TIED to the program's text (the seventh form; the later family's looks); each row that meets fmt, with fmt's text TOLD by the authors' own Lean function (tested against real Go, not proved from fmt's source: count such statements apart). THE CARD IS WHAT COUNTS. Prove the row's statement (the work); the ties are given (YtaeipffenlkjpaaDoorTie.lean); close each card by the builder's one call (the guide's Derived/Test/ToyasCard.lean, 'card_holds'). Laid BY PROGRAM, IN A SANDBOX (cutbox-door.mjs). By AI agents, Wed Nov 11 2026. No macro, syntax, notation, axiom, sorry.
-/
import Derived.Test.YtaeipffenlkjpaaDoorRows
import GoSem.ClaimSeven
namespace Go.Proofs.YtaeipffenlkjpaaDoor
namespace Rows

/-- THE TIED CARD OF 'wicketlaw09.CodesHandles'. -/
def codesHandlesCard : Claim7 := { stood := { row := codesHandlesRow, standIns := [], harness := (true, "f9d40f098b33fe577ef909df291091deebf404af035b9a11c3029bade24ddef8"), looks := false }, kinds := [], alts := [], laidByText := true, laidKinds := [.data, .data, .data], laidTests := true, laidLooks := .later }
def CodesHandlesCardSaid : Prop := Claim7.holds Tryd.pinned (.plain (OpenSpec.ofChange codesHandlesSpec)) codesHandlesCard

/-- THE SECOND FORM's CARD OF 'wicketlaw09.CodesHandles'. -/
def codesHandlesUptoCard : Claim7 := { stood := { row := codesHandlesUptoRow, standIns := [], harness := (true, "f9d40f098b33fe577ef909df291091deebf404af035b9a11c3029bade24ddef8"), looks := false }, kinds := [], alts := [], laidByText := true, laidKinds := [.data, .data, .data], laidTests := true, laidLooks := .later }
def CodesHandlesUptoCardSaid : Prop := Claim7.holds Tryd.pinned (.plain (OpenSpec.upto codesHandlesSpec)) codesHandlesUptoCard
end Rows
end Go.Proofs.YtaeipffenlkjpaaDoor
