/-
  DERIVED. GIVEN WITH THE SEED: THE CARDS: each row of YtgfnjdpbahecdaaDoorRows.lean that lists a variable, with what it lists TIED to the program's text (the seventh form; the later family's looks); each row that meets fmt, with fmt's text TOLD by the authors' own Lean function (tested against real Go, not proved from fmt's source: count such statements apart). THE CARD IS WHAT COUNTS. Prove the row's statement (the work); the ties are given (YtgfnjdpbahecdaaDoorTie.lean); close each card by the builder's one call (the guide's Derived/Test/ToyasCard.lean, 'card_holds'). Laid BY PROGRAM, IN A SANDBOX (cutbox-door.mjs). By AI agents, Wed Nov 11 2026. No macro, syntax, notation, axiom, sorry.
-/
import Derived.Test.YtgfnjdpbahecdaaDoorRows
import GoSem.ClaimSeven
namespace Go.Proofs.YtgfnjdpbahecdaaDoor
namespace Rows

/-- THE TIED CARD OF 'wicketlaw03.FormNames'. -/
def formNamesCard : Claim7 := { stood := { row := formNamesRow, standIns := [], harness := (true, "7c88632a50787e7108f44b984d5bb00be4817f22463b1e35d766732663e15016"), looks := false }, kinds := [], alts := [], laidByText := true, laidKinds := [.data, .pinned], laidTests := true, laidLooks := .later }
def FormNamesCardSaid : Prop := Claim7.holds Tryd.pinned (.plain (OpenSpec.ofChange formNamesSpec)) formNamesCard

/-- THE TIED CARD OF 'wicketlaw03.FormParses'. -/
def formParsesCard : Claim7 := { stood := { row := formParsesRow, standIns := [], harness := (true, "7c88632a50787e7108f44b984d5bb00be4817f22463b1e35d766732663e15016"), looks := false }, kinds := [], alts := [], laidByText := true, laidKinds := [.data, .pinned], laidTests := true, laidLooks := .later }
def FormParsesCardSaid : Prop := Claim7.holds Tryd.pinned (.plain (OpenSpec.ofChange formParsesSpec)) formParsesCard

/-- THE TIED CARD OF 'wicketlaw03.FormScopes'. -/
def formScopesCard : Claim7 := { stood := { row := formScopesRow, standIns := [], harness := (true, "7c88632a50787e7108f44b984d5bb00be4817f22463b1e35d766732663e15016"), looks := false }, kinds := [], alts := [], laidByText := true, laidKinds := [.data, .pinned], laidTests := true, laidLooks := .later }
def FormScopesCardSaid : Prop := Claim7.holds Tryd.pinned (.plain (OpenSpec.ofChange formScopesSpec)) formScopesCard

/-- THE TIED CARD OF 'wicketlaw03.FormJoins'. -/
def formJoinsCard : Claim7 := { stood := { row := formJoinsRow, standIns := [], harness := (true, "7c88632a50787e7108f44b984d5bb00be4817f22463b1e35d766732663e15016"), looks := false }, kinds := [], alts := [], laidByText := true, laidKinds := [.data, .pinned], laidTests := true, laidLooks := .later }
def FormJoinsCardSaid : Prop := Claim7.holds Tryd.pinned (.plain (OpenSpec.ofChange formJoinsSpec)) formJoinsCard

/-- THE TIED CARD OF 'wicketlaw03.FormOnes'. -/
def formOnesCard : Claim7 := { stood := { row := formOnesRow, standIns := [], harness := (true, "7c88632a50787e7108f44b984d5bb00be4817f22463b1e35d766732663e15016"), looks := false }, kinds := [], alts := [], laidByText := true, laidKinds := [.data, .pinned], laidTests := true, laidLooks := .later }
def FormOnesCardSaid : Prop := Claim7.holds Tryd.pinned (.plain (OpenSpec.ofChange formOnesSpec)) formOnesCard

/-- THE TIED CARD OF 'wicketlaw03.FormOrder'. -/
def formOrderCard : Claim7 := { stood := { row := formOrderRow, standIns := [], harness := (true, "7c88632a50787e7108f44b984d5bb00be4817f22463b1e35d766732663e15016"), looks := false }, kinds := [], alts := [], laidByText := true, laidKinds := [.data, .pinned], laidTests := true, laidLooks := .later }
def FormOrderCardSaid : Prop := Claim7.holds Tryd.pinned (.plain (OpenSpec.ofChange formOrderSpec)) formOrderCard

/-- THE TIED CARD OF 'wicketlaw03.FormEscapes'. -/
def formEscapesCard : Claim7 := { stood := { row := formEscapesRow, standIns := [], harness := (true, "7c88632a50787e7108f44b984d5bb00be4817f22463b1e35d766732663e15016"), looks := false }, kinds := [], alts := [], laidByText := true, laidKinds := [.data, .pinned], laidTests := true, laidLooks := .later }
def FormEscapesCardSaid : Prop := Claim7.holds Tryd.pinned (.plain (OpenSpec.ofChange formEscapesSpec)) formEscapesCard

/-- THE TIED CARD OF 'wicketlaw03.FormBack'. -/
def formBackCard : Claim7 := { stood := { row := formBackRow, standIns := [], harness := (true, "7c88632a50787e7108f44b984d5bb00be4817f22463b1e35d766732663e15016"), looks := false }, kinds := [], alts := [], laidByText := true, laidKinds := [.data, .pinned], laidTests := true, laidLooks := .later }
def FormBackCardSaid : Prop := Claim7.holds Tryd.pinned (.plain (OpenSpec.ofChange formBackSpec)) formBackCard

/-- THE TIED CARD OF 'wicketlaw03.FormAgain'. -/
def formAgainCard : Claim7 := { stood := { row := formAgainRow, standIns := [], harness := (true, "7c88632a50787e7108f44b984d5bb00be4817f22463b1e35d766732663e15016"), looks := false }, kinds := [], alts := [], laidByText := true, laidKinds := [.data, .pinned], laidTests := true, laidLooks := .later }
def FormAgainCardSaid : Prop := Claim7.holds Tryd.pinned (.plain (OpenSpec.ofChange formAgainSpec)) formAgainCard

/-- THE SECOND FORM's CARD OF 'wicketlaw03.FormNames'. -/
def formNamesUptoCard : Claim7 := { stood := { row := formNamesUptoRow, standIns := [], harness := (true, "7c88632a50787e7108f44b984d5bb00be4817f22463b1e35d766732663e15016"), looks := false }, kinds := [], alts := [], laidByText := true, laidKinds := [.data, .pinned], laidTests := true, laidLooks := .later }
def FormNamesUptoCardSaid : Prop := Claim7.holds Tryd.pinned (.plain (OpenSpec.upto formNamesSpec)) formNamesUptoCard

/-- THE SECOND FORM's CARD OF 'wicketlaw03.FormParses'. -/
def formParsesUptoCard : Claim7 := { stood := { row := formParsesUptoRow, standIns := [], harness := (true, "7c88632a50787e7108f44b984d5bb00be4817f22463b1e35d766732663e15016"), looks := false }, kinds := [], alts := [], laidByText := true, laidKinds := [.data, .pinned], laidTests := true, laidLooks := .later }
def FormParsesUptoCardSaid : Prop := Claim7.holds Tryd.pinned (.plain (OpenSpec.upto formParsesSpec)) formParsesUptoCard

/-- THE SECOND FORM's CARD OF 'wicketlaw03.FormScopes'. -/
def formScopesUptoCard : Claim7 := { stood := { row := formScopesUptoRow, standIns := [], harness := (true, "7c88632a50787e7108f44b984d5bb00be4817f22463b1e35d766732663e15016"), looks := false }, kinds := [], alts := [], laidByText := true, laidKinds := [.data, .pinned], laidTests := true, laidLooks := .later }
def FormScopesUptoCardSaid : Prop := Claim7.holds Tryd.pinned (.plain (OpenSpec.upto formScopesSpec)) formScopesUptoCard

/-- THE SECOND FORM's CARD OF 'wicketlaw03.FormJoins'. -/
def formJoinsUptoCard : Claim7 := { stood := { row := formJoinsUptoRow, standIns := [], harness := (true, "7c88632a50787e7108f44b984d5bb00be4817f22463b1e35d766732663e15016"), looks := false }, kinds := [], alts := [], laidByText := true, laidKinds := [.data, .pinned], laidTests := true, laidLooks := .later }
def FormJoinsUptoCardSaid : Prop := Claim7.holds Tryd.pinned (.plain (OpenSpec.upto formJoinsSpec)) formJoinsUptoCard

/-- THE SECOND FORM's CARD OF 'wicketlaw03.FormOnes'. -/
def formOnesUptoCard : Claim7 := { stood := { row := formOnesUptoRow, standIns := [], harness := (true, "7c88632a50787e7108f44b984d5bb00be4817f22463b1e35d766732663e15016"), looks := false }, kinds := [], alts := [], laidByText := true, laidKinds := [.data, .pinned], laidTests := true, laidLooks := .later }
def FormOnesUptoCardSaid : Prop := Claim7.holds Tryd.pinned (.plain (OpenSpec.upto formOnesSpec)) formOnesUptoCard

/-- THE SECOND FORM's CARD OF 'wicketlaw03.FormOrder'. -/
def formOrderUptoCard : Claim7 := { stood := { row := formOrderUptoRow, standIns := [], harness := (true, "7c88632a50787e7108f44b984d5bb00be4817f22463b1e35d766732663e15016"), looks := false }, kinds := [], alts := [], laidByText := true, laidKinds := [.data, .pinned], laidTests := true, laidLooks := .later }
def FormOrderUptoCardSaid : Prop := Claim7.holds Tryd.pinned (.plain (OpenSpec.upto formOrderSpec)) formOrderUptoCard

/-- THE SECOND FORM's CARD OF 'wicketlaw03.FormEscapes'. -/
def formEscapesUptoCard : Claim7 := { stood := { row := formEscapesUptoRow, standIns := [], harness := (true, "7c88632a50787e7108f44b984d5bb00be4817f22463b1e35d766732663e15016"), looks := false }, kinds := [], alts := [], laidByText := true, laidKinds := [.data, .pinned], laidTests := true, laidLooks := .later }
def FormEscapesUptoCardSaid : Prop := Claim7.holds Tryd.pinned (.plain (OpenSpec.upto formEscapesSpec)) formEscapesUptoCard

/-- THE SECOND FORM's CARD OF 'wicketlaw03.FormBack'. -/
def formBackUptoCard : Claim7 := { stood := { row := formBackUptoRow, standIns := [], harness := (true, "7c88632a50787e7108f44b984d5bb00be4817f22463b1e35d766732663e15016"), looks := false }, kinds := [], alts := [], laidByText := true, laidKinds := [.data, .pinned], laidTests := true, laidLooks := .later }
def FormBackUptoCardSaid : Prop := Claim7.holds Tryd.pinned (.plain (OpenSpec.upto formBackSpec)) formBackUptoCard

/-- THE SECOND FORM's CARD OF 'wicketlaw03.FormAgain'. -/
def formAgainUptoCard : Claim7 := { stood := { row := formAgainUptoRow, standIns := [], harness := (true, "7c88632a50787e7108f44b984d5bb00be4817f22463b1e35d766732663e15016"), looks := false }, kinds := [], alts := [], laidByText := true, laidKinds := [.data, .pinned], laidTests := true, laidLooks := .later }
def FormAgainUptoCardSaid : Prop := Claim7.holds Tryd.pinned (.plain (OpenSpec.upto formAgainSpec)) formAgainUptoCard
end Rows
end Go.Proofs.YtgfnjdpbahecdaaDoor
