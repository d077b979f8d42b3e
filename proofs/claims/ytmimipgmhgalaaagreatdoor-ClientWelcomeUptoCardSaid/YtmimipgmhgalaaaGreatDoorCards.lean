/-
  DERIVED. GIVEN WITH THE SEED: THE CARDS: each row of YtmimipgmhgalaaaGreatDoorRows.lean that lists a variable, with what it lists TIED to the program's text (the seventh form; the later family's looks); each row that meets fmt, with fmt's text TOLD by the authors' own Lean function (tested against real Go, not proved from fmt's source: count such statements apart). THE CARD IS WHAT COUNTS. Prove the row's statement (the work); the ties are given (YtmimipgmhgalaaaGreatDoorTie.lean); close each card by the builder's one call (the guide's Derived/Test/ToyasCard.lean, 'card_holds'). Laid BY PROGRAM, IN A SANDBOX (cutbox-door.mjs). By AI agents, Wed Nov 11 2026. No macro, syntax, notation, axiom, sorry.
-/
import Derived.Test.YtmimipgmhgalaaaGreatDoorRows
import GoSem.ClaimSeven
namespace Go.Proofs.YtmimipgmhgalaaaGreatDoor
namespace Rows

/-- THE TIED CARD OF 'wicketlaw11.ClientPrints'. -/
def clientPrintsCard : Claim7 := { stood := { row := clientPrintsRow, standIns := [], harness := (true, "4d32379cf81a8bab9f666e6dd02c48a9297b8bca0b839713f7423c524597d9a4"), looks := false }, kinds := [], alts := [], laidByText := true, laidKinds := [.data, .data, .data, .pinned, .pinned], laidTests := true, laidLooks := .later }
def ClientPrintsCardSaid : Prop := Claim7.holds Tryz.pinned (.plain (OpenSpec.ofChange clientPrintsSpec)) clientPrintsCard

/-- THE TIED CARD OF 'wicketlaw11.ClientBack'. -/
def clientBackCard : Claim7 := { stood := { row := clientBackRow, standIns := [], harness := (true, "4d32379cf81a8bab9f666e6dd02c48a9297b8bca0b839713f7423c524597d9a4"), looks := false }, kinds := [], alts := [], laidByText := true, laidKinds := [.data, .data, .data, .pinned, .pinned], laidTests := true, laidLooks := .later }
def ClientBackCardSaid : Prop := Claim7.holds Tryz.pinned (.plain (OpenSpec.ofChange clientBackSpec)) clientBackCard

/-- THE TIED CARD OF 'wicketlaw11.ClientNames'. -/
def clientNamesCard : Claim7 := { stood := { row := clientNamesRow, standIns := [], harness := (true, "4d32379cf81a8bab9f666e6dd02c48a9297b8bca0b839713f7423c524597d9a4"), looks := false }, kinds := [], alts := [], laidByText := true, laidKinds := [.data, .data, .data, .pinned, .pinned], laidTests := true, laidLooks := .later }
def ClientNamesCardSaid : Prop := Claim7.holds Tryz.pinned (.plain (OpenSpec.ofChange clientNamesSpec)) clientNamesCard

/-- THE TIED CARD OF 'wicketlaw11.ClientChecks'. -/
def clientChecksCard : Claim7 := { stood := { row := clientChecksRow, standIns := [], harness := (true, "4d32379cf81a8bab9f666e6dd02c48a9297b8bca0b839713f7423c524597d9a4"), looks := false }, kinds := [], alts := [], laidByText := true, laidKinds := [.data, .data, .data, .pinned, .pinned], laidTests := true, laidLooks := .later }
def ClientChecksCardSaid : Prop := Claim7.holds Tryz.pinned (.plain (OpenSpec.ofChange clientChecksSpec)) clientChecksCard

/-- THE TIED CARD OF 'wicketlaw11.ClientParses'. -/
def clientParsesCard : Claim7 := { stood := { row := clientParsesRow, standIns := [], harness := (true, "4d32379cf81a8bab9f666e6dd02c48a9297b8bca0b839713f7423c524597d9a4"), looks := false }, kinds := [], alts := [], laidByText := true, laidKinds := [.data, .data, .data, .pinned, .pinned], laidTests := true, laidLooks := .later }
def ClientParsesCardSaid : Prop := Claim7.holds Tryz.pinned (.plain (OpenSpec.ofChange clientParsesSpec)) clientParsesCard

/-- THE TIED CARD OF 'wicketlaw11.ClientFinds'. -/
def clientFindsCard : Claim7 := { stood := { row := clientFindsRow, standIns := [], harness := (true, "4d32379cf81a8bab9f666e6dd02c48a9297b8bca0b839713f7423c524597d9a4"), looks := false }, kinds := [], alts := [], laidByText := true, laidKinds := [.data, .data, .data, .pinned, .pinned], laidTests := true, laidLooks := .later }
def ClientFindsCardSaid : Prop := Claim7.holds Tryz.pinned (.plain (OpenSpec.ofChange clientFindsSpec)) clientFindsCard

/-- THE TIED CARD OF 'wicketlaw11.ClientBasics'. -/
def clientBasicsCard : Claim7 := { stood := { row := clientBasicsRow, standIns := [], harness := (true, "4d32379cf81a8bab9f666e6dd02c48a9297b8bca0b839713f7423c524597d9a4"), looks := false }, kinds := [], alts := [], laidByText := true, laidKinds := [.data, .data, .data, .pinned, .pinned], laidTests := true, laidLooks := .later }
def ClientBasicsCardSaid : Prop := Claim7.holds Tryz.pinned (.plain (OpenSpec.ofChange clientBasicsSpec)) clientBasicsCard

/-- THE TIED CARD OF 'wicketlaw11.ClientShows'. -/
def clientShowsCard : Claim7 := { stood := { row := clientShowsRow, standIns := [], harness := (true, "4d32379cf81a8bab9f666e6dd02c48a9297b8bca0b839713f7423c524597d9a4"), looks := false }, kinds := [], alts := [], laidByText := true, laidKinds := [.data, .data, .data, .pinned, .pinned], laidTests := true, laidLooks := .later }
def ClientShowsCardSaid : Prop := Claim7.holds Tryz.pinned (.plain (OpenSpec.ofChange clientShowsSpec)) clientShowsCard

/-- THE TIED CARD OF 'wicketlaw11.ClientScopes'. -/
def clientScopesCard : Claim7 := { stood := { row := clientScopesRow, standIns := [], harness := (true, "4d32379cf81a8bab9f666e6dd02c48a9297b8bca0b839713f7423c524597d9a4"), looks := false }, kinds := [], alts := [], laidByText := true, laidKinds := [.data, .data, .data, .pinned, .pinned], laidTests := true, laidLooks := .later }
def ClientScopesCardSaid : Prop := Claim7.holds Tryz.pinned (.plain (OpenSpec.ofChange clientScopesSpec)) clientScopesCard

/-- THE TIED CARD OF 'wicketlaw11.ClientProof'. -/
def clientProofCard : Claim7 := { stood := { row := clientProofRow, standIns := [], harness := (true, "4d32379cf81a8bab9f666e6dd02c48a9297b8bca0b839713f7423c524597d9a4"), looks := false }, kinds := [], alts := [], laidByText := true, laidKinds := [.data, .data, .data, .pinned, .pinned], laidTests := true, laidLooks := .later }
def ClientProofCardSaid : Prop := Claim7.holds Tryz.pinned (.plain (OpenSpec.ofChange clientProofSpec)) clientProofCard

/-- THE TIED CARD OF 'wicketlaw11.ClientWelcome'. -/
def clientWelcomeCard : Claim7 := { stood := { row := clientWelcomeRow, standIns := [], harness := (true, "4d32379cf81a8bab9f666e6dd02c48a9297b8bca0b839713f7423c524597d9a4"), looks := false }, kinds := [], alts := [], laidByText := true, laidKinds := [.data, .data, .data, .pinned, .pinned], laidTests := true, laidLooks := .later }
def ClientWelcomeCardSaid : Prop := Claim7.holds Tryz.pinned (.plain (OpenSpec.ofChange clientWelcomeSpec)) clientWelcomeCard

/-- THE TIED CARD OF 'wicketlaw11.ClientWithin'. -/
def clientWithinCard : Claim7 := { stood := { row := clientWithinRow, standIns := [], harness := (true, "4d32379cf81a8bab9f666e6dd02c48a9297b8bca0b839713f7423c524597d9a4"), looks := false }, kinds := [], alts := [], laidByText := true, laidKinds := [.data, .data, .data, .pinned, .pinned], laidTests := true, laidLooks := .later }
def ClientWithinCardSaid : Prop := Claim7.holds Tryz.pinned (.plain (OpenSpec.ofChange clientWithinSpec)) clientWithinCard

/-- THE SECOND FORM's CARD OF 'wicketlaw11.ClientPrints'. -/
def clientPrintsUptoCard : Claim7 := { stood := { row := clientPrintsUptoRow, standIns := [], harness := (true, "4d32379cf81a8bab9f666e6dd02c48a9297b8bca0b839713f7423c524597d9a4"), looks := false }, kinds := [], alts := [], laidByText := true, laidKinds := [.data, .data, .data, .pinned, .pinned], laidTests := true, laidLooks := .later }
def ClientPrintsUptoCardSaid : Prop := Claim7.holds Tryz.pinned (.plain (OpenSpec.upto clientPrintsSpec)) clientPrintsUptoCard

/-- THE SECOND FORM's CARD OF 'wicketlaw11.ClientBack'. -/
def clientBackUptoCard : Claim7 := { stood := { row := clientBackUptoRow, standIns := [], harness := (true, "4d32379cf81a8bab9f666e6dd02c48a9297b8bca0b839713f7423c524597d9a4"), looks := false }, kinds := [], alts := [], laidByText := true, laidKinds := [.data, .data, .data, .pinned, .pinned], laidTests := true, laidLooks := .later }
def ClientBackUptoCardSaid : Prop := Claim7.holds Tryz.pinned (.plain (OpenSpec.upto clientBackSpec)) clientBackUptoCard

/-- THE SECOND FORM's CARD OF 'wicketlaw11.ClientNames'. -/
def clientNamesUptoCard : Claim7 := { stood := { row := clientNamesUptoRow, standIns := [], harness := (true, "4d32379cf81a8bab9f666e6dd02c48a9297b8bca0b839713f7423c524597d9a4"), looks := false }, kinds := [], alts := [], laidByText := true, laidKinds := [.data, .data, .data, .pinned, .pinned], laidTests := true, laidLooks := .later }
def ClientNamesUptoCardSaid : Prop := Claim7.holds Tryz.pinned (.plain (OpenSpec.upto clientNamesSpec)) clientNamesUptoCard

/-- THE SECOND FORM's CARD OF 'wicketlaw11.ClientChecks'. -/
def clientChecksUptoCard : Claim7 := { stood := { row := clientChecksUptoRow, standIns := [], harness := (true, "4d32379cf81a8bab9f666e6dd02c48a9297b8bca0b839713f7423c524597d9a4"), looks := false }, kinds := [], alts := [], laidByText := true, laidKinds := [.data, .data, .data, .pinned, .pinned], laidTests := true, laidLooks := .later }
def ClientChecksUptoCardSaid : Prop := Claim7.holds Tryz.pinned (.plain (OpenSpec.upto clientChecksSpec)) clientChecksUptoCard

/-- THE SECOND FORM's CARD OF 'wicketlaw11.ClientParses'. -/
def clientParsesUptoCard : Claim7 := { stood := { row := clientParsesUptoRow, standIns := [], harness := (true, "4d32379cf81a8bab9f666e6dd02c48a9297b8bca0b839713f7423c524597d9a4"), looks := false }, kinds := [], alts := [], laidByText := true, laidKinds := [.data, .data, .data, .pinned, .pinned], laidTests := true, laidLooks := .later }
def ClientParsesUptoCardSaid : Prop := Claim7.holds Tryz.pinned (.plain (OpenSpec.upto clientParsesSpec)) clientParsesUptoCard

/-- THE SECOND FORM's CARD OF 'wicketlaw11.ClientFinds'. -/
def clientFindsUptoCard : Claim7 := { stood := { row := clientFindsUptoRow, standIns := [], harness := (true, "4d32379cf81a8bab9f666e6dd02c48a9297b8bca0b839713f7423c524597d9a4"), looks := false }, kinds := [], alts := [], laidByText := true, laidKinds := [.data, .data, .data, .pinned, .pinned], laidTests := true, laidLooks := .later }
def ClientFindsUptoCardSaid : Prop := Claim7.holds Tryz.pinned (.plain (OpenSpec.upto clientFindsSpec)) clientFindsUptoCard

/-- THE SECOND FORM's CARD OF 'wicketlaw11.ClientBasics'. -/
def clientBasicsUptoCard : Claim7 := { stood := { row := clientBasicsUptoRow, standIns := [], harness := (true, "4d32379cf81a8bab9f666e6dd02c48a9297b8bca0b839713f7423c524597d9a4"), looks := false }, kinds := [], alts := [], laidByText := true, laidKinds := [.data, .data, .data, .pinned, .pinned], laidTests := true, laidLooks := .later }
def ClientBasicsUptoCardSaid : Prop := Claim7.holds Tryz.pinned (.plain (OpenSpec.upto clientBasicsSpec)) clientBasicsUptoCard

/-- THE SECOND FORM's CARD OF 'wicketlaw11.ClientShows'. -/
def clientShowsUptoCard : Claim7 := { stood := { row := clientShowsUptoRow, standIns := [], harness := (true, "4d32379cf81a8bab9f666e6dd02c48a9297b8bca0b839713f7423c524597d9a4"), looks := false }, kinds := [], alts := [], laidByText := true, laidKinds := [.data, .data, .data, .pinned, .pinned], laidTests := true, laidLooks := .later }
def ClientShowsUptoCardSaid : Prop := Claim7.holds Tryz.pinned (.plain (OpenSpec.upto clientShowsSpec)) clientShowsUptoCard

/-- THE SECOND FORM's CARD OF 'wicketlaw11.ClientScopes'. -/
def clientScopesUptoCard : Claim7 := { stood := { row := clientScopesUptoRow, standIns := [], harness := (true, "4d32379cf81a8bab9f666e6dd02c48a9297b8bca0b839713f7423c524597d9a4"), looks := false }, kinds := [], alts := [], laidByText := true, laidKinds := [.data, .data, .data, .pinned, .pinned], laidTests := true, laidLooks := .later }
def ClientScopesUptoCardSaid : Prop := Claim7.holds Tryz.pinned (.plain (OpenSpec.upto clientScopesSpec)) clientScopesUptoCard

/-- THE SECOND FORM's CARD OF 'wicketlaw11.ClientProof'. -/
def clientProofUptoCard : Claim7 := { stood := { row := clientProofUptoRow, standIns := [], harness := (true, "4d32379cf81a8bab9f666e6dd02c48a9297b8bca0b839713f7423c524597d9a4"), looks := false }, kinds := [], alts := [], laidByText := true, laidKinds := [.data, .data, .data, .pinned, .pinned], laidTests := true, laidLooks := .later }
def ClientProofUptoCardSaid : Prop := Claim7.holds Tryz.pinned (.plain (OpenSpec.upto clientProofSpec)) clientProofUptoCard

/-- THE SECOND FORM's CARD OF 'wicketlaw11.ClientWelcome'. -/
def clientWelcomeUptoCard : Claim7 := { stood := { row := clientWelcomeUptoRow, standIns := [], harness := (true, "4d32379cf81a8bab9f666e6dd02c48a9297b8bca0b839713f7423c524597d9a4"), looks := false }, kinds := [], alts := [], laidByText := true, laidKinds := [.data, .data, .data, .pinned, .pinned], laidTests := true, laidLooks := .later }
def ClientWelcomeUptoCardSaid : Prop := Claim7.holds Tryz.pinned (.plain (OpenSpec.upto clientWelcomeSpec)) clientWelcomeUptoCard

/-- THE SECOND FORM's CARD OF 'wicketlaw11.ClientWithin'. -/
def clientWithinUptoCard : Claim7 := { stood := { row := clientWithinUptoRow, standIns := [], harness := (true, "4d32379cf81a8bab9f666e6dd02c48a9297b8bca0b839713f7423c524597d9a4"), looks := false }, kinds := [], alts := [], laidByText := true, laidKinds := [.data, .data, .data, .pinned, .pinned], laidTests := true, laidLooks := .later }
def ClientWithinUptoCardSaid : Prop := Claim7.holds Tryz.pinned (.plain (OpenSpec.upto clientWithinSpec)) clientWithinUptoCard
end Rows
end Go.Proofs.YtmimipgmhgalaaaGreatDoor
