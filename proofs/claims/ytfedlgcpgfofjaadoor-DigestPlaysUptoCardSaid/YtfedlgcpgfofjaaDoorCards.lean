/-
  DERIVED. GIVEN WITH THE SEED: THE CARDS: each row of YtfedlgcpgfofjaaDoorRows.lean that lists a variable, with what it lists TIED to the program's text (the seventh form; the later family's looks); each row that meets fmt, with fmt's text TOLD by the authors' own Lean function (tested against real Go, not proved from fmt's source: count such statements apart). THE CARD IS WHAT COUNTS. Prove the row's statement (the work); the ties are given (YtfedlgcpgfofjaaDoorTie.lean); close each card by the builder's one call (the guide's Derived/Test/ToyasCard.lean, 'card_holds'). Laid BY PROGRAM, IN A SANDBOX (cutbox-door.mjs). By AI agents, Wed Nov 11 2026. No macro, syntax, notation, axiom, sorry.
-/
import Derived.Test.YtfedlgcpgfofjaaDoorRows
import GoSem.ClaimSeven
namespace Go.Proofs.YtfedlgcpgfofjaaDoor
namespace Rows

/-- THE TIED CARD OF 'wicketlaw02.DigestSums'. -/
def digestSumsCard : Claim7 := { stood := { row := digestSumsRow, standIns := [], harness := (true, "61fd7a734f507b7fb6d4ffe0f8175e0b8b359a4fc7a73739b5bf44415745ae4c"), looks := false }, kinds := [], alts := [], laidByText := true, laidKinds := [.data, .data, .data], laidTests := true, laidLooks := .later }
def DigestSumsCardSaid : Prop := Claim7.holds Tryd.pinned (.plain (OpenSpec.ofChange digestSumsSpec)) digestSumsCard

/-- THE TIED CARD OF 'wicketlaw02.DigestNil'. -/
def digestNilCard : Claim7 := { stood := { row := digestNilRow, standIns := [], harness := (true, "61fd7a734f507b7fb6d4ffe0f8175e0b8b359a4fc7a73739b5bf44415745ae4c"), looks := false }, kinds := [], alts := [], laidByText := true, laidKinds := [.data, .data], laidTests := true, laidLooks := .later }
def DigestNilCardSaid : Prop := Claim7.holds Tryd.pinned (.plain (OpenSpec.ofChange digestNilSpec)) digestNilCard

/-- THE TIED CARD OF 'wicketlaw02.DigestKeyed'. -/
def digestKeyedCard : Claim7 := { stood := { row := digestKeyedRow, standIns := [], harness := (true, "61fd7a734f507b7fb6d4ffe0f8175e0b8b359a4fc7a73739b5bf44415745ae4c"), looks := false }, kinds := [], alts := [], laidByText := true, laidKinds := [.data, .data], laidTests := true, laidLooks := .later }
def DigestKeyedCardSaid : Prop := Claim7.holds Tryd.pinned (.plain (OpenSpec.ofChange digestKeyedSpec)) digestKeyedCard

/-- THE TIED CARD OF 'wicketlaw02.DigestOwn'. -/
def digestOwnCard : Claim7 := { stood := { row := digestOwnRow, standIns := [], harness := (true, "61fd7a734f507b7fb6d4ffe0f8175e0b8b359a4fc7a73739b5bf44415745ae4c"), looks := false }, kinds := [], alts := [], laidByText := true, laidKinds := [.data, .data, .data], laidTests := true, laidLooks := .later }
def DigestOwnCardSaid : Prop := Claim7.holds Tryd.pinned (.plain (OpenSpec.ofChange digestOwnSpec)) digestOwnCard

/-- THE TIED CARD OF 'wicketlaw02.DigestCodes'. -/
def digestCodesCard : Claim7 := { stood := { row := digestCodesRow, standIns := [], harness := (true, "61fd7a734f507b7fb6d4ffe0f8175e0b8b359a4fc7a73739b5bf44415745ae4c"), looks := false }, kinds := [], alts := [], laidByText := true, laidKinds := [.data, .data], laidTests := true, laidLooks := .later }
def DigestCodesCardSaid : Prop := Claim7.holds Tryd.pinned (.plain (OpenSpec.ofChange digestCodesSpec)) digestCodesCard

/-- THE TIED CARD OF 'wicketlaw02.DigestBack'. -/
def digestBackCard : Claim7 := { stood := { row := digestBackRow, standIns := [], harness := (true, "61fd7a734f507b7fb6d4ffe0f8175e0b8b359a4fc7a73739b5bf44415745ae4c"), looks := false }, kinds := [], alts := [], laidByText := true, laidKinds := [.data, .data], laidTests := true, laidLooks := .later }
def DigestBackCardSaid : Prop := Claim7.holds Tryd.pinned (.plain (OpenSpec.ofChange digestBackSpec)) digestBackCard

/-- THE TIED CARD OF 'wicketlaw02.DigestMacs'. -/
def digestMacsCard : Claim7 := { stood := { row := digestMacsRow, standIns := [], harness := (true, "61fd7a734f507b7fb6d4ffe0f8175e0b8b359a4fc7a73739b5bf44415745ae4c"), looks := false }, kinds := [], alts := [], laidByText := true, laidKinds := [.data, .data, .data], laidTests := true, laidLooks := .later }
def DigestMacsCardSaid : Prop := Claim7.holds Tryd.pinned (.plain (OpenSpec.ofChange digestMacsSpec)) digestMacsCard

/-- THE TIED CARD OF 'wicketlaw02.DigestKnown'. -/
def digestKnownCard : Claim7 := { stood := { row := digestKnownRow, standIns := [], harness := (true, "61fd7a734f507b7fb6d4ffe0f8175e0b8b359a4fc7a73739b5bf44415745ae4c"), looks := false }, kinds := [], alts := [], laidByText := true, laidKinds := [.data, .data], laidTests := true, laidLooks := .later }
def DigestKnownCardSaid : Prop := Claim7.holds Tryd.pinned (.plain (OpenSpec.ofChange digestKnownSpec)) digestKnownCard

/-- THE TIED CARD OF 'wicketlaw02.DigestPlays'. -/
def digestPlaysCard : Claim7 := { stood := { row := digestPlaysRow, standIns := [], harness := (true, "61fd7a734f507b7fb6d4ffe0f8175e0b8b359a4fc7a73739b5bf44415745ae4c"), looks := false }, kinds := [], alts := [], laidByText := true, laidKinds := [.data, .data, .data], laidTests := true, laidLooks := .later }
def DigestPlaysCardSaid : Prop := Claim7.holds Tryd.pinned (.plain (OpenSpec.ofChange digestPlaysSpec)) digestPlaysCard

/-- THE TIED CARD OF 'wicketlaw02.DigestPieces'. -/
def digestPiecesCard : Claim7 := { stood := { row := digestPiecesRow, standIns := [], harness := (true, "61fd7a734f507b7fb6d4ffe0f8175e0b8b359a4fc7a73739b5bf44415745ae4c"), looks := false }, kinds := [], alts := [], laidByText := true, laidKinds := [.data, .data], laidTests := true, laidLooks := .later }
def DigestPiecesCardSaid : Prop := Claim7.holds Tryd.pinned (.plain (OpenSpec.ofChange digestPiecesSpec)) digestPiecesCard

/-- THE SECOND FORM's CARD OF 'wicketlaw02.DigestSums'. -/
def digestSumsUptoCard : Claim7 := { stood := { row := digestSumsUptoRow, standIns := [], harness := (true, "61fd7a734f507b7fb6d4ffe0f8175e0b8b359a4fc7a73739b5bf44415745ae4c"), looks := false }, kinds := [], alts := [], laidByText := true, laidKinds := [.data, .data, .data], laidTests := true, laidLooks := .later }
def DigestSumsUptoCardSaid : Prop := Claim7.holds Tryd.pinned (.plain (OpenSpec.upto digestSumsSpec)) digestSumsUptoCard

/-- THE SECOND FORM's CARD OF 'wicketlaw02.DigestNil'. -/
def digestNilUptoCard : Claim7 := { stood := { row := digestNilUptoRow, standIns := [], harness := (true, "61fd7a734f507b7fb6d4ffe0f8175e0b8b359a4fc7a73739b5bf44415745ae4c"), looks := false }, kinds := [], alts := [], laidByText := true, laidKinds := [.data, .data], laidTests := true, laidLooks := .later }
def DigestNilUptoCardSaid : Prop := Claim7.holds Tryd.pinned (.plain (OpenSpec.upto digestNilSpec)) digestNilUptoCard

/-- THE SECOND FORM's CARD OF 'wicketlaw02.DigestKeyed'. -/
def digestKeyedUptoCard : Claim7 := { stood := { row := digestKeyedUptoRow, standIns := [], harness := (true, "61fd7a734f507b7fb6d4ffe0f8175e0b8b359a4fc7a73739b5bf44415745ae4c"), looks := false }, kinds := [], alts := [], laidByText := true, laidKinds := [.data, .data], laidTests := true, laidLooks := .later }
def DigestKeyedUptoCardSaid : Prop := Claim7.holds Tryd.pinned (.plain (OpenSpec.upto digestKeyedSpec)) digestKeyedUptoCard

/-- THE SECOND FORM's CARD OF 'wicketlaw02.DigestOwn'. -/
def digestOwnUptoCard : Claim7 := { stood := { row := digestOwnUptoRow, standIns := [], harness := (true, "61fd7a734f507b7fb6d4ffe0f8175e0b8b359a4fc7a73739b5bf44415745ae4c"), looks := false }, kinds := [], alts := [], laidByText := true, laidKinds := [.data, .data, .data], laidTests := true, laidLooks := .later }
def DigestOwnUptoCardSaid : Prop := Claim7.holds Tryd.pinned (.plain (OpenSpec.upto digestOwnSpec)) digestOwnUptoCard

/-- THE SECOND FORM's CARD OF 'wicketlaw02.DigestCodes'. -/
def digestCodesUptoCard : Claim7 := { stood := { row := digestCodesUptoRow, standIns := [], harness := (true, "61fd7a734f507b7fb6d4ffe0f8175e0b8b359a4fc7a73739b5bf44415745ae4c"), looks := false }, kinds := [], alts := [], laidByText := true, laidKinds := [.data, .data], laidTests := true, laidLooks := .later }
def DigestCodesUptoCardSaid : Prop := Claim7.holds Tryd.pinned (.plain (OpenSpec.upto digestCodesSpec)) digestCodesUptoCard

/-- THE SECOND FORM's CARD OF 'wicketlaw02.DigestBack'. -/
def digestBackUptoCard : Claim7 := { stood := { row := digestBackUptoRow, standIns := [], harness := (true, "61fd7a734f507b7fb6d4ffe0f8175e0b8b359a4fc7a73739b5bf44415745ae4c"), looks := false }, kinds := [], alts := [], laidByText := true, laidKinds := [.data, .data], laidTests := true, laidLooks := .later }
def DigestBackUptoCardSaid : Prop := Claim7.holds Tryd.pinned (.plain (OpenSpec.upto digestBackSpec)) digestBackUptoCard

/-- THE SECOND FORM's CARD OF 'wicketlaw02.DigestMacs'. -/
def digestMacsUptoCard : Claim7 := { stood := { row := digestMacsUptoRow, standIns := [], harness := (true, "61fd7a734f507b7fb6d4ffe0f8175e0b8b359a4fc7a73739b5bf44415745ae4c"), looks := false }, kinds := [], alts := [], laidByText := true, laidKinds := [.data, .data, .data], laidTests := true, laidLooks := .later }
def DigestMacsUptoCardSaid : Prop := Claim7.holds Tryd.pinned (.plain (OpenSpec.upto digestMacsSpec)) digestMacsUptoCard

/-- THE SECOND FORM's CARD OF 'wicketlaw02.DigestKnown'. -/
def digestKnownUptoCard : Claim7 := { stood := { row := digestKnownUptoRow, standIns := [], harness := (true, "61fd7a734f507b7fb6d4ffe0f8175e0b8b359a4fc7a73739b5bf44415745ae4c"), looks := false }, kinds := [], alts := [], laidByText := true, laidKinds := [.data, .data], laidTests := true, laidLooks := .later }
def DigestKnownUptoCardSaid : Prop := Claim7.holds Tryd.pinned (.plain (OpenSpec.upto digestKnownSpec)) digestKnownUptoCard

/-- THE SECOND FORM's CARD OF 'wicketlaw02.DigestPlays'. -/
def digestPlaysUptoCard : Claim7 := { stood := { row := digestPlaysUptoRow, standIns := [], harness := (true, "61fd7a734f507b7fb6d4ffe0f8175e0b8b359a4fc7a73739b5bf44415745ae4c"), looks := false }, kinds := [], alts := [], laidByText := true, laidKinds := [.data, .data, .data], laidTests := true, laidLooks := .later }
def DigestPlaysUptoCardSaid : Prop := Claim7.holds Tryd.pinned (.plain (OpenSpec.upto digestPlaysSpec)) digestPlaysUptoCard

/-- THE SECOND FORM's CARD OF 'wicketlaw02.DigestPieces'. -/
def digestPiecesUptoCard : Claim7 := { stood := { row := digestPiecesUptoRow, standIns := [], harness := (true, "61fd7a734f507b7fb6d4ffe0f8175e0b8b359a4fc7a73739b5bf44415745ae4c"), looks := false }, kinds := [], alts := [], laidByText := true, laidKinds := [.data, .data], laidTests := true, laidLooks := .later }
def DigestPiecesUptoCardSaid : Prop := Claim7.holds Tryd.pinned (.plain (OpenSpec.upto digestPiecesSpec)) digestPiecesUptoCard
end Rows
end Go.Proofs.YtfedlgcpgfofjaaDoor
