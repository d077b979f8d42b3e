/-
  NARROWER THAN 'FOR EVERY INPUT', by the rows' own cells (each row's printed sentence says how): FormNames: laid · FormParses: laid · FormScopes: laid · FormJoins: laid · FormOnes: laid · FormOrder: laid · FormEscapes: laid · FormBack: laid · FormAgain: laid.
  DERIVED. THE GIVEN ROWS OF THIS SEAT. 9 by the template 'for every input the law returns true; each argument reads behind the call as it read before'; 0 by the template 'total and deterministic' (their statements: YtgfnjdpbahecdaaDoorTotals.lean).
  GIVEN WITH THE SEED: the statements are not yours to turn. If you find one false, say at which input.
  Laid BY PROGRAM, IN A SANDBOX (cutbox-rows.mjs): the forced cells as the released guide's own fill.sh prints them over the translation 51fcdff64df14c09… (all of the seat's roots in one cut). By AI agents, Wed Nov 11 2026. No macro, syntax, notation, axiom, sorry.
-/
import Derived.Test.YtgfnjdpbahecdaaDoorChecked
import GoSem.PinnedTables
import GoSem.Claim
import GoSem.ClaimJoined
import GoSem.ClaimMapViews
import Derived.JoinedTies
import Derived.KernelRfl
namespace Go.Proofs.YtgfnjdpbahecdaaDoor
/- THE CELL 'sum', in the pinned program and in every row, IS THE sha256 OF THE DUMP (.gsa) THAT YtgfnjdpbahecdaaDoorProg.lean LOADS. Nothing in Lean hashes anything: it is a label: what it is worth is what the hold of that sum in a sandbox is worth. -/
noncomputable def Tryd.pinned : Pinned := { name := "ytgfnjdpbahecdaadoor", sum := "51fcdff64df14c092f5d8efaf2760a01942082df08b7f0a4bd440bd37a09a43e", checked := Tryd.checked }
namespace Rows
def none {H : Type} : Left H := { results := [], args := [] }

/- WHAT THE LISTED PACKAGE-LEVEL VARIABLES READ AS WHEN THE CALL BEGINS. Each datum BY PROGRAM (the guide's laid-datum.mjs) off the statement by which the dump's own 'gosem.cut.vars' lays the variable. In a bare row this is a premise. The card (YtgfnjdpbahecdaaDoorCards.lean) ties it to the program's text. -/
def laid_unicode_utf8_acceptRanges {H : Type} : DataW H := .agg [.agg [.lit (.int .u8 128), .lit (.int .u8 191)], .agg [.lit (.int .u8 160), .lit (.int .u8 191)], .agg [.lit (.int .u8 128), .lit (.int .u8 159)], .agg [.lit (.int .u8 144), .lit (.int .u8 191)], .agg [.lit (.int .u8 128), .lit (.int .u8 143)], .agg [.lit (.int .u8 0), .lit (.int .u8 0)], .agg [.lit (.int .u8 0), .lit (.int .u8 0)], .agg [.lit (.int .u8 0), .lit (.int .u8 0)], .agg [.lit (.int .u8 0), .lit (.int .u8 0)], .agg [.lit (.int .u8 0), .lit (.int .u8 0)], .agg [.lit (.int .u8 0), .lit (.int .u8 0)], .agg [.lit (.int .u8 0), .lit (.int .u8 0)], .agg [.lit (.int .u8 0), .lit (.int .u8 0)], .agg [.lit (.int .u8 0), .lit (.int .u8 0)], .agg [.lit (.int .u8 0), .lit (.int .u8 0)], .agg [.lit (.int .u8 0), .lit (.int .u8 0)]]
/-- One of Go's own tables, pinned by name: the form's constant. -/
def laid_unicode_utf8_first : DataW Unit := Go.Pinned.utf8First

/-- 'wicketlaw03.FormNames': WHATEVER THE INPUT: true; the input reads as it did. -/
def formNamesSpec : ChangeSpec := { name := "formNames", fn := fun _ => fun
  | [] => { results := [.lit (.bool true)], args := [] }
  | _ => none }
def formNamesRow : OpenClaim := { program := "ytgfnjdpbahecdaadoor", sum := "51fcdff64df14c092f5d8efaf2760a01942082df08b7f0a4bd440bd37a09a43e", func := "wicket/wicketlaw03.FormNames", spec := "formNames", inPlace := ["internal/bytealg.CountString", "internal/bytealg.IndexByteString", "internal/bytealg.IndexString", "internal/abi.NoEscape"], unfollowed := true, recurses := true, named := ["unicode/utf8.first", "unicode/utf8.acceptRanges", "internal/bytealg.MaxLen"], apart := false, laid := [("unicode/utf8.acceptRanges", laid_unicode_utf8_acceptRanges), ("unicode/utf8.first", laid_unicode_utf8_first)] }
def FormNamesSaid : Prop := formNamesRow.holds Tryd.pinned (OpenSpec.ofChange formNamesSpec)

/-- ITS FALSE NEIGHBOUR: 'it returns false'. Refute it at one input. -/
def formNamesWrong : ChangeSpec := { name := "formNames", fn := fun _ => fun
  | [] => { results := [.lit (.bool false)], args := [] }
  | _ => none }
def FormNamesWrongFalsely : Prop := formNamesRow.holds Tryd.pinned (OpenSpec.ofChange formNamesWrong)

/-- 'wicketlaw03.FormParses': WHATEVER THE INPUT: true; the input reads as it did. -/
def formParsesSpec : ChangeSpec := { name := "formParses", fn := fun _ => fun
  | [d] => { results := [.lit (.bool true)], args := [d] }
  | _ => none }
def formParsesRow : OpenClaim := { program := "ytgfnjdpbahecdaadoor", sum := "51fcdff64df14c092f5d8efaf2760a01942082df08b7f0a4bd440bd37a09a43e", func := "wicket/wicketlaw03.FormParses", spec := "formParses", inPlace := ["internal/bytealg.CountString", "internal/bytealg.IndexByteString", "internal/bytealg.IndexString", "internal/abi.NoEscape"], unfollowed := true, recurses := true, named := ["unicode/utf8.first", "unicode/utf8.acceptRanges", "internal/bytealg.MaxLen"], apart := false, laid := [("unicode/utf8.acceptRanges", laid_unicode_utf8_acceptRanges), ("unicode/utf8.first", laid_unicode_utf8_first)] }
def FormParsesSaid : Prop := formParsesRow.holds Tryd.pinned (OpenSpec.ofChange formParsesSpec)

/-- ITS FALSE NEIGHBOUR: 'it returns false'. Refute it at one input. -/
def formParsesWrong : ChangeSpec := { name := "formParses", fn := fun _ => fun
  | [d] => { results := [.lit (.bool false)], args := [d] }
  | _ => none }
def FormParsesWrongFalsely : Prop := formParsesRow.holds Tryd.pinned (OpenSpec.ofChange formParsesWrong)

/-- 'wicketlaw03.FormScopes': WHATEVER THE INPUT: true; the input reads as it did. -/
def formScopesSpec : ChangeSpec := { name := "formScopes", fn := fun _ => fun
  | [d] => { results := [.lit (.bool true)], args := [d] }
  | _ => none }
def formScopesRow : OpenClaim := { program := "ytgfnjdpbahecdaadoor", sum := "51fcdff64df14c092f5d8efaf2760a01942082df08b7f0a4bd440bd37a09a43e", func := "wicket/wicketlaw03.FormScopes", spec := "formScopes", inPlace := ["internal/bytealg.CountString", "internal/bytealg.IndexByteString", "internal/bytealg.IndexString", "internal/abi.NoEscape"], unfollowed := true, recurses := true, named := ["unicode/utf8.first", "unicode/utf8.acceptRanges", "internal/bytealg.MaxLen"], apart := false, laid := [("unicode/utf8.acceptRanges", laid_unicode_utf8_acceptRanges), ("unicode/utf8.first", laid_unicode_utf8_first)] }
def FormScopesSaid : Prop := formScopesRow.holds Tryd.pinned (OpenSpec.ofChange formScopesSpec)

/-- ITS FALSE NEIGHBOUR: 'it returns false'. Refute it at one input. -/
def formScopesWrong : ChangeSpec := { name := "formScopes", fn := fun _ => fun
  | [d] => { results := [.lit (.bool false)], args := [d] }
  | _ => none }
def FormScopesWrongFalsely : Prop := formScopesRow.holds Tryd.pinned (OpenSpec.ofChange formScopesWrong)

/-- 'wicketlaw03.FormJoins': WHATEVER THE INPUT: true; the input reads as it did. -/
def formJoinsSpec : ChangeSpec := { name := "formJoins", fn := fun _ => fun
  | [d1, d2] => { results := [.lit (.bool true)], args := [d1, d2] }
  | _ => none }
def formJoinsRow : OpenClaim := { program := "ytgfnjdpbahecdaadoor", sum := "51fcdff64df14c092f5d8efaf2760a01942082df08b7f0a4bd440bd37a09a43e", func := "wicket/wicketlaw03.FormJoins", spec := "formJoins", inPlace := ["internal/bytealg.CountString", "internal/bytealg.IndexByteString", "internal/bytealg.IndexString", "internal/abi.NoEscape"], unfollowed := true, recurses := true, named := ["unicode/utf8.first", "unicode/utf8.acceptRanges", "internal/bytealg.MaxLen"], apart := false, laid := [("unicode/utf8.acceptRanges", laid_unicode_utf8_acceptRanges), ("unicode/utf8.first", laid_unicode_utf8_first)] }
def FormJoinsSaid : Prop := formJoinsRow.holds Tryd.pinned (OpenSpec.ofChange formJoinsSpec)

/-- ITS FALSE NEIGHBOUR: 'it returns false'. Refute it at one input. -/
def formJoinsWrong : ChangeSpec := { name := "formJoins", fn := fun _ => fun
  | [d1, d2] => { results := [.lit (.bool false)], args := [d1, d2] }
  | _ => none }
def FormJoinsWrongFalsely : Prop := formJoinsRow.holds Tryd.pinned (OpenSpec.ofChange formJoinsWrong)

/-- 'wicketlaw03.FormOnes': WHATEVER THE INPUT: true; the input reads as it did. -/
def formOnesSpec : ChangeSpec := { name := "formOnes", fn := fun _ => fun
  | [d1, d2] => { results := [.lit (.bool true)], args := [d1, d2] }
  | _ => none }
def formOnesRow : OpenClaim := { program := "ytgfnjdpbahecdaadoor", sum := "51fcdff64df14c092f5d8efaf2760a01942082df08b7f0a4bd440bd37a09a43e", func := "wicket/wicketlaw03.FormOnes", spec := "formOnes", inPlace := ["internal/bytealg.CountString", "internal/bytealg.IndexByteString", "internal/bytealg.IndexString", "internal/abi.NoEscape"], unfollowed := true, recurses := true, named := ["unicode/utf8.first", "unicode/utf8.acceptRanges", "internal/bytealg.MaxLen"], apart := false, laid := [("unicode/utf8.acceptRanges", laid_unicode_utf8_acceptRanges), ("unicode/utf8.first", laid_unicode_utf8_first)] }
def FormOnesSaid : Prop := formOnesRow.holds Tryd.pinned (OpenSpec.ofChange formOnesSpec)

/-- ITS FALSE NEIGHBOUR: 'it returns false'. Refute it at one input. -/
def formOnesWrong : ChangeSpec := { name := "formOnes", fn := fun _ => fun
  | [d1, d2] => { results := [.lit (.bool false)], args := [d1, d2] }
  | _ => none }
def FormOnesWrongFalsely : Prop := formOnesRow.holds Tryd.pinned (OpenSpec.ofChange formOnesWrong)

/-- 'wicketlaw03.FormOrder': WHATEVER THE INPUT: true; the input reads as it did. -/
def formOrderSpec : ChangeSpec := { name := "formOrder", fn := fun _ => fun
  | [d1, d2] => { results := [.lit (.bool true)], args := [d1, d2] }
  | _ => none }
def formOrderRow : OpenClaim := { program := "ytgfnjdpbahecdaadoor", sum := "51fcdff64df14c092f5d8efaf2760a01942082df08b7f0a4bd440bd37a09a43e", func := "wicket/wicketlaw03.FormOrder", spec := "formOrder", inPlace := ["internal/bytealg.CountString", "internal/bytealg.IndexByteString", "internal/bytealg.IndexString", "internal/abi.NoEscape"], unfollowed := true, recurses := true, named := ["unicode/utf8.first", "unicode/utf8.acceptRanges", "internal/bytealg.MaxLen"], apart := false, laid := [("unicode/utf8.acceptRanges", laid_unicode_utf8_acceptRanges), ("unicode/utf8.first", laid_unicode_utf8_first)] }
def FormOrderSaid : Prop := formOrderRow.holds Tryd.pinned (OpenSpec.ofChange formOrderSpec)

/-- ITS FALSE NEIGHBOUR: 'it returns false'. Refute it at one input. -/
def formOrderWrong : ChangeSpec := { name := "formOrder", fn := fun _ => fun
  | [d1, d2] => { results := [.lit (.bool false)], args := [d1, d2] }
  | _ => none }
def FormOrderWrongFalsely : Prop := formOrderRow.holds Tryd.pinned (OpenSpec.ofChange formOrderWrong)

/-- 'wicketlaw03.FormEscapes': WHATEVER THE INPUT: true; the input reads as it did. -/
def formEscapesSpec : ChangeSpec := { name := "formEscapes", fn := fun _ => fun
  | [d] => { results := [.lit (.bool true)], args := [d] }
  | _ => none }
def formEscapesRow : OpenClaim := { program := "ytgfnjdpbahecdaadoor", sum := "51fcdff64df14c092f5d8efaf2760a01942082df08b7f0a4bd440bd37a09a43e", func := "wicket/wicketlaw03.FormEscapes", spec := "formEscapes", inPlace := ["internal/abi.NoEscape", "internal/bytealg.CountString", "internal/bytealg.IndexByteString", "internal/bytealg.IndexString"], unfollowed := true, recurses := true, named := ["unicode/utf8.first", "unicode/utf8.acceptRanges", "internal/bytealg.MaxLen"], apart := false, laid := [("unicode/utf8.acceptRanges", laid_unicode_utf8_acceptRanges), ("unicode/utf8.first", laid_unicode_utf8_first)] }
def FormEscapesSaid : Prop := formEscapesRow.holds Tryd.pinned (OpenSpec.ofChange formEscapesSpec)

/-- ITS FALSE NEIGHBOUR: 'it returns false'. Refute it at one input. -/
def formEscapesWrong : ChangeSpec := { name := "formEscapes", fn := fun _ => fun
  | [d] => { results := [.lit (.bool false)], args := [d] }
  | _ => none }
def FormEscapesWrongFalsely : Prop := formEscapesRow.holds Tryd.pinned (OpenSpec.ofChange formEscapesWrong)

/-- 'wicketlaw03.FormBack': WHATEVER THE INPUT: true; the input reads as it did. -/
def formBackSpec : ChangeSpec := { name := "formBack", fn := fun _ => fun
  | [d1, d2] => { results := [.lit (.bool true)], args := [d1, d2] }
  | _ => none }
def formBackRow : OpenClaim := { program := "ytgfnjdpbahecdaadoor", sum := "51fcdff64df14c092f5d8efaf2760a01942082df08b7f0a4bd440bd37a09a43e", func := "wicket/wicketlaw03.FormBack", spec := "formBack", inPlace := ["internal/abi.NoEscape", "internal/bytealg.CountString", "internal/bytealg.IndexByteString", "internal/bytealg.IndexString"], unfollowed := true, recurses := true, named := ["unicode/utf8.first", "unicode/utf8.acceptRanges", "internal/bytealg.MaxLen"], apart := false, laid := [("unicode/utf8.acceptRanges", laid_unicode_utf8_acceptRanges), ("unicode/utf8.first", laid_unicode_utf8_first)] }
def FormBackSaid : Prop := formBackRow.holds Tryd.pinned (OpenSpec.ofChange formBackSpec)

/-- ITS FALSE NEIGHBOUR: 'it returns false'. Refute it at one input. -/
def formBackWrong : ChangeSpec := { name := "formBack", fn := fun _ => fun
  | [d1, d2] => { results := [.lit (.bool false)], args := [d1, d2] }
  | _ => none }
def FormBackWrongFalsely : Prop := formBackRow.holds Tryd.pinned (OpenSpec.ofChange formBackWrong)

/-- 'wicketlaw03.FormAgain': WHATEVER THE INPUT: true; the input reads as it did. -/
def formAgainSpec : ChangeSpec := { name := "formAgain", fn := fun _ => fun
  | [d] => { results := [.lit (.bool true)], args := [d] }
  | _ => none }
def formAgainRow : OpenClaim := { program := "ytgfnjdpbahecdaadoor", sum := "51fcdff64df14c092f5d8efaf2760a01942082df08b7f0a4bd440bd37a09a43e", func := "wicket/wicketlaw03.FormAgain", spec := "formAgain", inPlace := ["internal/bytealg.CountString", "internal/bytealg.IndexByteString", "internal/bytealg.IndexString", "internal/abi.NoEscape"], unfollowed := true, recurses := true, named := ["unicode/utf8.first", "unicode/utf8.acceptRanges", "internal/bytealg.MaxLen"], apart := false, laid := [("unicode/utf8.acceptRanges", laid_unicode_utf8_acceptRanges), ("unicode/utf8.first", laid_unicode_utf8_first)] }
def FormAgainSaid : Prop := formAgainRow.holds Tryd.pinned (OpenSpec.ofChange formAgainSpec)

/-- ITS FALSE NEIGHBOUR: 'it returns false'. Refute it at one input. -/
def formAgainWrong : ChangeSpec := { name := "formAgain", fn := fun _ => fun
  | [d] => { results := [.lit (.bool false)], args := [d] }
  | _ => none }
def FormAgainWrongFalsely : Prop := formAgainRow.holds Tryd.pinned (OpenSpec.ofChange formAgainWrong)

/- THE SECOND FORM. 'bulk': how many values and letters a reading holds, each counted each time it is reached (what is shared counts as often as it is met; a slice's spare places count too). A statement '..UptoSaid' is the law's where the arguments, and the package variables that the reading takes, are together of bulk at most 1048576: NARROWER than '..Said'. Prove '..Said' where nothing that the law and all that it calls make is longer than what came in: it says more and counts as full. Else prove '..UptoSaid'. A law counts once. -/
mutual
def uptoBulk {H : Type} : DataW H → Nat
  | .lit (.string bytes) => bytes.length + 1
  | .lit _ => 1
  | .nil => 1
  | .ptr d => uptoBulk d + 1
  | .slice elems spare => uptoBulkAll elems + uptoBulkAll spare + 1
  | .agg parts => uptoBulkAll parts + 1
  | .iface _ d => uptoBulk d + 1
  | .map entries => uptoBulkEntries entries + 1
  | .held _ => 1
def uptoBulkAll {H : Type} : List (DataW H) → Nat
  | [] => 0
  | d :: r => uptoBulk d + uptoBulkAll r
def uptoBulkEntries {H : Type} : List (Lit × DataW H) → Nat
  | [] => 0
  | x :: r => uptoBulkEntry x + uptoBulkEntries r
def uptoBulkEntry {H : Type} : Lit × DataW H → Nat
  | (.string bytes, d) => bytes.length + uptoBulk d + 1
  | (_, d) => uptoBulk d + 1
 end
def uptoSmall : (H : Type) → List (DataW H) → Bool := fun _ ds => decide (uptoBulkAll ds ≤ 1048576)
def OpenSpec.upto (s : _root_.Go.ChangeSpec) : _root_.Go.OpenSpec := { _root_.Go.OpenSpec.ofChange s with cond := some uptoSmall }

/-- 'wicketlaw03.FormNames', WHERE WHAT IT READS IS OF BULK AT MOST 1048576: true; the input reads as it did. -/
def formNamesUptoRow : OpenClaim := { program := "ytgfnjdpbahecdaadoor", sum := "51fcdff64df14c092f5d8efaf2760a01942082df08b7f0a4bd440bd37a09a43e", func := "wicket/wicketlaw03.FormNames", spec := "formNames", inPlace := ["internal/bytealg.CountString", "internal/bytealg.IndexByteString", "internal/bytealg.IndexString", "internal/abi.NoEscape"], unfollowed := true, recurses := true, named := ["unicode/utf8.first", "unicode/utf8.acceptRanges", "internal/bytealg.MaxLen"], apart := false, laid := [("unicode/utf8.acceptRanges", laid_unicode_utf8_acceptRanges), ("unicode/utf8.first", laid_unicode_utf8_first)], narrowed := true }
def FormNamesUptoSaid : Prop := formNamesUptoRow.holds Tryd.pinned (OpenSpec.upto formNamesSpec)

/-- 'wicketlaw03.FormParses', WHERE WHAT IT READS IS OF BULK AT MOST 1048576: true; the input reads as it did. -/
def formParsesUptoRow : OpenClaim := { program := "ytgfnjdpbahecdaadoor", sum := "51fcdff64df14c092f5d8efaf2760a01942082df08b7f0a4bd440bd37a09a43e", func := "wicket/wicketlaw03.FormParses", spec := "formParses", inPlace := ["internal/bytealg.CountString", "internal/bytealg.IndexByteString", "internal/bytealg.IndexString", "internal/abi.NoEscape"], unfollowed := true, recurses := true, named := ["unicode/utf8.first", "unicode/utf8.acceptRanges", "internal/bytealg.MaxLen"], apart := false, laid := [("unicode/utf8.acceptRanges", laid_unicode_utf8_acceptRanges), ("unicode/utf8.first", laid_unicode_utf8_first)], narrowed := true }
def FormParsesUptoSaid : Prop := formParsesUptoRow.holds Tryd.pinned (OpenSpec.upto formParsesSpec)

/-- 'wicketlaw03.FormScopes', WHERE WHAT IT READS IS OF BULK AT MOST 1048576: true; the input reads as it did. -/
def formScopesUptoRow : OpenClaim := { program := "ytgfnjdpbahecdaadoor", sum := "51fcdff64df14c092f5d8efaf2760a01942082df08b7f0a4bd440bd37a09a43e", func := "wicket/wicketlaw03.FormScopes", spec := "formScopes", inPlace := ["internal/bytealg.CountString", "internal/bytealg.IndexByteString", "internal/bytealg.IndexString", "internal/abi.NoEscape"], unfollowed := true, recurses := true, named := ["unicode/utf8.first", "unicode/utf8.acceptRanges", "internal/bytealg.MaxLen"], apart := false, laid := [("unicode/utf8.acceptRanges", laid_unicode_utf8_acceptRanges), ("unicode/utf8.first", laid_unicode_utf8_first)], narrowed := true }
def FormScopesUptoSaid : Prop := formScopesUptoRow.holds Tryd.pinned (OpenSpec.upto formScopesSpec)

/-- 'wicketlaw03.FormJoins', WHERE WHAT IT READS IS OF BULK AT MOST 1048576: true; the input reads as it did. -/
def formJoinsUptoRow : OpenClaim := { program := "ytgfnjdpbahecdaadoor", sum := "51fcdff64df14c092f5d8efaf2760a01942082df08b7f0a4bd440bd37a09a43e", func := "wicket/wicketlaw03.FormJoins", spec := "formJoins", inPlace := ["internal/bytealg.CountString", "internal/bytealg.IndexByteString", "internal/bytealg.IndexString", "internal/abi.NoEscape"], unfollowed := true, recurses := true, named := ["unicode/utf8.first", "unicode/utf8.acceptRanges", "internal/bytealg.MaxLen"], apart := false, laid := [("unicode/utf8.acceptRanges", laid_unicode_utf8_acceptRanges), ("unicode/utf8.first", laid_unicode_utf8_first)], narrowed := true }
def FormJoinsUptoSaid : Prop := formJoinsUptoRow.holds Tryd.pinned (OpenSpec.upto formJoinsSpec)

/-- 'wicketlaw03.FormOnes', WHERE WHAT IT READS IS OF BULK AT MOST 1048576: true; the input reads as it did. -/
def formOnesUptoRow : OpenClaim := { program := "ytgfnjdpbahecdaadoor", sum := "51fcdff64df14c092f5d8efaf2760a01942082df08b7f0a4bd440bd37a09a43e", func := "wicket/wicketlaw03.FormOnes", spec := "formOnes", inPlace := ["internal/bytealg.CountString", "internal/bytealg.IndexByteString", "internal/bytealg.IndexString", "internal/abi.NoEscape"], unfollowed := true, recurses := true, named := ["unicode/utf8.first", "unicode/utf8.acceptRanges", "internal/bytealg.MaxLen"], apart := false, laid := [("unicode/utf8.acceptRanges", laid_unicode_utf8_acceptRanges), ("unicode/utf8.first", laid_unicode_utf8_first)], narrowed := true }
def FormOnesUptoSaid : Prop := formOnesUptoRow.holds Tryd.pinned (OpenSpec.upto formOnesSpec)

/-- 'wicketlaw03.FormOrder', WHERE WHAT IT READS IS OF BULK AT MOST 1048576: true; the input reads as it did. -/
def formOrderUptoRow : OpenClaim := { program := "ytgfnjdpbahecdaadoor", sum := "51fcdff64df14c092f5d8efaf2760a01942082df08b7f0a4bd440bd37a09a43e", func := "wicket/wicketlaw03.FormOrder", spec := "formOrder", inPlace := ["internal/bytealg.CountString", "internal/bytealg.IndexByteString", "internal/bytealg.IndexString", "internal/abi.NoEscape"], unfollowed := true, recurses := true, named := ["unicode/utf8.first", "unicode/utf8.acceptRanges", "internal/bytealg.MaxLen"], apart := false, laid := [("unicode/utf8.acceptRanges", laid_unicode_utf8_acceptRanges), ("unicode/utf8.first", laid_unicode_utf8_first)], narrowed := true }
def FormOrderUptoSaid : Prop := formOrderUptoRow.holds Tryd.pinned (OpenSpec.upto formOrderSpec)

/-- 'wicketlaw03.FormEscapes', WHERE WHAT IT READS IS OF BULK AT MOST 1048576: true; the input reads as it did. -/
def formEscapesUptoRow : OpenClaim := { program := "ytgfnjdpbahecdaadoor", sum := "51fcdff64df14c092f5d8efaf2760a01942082df08b7f0a4bd440bd37a09a43e", func := "wicket/wicketlaw03.FormEscapes", spec := "formEscapes", inPlace := ["internal/abi.NoEscape", "internal/bytealg.CountString", "internal/bytealg.IndexByteString", "internal/bytealg.IndexString"], unfollowed := true, recurses := true, named := ["unicode/utf8.first", "unicode/utf8.acceptRanges", "internal/bytealg.MaxLen"], apart := false, laid := [("unicode/utf8.acceptRanges", laid_unicode_utf8_acceptRanges), ("unicode/utf8.first", laid_unicode_utf8_first)], narrowed := true }
def FormEscapesUptoSaid : Prop := formEscapesUptoRow.holds Tryd.pinned (OpenSpec.upto formEscapesSpec)

/-- 'wicketlaw03.FormBack', WHERE WHAT IT READS IS OF BULK AT MOST 1048576: true; the input reads as it did. -/
def formBackUptoRow : OpenClaim := { program := "ytgfnjdpbahecdaadoor", sum := "51fcdff64df14c092f5d8efaf2760a01942082df08b7f0a4bd440bd37a09a43e", func := "wicket/wicketlaw03.FormBack", spec := "formBack", inPlace := ["internal/abi.NoEscape", "internal/bytealg.CountString", "internal/bytealg.IndexByteString", "internal/bytealg.IndexString"], unfollowed := true, recurses := true, named := ["unicode/utf8.first", "unicode/utf8.acceptRanges", "internal/bytealg.MaxLen"], apart := false, laid := [("unicode/utf8.acceptRanges", laid_unicode_utf8_acceptRanges), ("unicode/utf8.first", laid_unicode_utf8_first)], narrowed := true }
def FormBackUptoSaid : Prop := formBackUptoRow.holds Tryd.pinned (OpenSpec.upto formBackSpec)

/-- 'wicketlaw03.FormAgain', WHERE WHAT IT READS IS OF BULK AT MOST 1048576: true; the input reads as it did. -/
def formAgainUptoRow : OpenClaim := { program := "ytgfnjdpbahecdaadoor", sum := "51fcdff64df14c092f5d8efaf2760a01942082df08b7f0a4bd440bd37a09a43e", func := "wicket/wicketlaw03.FormAgain", spec := "formAgain", inPlace := ["internal/bytealg.CountString", "internal/bytealg.IndexByteString", "internal/bytealg.IndexString", "internal/abi.NoEscape"], unfollowed := true, recurses := true, named := ["unicode/utf8.first", "unicode/utf8.acceptRanges", "internal/bytealg.MaxLen"], apart := false, laid := [("unicode/utf8.acceptRanges", laid_unicode_utf8_acceptRanges), ("unicode/utf8.first", laid_unicode_utf8_first)], narrowed := true }
def FormAgainUptoSaid : Prop := formAgainUptoRow.holds Tryd.pinned (OpenSpec.upto formAgainSpec)

end Rows
end Go.Proofs.YtgfnjdpbahecdaaDoor
