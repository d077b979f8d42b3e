/-
  No cell of these rows narrows 'for every input' (looked for: loops, veiled, ifaces, maps, wideKeys, modest, calm, conditions, laid).
  DERIVED. THE GIVEN ROWS OF THIS SEAT. 8 by the template 'for every input the law returns true; each argument reads behind the call as it read before'; 0 by the template 'total and deterministic' (their statements: YtaeipffenlkjpaaTotals.lean).
  GIVEN WITH THE SEED: the statements are not yours to turn. If you find one false, say at which input.
  Laid BY PROGRAM, IN A SANDBOX (cutbox-rows.mjs): the forced cells as the released guide's own fill.sh prints them over the translation ba9f6b87bf665c25… (all of the seat's roots in one cut). By AI agents, Wed Nov 11 2026. No macro, syntax, notation, axiom, sorry.
-/
import Derived.Test.YtaeipffenlkjpaaChecked
import GoSem.Claim
import GoSem.ClaimJoined
import GoSem.ClaimMapViews
import Derived.JoinedTies
import Derived.KernelRfl
namespace Go.Proofs.Ytaeipffenlkjpaa
/- THE CELL 'sum', in the pinned program and in every row, IS THE sha256 OF THE DUMP (.gsa) THAT YtaeipffenlkjpaaProg.lean LOADS. Nothing in Lean hashes anything: it is a label: what it is worth is what the hold of that sum in a sandbox is worth. -/
noncomputable def Try.pinned : Pinned := { name := "ytaeipffenlkjpaa", sum := "ba9f6b87bf665c2567f5ee78712a0c4880d2f091c67eea2da121f9b36a13f5e2", checked := Try.checked }
namespace Rows
def none {H : Type} : Left H := { results := [], args := [] }

/-- 'wicketlaw09.CodesNames': WHATEVER THE INPUT: true; the input reads as it did. -/
def codesNamesSpec : ChangeSpec := { name := "codesNames", fn := fun _ => fun
  | [] => { results := [.lit (.bool true)], args := [] }
  | _ => none }
def codesNamesRow : OpenClaim := { program := "ytaeipffenlkjpaa", sum := "ba9f6b87bf665c2567f5ee78712a0c4880d2f091c67eea2da121f9b36a13f5e2", func := "wicket/wicketlaw09.CodesNames", spec := "codesNames", inPlace := ["internal/bytealg.IndexByteString", "internal/bytealg.IndexString"], unfollowed := true, recurses := true, named := ["internal/bytealg.MaxLen"], apart := false }
def CodesNamesSaid : Prop := codesNamesRow.holds Try.pinned (OpenSpec.ofChange codesNamesSpec)

/-- ITS FALSE NEIGHBOUR: 'it returns false'. Refute it at one input. -/
def codesNamesWrong : ChangeSpec := { name := "codesNames", fn := fun _ => fun
  | [] => { results := [.lit (.bool false)], args := [] }
  | _ => none }
def CodesNamesWrongFalsely : Prop := codesNamesRow.holds Try.pinned (OpenSpec.ofChange codesNamesWrong)

/-- 'wicketlaw09.CodesShows': WHATEVER THE INPUT: true; the input reads as it did. -/
def codesShowsSpec : ChangeSpec := { name := "codesShows", fn := fun _ => fun
  | [d] => { results := [.lit (.bool true)], args := [d] }
  | _ => none }
def codesShowsRow : OpenClaim := { program := "ytaeipffenlkjpaa", sum := "ba9f6b87bf665c2567f5ee78712a0c4880d2f091c67eea2da121f9b36a13f5e2", func := "wicket/wicketlaw09.CodesShows", spec := "codesShows", inPlace := ["internal/bytealg.IndexByteString", "internal/bytealg.IndexString"], unfollowed := true, recurses := true, named := ["internal/bytealg.MaxLen"], apart := false }
def CodesShowsSaid : Prop := codesShowsRow.holds Try.pinned (OpenSpec.ofChange codesShowsSpec)

/-- ITS FALSE NEIGHBOUR: 'it returns false'. Refute it at one input. -/
def codesShowsWrong : ChangeSpec := { name := "codesShows", fn := fun _ => fun
  | [d] => { results := [.lit (.bool false)], args := [d] }
  | _ => none }
def CodesShowsWrongFalsely : Prop := codesShowsRow.holds Try.pinned (OpenSpec.ofChange codesShowsWrong)

/-- 'wicketlaw09.CodesTyped': WHATEVER THE INPUT: true; the input reads as it did. -/
def codesTypedSpec : ChangeSpec := { name := "codesTyped", fn := fun _ => fun
  | [d1, d2] => { results := [.lit (.bool true)], args := [d1, d2] }
  | _ => none }
def codesTypedRow : OpenClaim := { program := "ytaeipffenlkjpaa", sum := "ba9f6b87bf665c2567f5ee78712a0c4880d2f091c67eea2da121f9b36a13f5e2", func := "wicket/wicketlaw09.CodesTyped", spec := "codesTyped", inPlace := ["internal/bytealg.IndexByteString", "internal/bytealg.IndexString"], unfollowed := true, recurses := true, named := ["internal/bytealg.MaxLen"], apart := false }
def CodesTypedSaid : Prop := codesTypedRow.holds Try.pinned (OpenSpec.ofChange codesTypedSpec)

/-- ITS FALSE NEIGHBOUR: 'it returns false'. Refute it at one input. -/
def codesTypedWrong : ChangeSpec := { name := "codesTyped", fn := fun _ => fun
  | [d1, d2] => { results := [.lit (.bool false)], args := [d1, d2] }
  | _ => none }
def CodesTypedWrongFalsely : Prop := codesTypedRow.holds Try.pinned (OpenSpec.ofChange codesTypedWrong)

/-- 'wicketlaw09.CodesAll': WHATEVER THE INPUT: true; the input reads as it did. -/
def codesAllSpec : ChangeSpec := { name := "codesAll", fn := fun _ => fun
  | [d1, d2] => { results := [.lit (.bool true)], args := [d1, d2] }
  | _ => none }
def codesAllRow : OpenClaim := { program := "ytaeipffenlkjpaa", sum := "ba9f6b87bf665c2567f5ee78712a0c4880d2f091c67eea2da121f9b36a13f5e2", func := "wicket/wicketlaw09.CodesAll", spec := "codesAll", inPlace := ["internal/bytealg.IndexByteString", "internal/bytealg.IndexString"], unfollowed := true, recurses := true, named := ["internal/bytealg.MaxLen"], apart := false }
def CodesAllSaid : Prop := codesAllRow.holds Try.pinned (OpenSpec.ofChange codesAllSpec)

/-- ITS FALSE NEIGHBOUR: 'it returns false'. Refute it at one input. -/
def codesAllWrong : ChangeSpec := { name := "codesAll", fn := fun _ => fun
  | [d1, d2] => { results := [.lit (.bool false)], args := [d1, d2] }
  | _ => none }
def CodesAllWrongFalsely : Prop := codesAllRow.holds Try.pinned (OpenSpec.ofChange codesAllWrong)

/-- 'wicketlaw09.CodesApart': WHATEVER THE INPUT: true; the input reads as it did. -/
def codesApartSpec : ChangeSpec := { name := "codesApart", fn := fun _ => fun
  | [d1, d2] => { results := [.lit (.bool true)], args := [d1, d2] }
  | _ => none }
def codesApartRow : OpenClaim := { program := "ytaeipffenlkjpaa", sum := "ba9f6b87bf665c2567f5ee78712a0c4880d2f091c67eea2da121f9b36a13f5e2", func := "wicket/wicketlaw09.CodesApart", spec := "codesApart", inPlace := ["internal/bytealg.IndexByteString", "internal/bytealg.IndexString"], unfollowed := true, recurses := true, named := ["internal/bytealg.MaxLen"], apart := false }
def CodesApartSaid : Prop := codesApartRow.holds Try.pinned (OpenSpec.ofChange codesApartSpec)

/-- ITS FALSE NEIGHBOUR: 'it returns false'. Refute it at one input. -/
def codesApartWrong : ChangeSpec := { name := "codesApart", fn := fun _ => fun
  | [d1, d2] => { results := [.lit (.bool false)], args := [d1, d2] }
  | _ => none }
def CodesApartWrongFalsely : Prop := codesApartRow.holds Try.pinned (OpenSpec.ofChange codesApartWrong)

/-- 'wicketlaw09.CodesDraws': WHATEVER THE INPUT: true; the input reads as it did. -/
def codesDrawsSpec : ChangeSpec := { name := "codesDraws", fn := fun _ => fun
  | [d1, d2] => { results := [.lit (.bool true)], args := [d1, d2] }
  | _ => none }
def codesDrawsRow : OpenClaim := { program := "ytaeipffenlkjpaa", sum := "ba9f6b87bf665c2567f5ee78712a0c4880d2f091c67eea2da121f9b36a13f5e2", func := "wicket/wicketlaw09.CodesDraws", spec := "codesDraws", inPlace := ["internal/bytealg.IndexByteString", "internal/bytealg.IndexString"], unfollowed := true, recurses := true, named := ["internal/bytealg.MaxLen"], apart := false }
def CodesDrawsSaid : Prop := codesDrawsRow.holds Try.pinned (OpenSpec.ofChange codesDrawsSpec)

/-- ITS FALSE NEIGHBOUR: 'it returns false'. Refute it at one input. -/
def codesDrawsWrong : ChangeSpec := { name := "codesDraws", fn := fun _ => fun
  | [d1, d2] => { results := [.lit (.bool false)], args := [d1, d2] }
  | _ => none }
def CodesDrawsWrongFalsely : Prop := codesDrawsRow.holds Try.pinned (OpenSpec.ofChange codesDrawsWrong)

/-- 'wicketlaw09.CodesPieces': WHATEVER THE INPUT: true; the input reads as it did. -/
def codesPiecesSpec : ChangeSpec := { name := "codesPieces", fn := fun _ => fun
  | [d1, d2, d3] => { results := [.lit (.bool true)], args := [d1, d2, d3] }
  | _ => none }
def codesPiecesRow : OpenClaim := { program := "ytaeipffenlkjpaa", sum := "ba9f6b87bf665c2567f5ee78712a0c4880d2f091c67eea2da121f9b36a13f5e2", func := "wicket/wicketlaw09.CodesPieces", spec := "codesPieces", inPlace := ["internal/bytealg.IndexByteString", "internal/bytealg.IndexString"], unfollowed := true, recurses := true, named := ["internal/bytealg.MaxLen"], apart := false }
def CodesPiecesSaid : Prop := codesPiecesRow.holds Try.pinned (OpenSpec.ofChange codesPiecesSpec)

/-- ITS FALSE NEIGHBOUR: 'it returns false'. Refute it at one input. -/
def codesPiecesWrong : ChangeSpec := { name := "codesPieces", fn := fun _ => fun
  | [d1, d2, d3] => { results := [.lit (.bool false)], args := [d1, d2, d3] }
  | _ => none }
def CodesPiecesWrongFalsely : Prop := codesPiecesRow.holds Try.pinned (OpenSpec.ofChange codesPiecesWrong)

/-- 'wicketlaw09.CodesNil': WHATEVER THE INPUT: true; the input reads as it did. -/
def codesNilSpec : ChangeSpec := { name := "codesNil", fn := fun _ => fun
  | [d] => { results := [.lit (.bool true)], args := [d] }
  | _ => none }
def codesNilRow : OpenClaim := { program := "ytaeipffenlkjpaa", sum := "ba9f6b87bf665c2567f5ee78712a0c4880d2f091c67eea2da121f9b36a13f5e2", func := "wicket/wicketlaw09.CodesNil", spec := "codesNil", inPlace := ["internal/bytealg.IndexByteString", "internal/bytealg.IndexString"], unfollowed := true, recurses := true, named := ["internal/bytealg.MaxLen"], apart := false }
def CodesNilSaid : Prop := codesNilRow.holds Try.pinned (OpenSpec.ofChange codesNilSpec)

/-- ITS FALSE NEIGHBOUR: 'it returns false'. Refute it at one input. -/
def codesNilWrong : ChangeSpec := { name := "codesNil", fn := fun _ => fun
  | [d] => { results := [.lit (.bool false)], args := [d] }
  | _ => none }
def CodesNilWrongFalsely : Prop := codesNilRow.holds Try.pinned (OpenSpec.ofChange codesNilWrong)

/- THE SECOND FORM. 'bulk': how many values and letters a reading holds, each counted each time it is reached (what is shared counts as often as it is met; a slice's spare places count too). A statement '..UptoSaid' is the law's where the arguments, and the package variables that the reading takes, are together of bulk at most 1048576: NARROWER than '..Said'. Prove '..Said' where nothing that the law and all that it calls make is longer than what came in: it says more and counts as full. Else prove '..UptoSaid'. A law counts once. -/
mutual
def uptoBulk {H : Type} : DataW H → Nat
  | .lit (.string bytes) => bytes.length + 1
  | .lit _ => 1
  | .nil => 1
  | .ptr d => uptoBulk d + 1
  | .slice elems spare => uptoBulkAll elems + uptoBulkAll spare + 1
  | .agg parts => uptoBulkAll parts + 1
  | .iface _ d => uptoBulk d + 1
  | .map entries => uptoBulkEntries entries + 1
  | .held _ => 1
def uptoBulkAll {H : Type} : List (DataW H) → Nat
  | [] => 0
  | d :: r => uptoBulk d + uptoBulkAll r
def uptoBulkEntries {H : Type} : List (Lit × DataW H) → Nat
  | [] => 0
  | x :: r => uptoBulkEntry x + uptoBulkEntries r
def uptoBulkEntry {H : Type} : Lit × DataW H → Nat
  | (.string bytes, d) => bytes.length + uptoBulk d + 1
  | (_, d) => uptoBulk d + 1
 end
def uptoSmall : (H : Type) → List (DataW H) → Bool := fun _ ds => decide (uptoBulkAll ds ≤ 1048576)
def OpenSpec.upto (s : _root_.Go.ChangeSpec) : _root_.Go.OpenSpec := { _root_.Go.OpenSpec.ofChange s with cond := some uptoSmall }

/-- 'wicketlaw09.CodesNames', WHERE WHAT IT READS IS OF BULK AT MOST 1048576: true; the input reads as it did. -/
def codesNamesUptoRow : OpenClaim := { program := "ytaeipffenlkjpaa", sum := "ba9f6b87bf665c2567f5ee78712a0c4880d2f091c67eea2da121f9b36a13f5e2", func := "wicket/wicketlaw09.CodesNames", spec := "codesNames", inPlace := ["internal/bytealg.IndexByteString", "internal/bytealg.IndexString"], unfollowed := true, recurses := true, named := ["internal/bytealg.MaxLen"], apart := false, narrowed := true }
def CodesNamesUptoSaid : Prop := codesNamesUptoRow.holds Try.pinned (OpenSpec.upto codesNamesSpec)

/-- 'wicketlaw09.CodesShows', WHERE WHAT IT READS IS OF BULK AT MOST 1048576: true; the input reads as it did. -/
def codesShowsUptoRow : OpenClaim := { program := "ytaeipffenlkjpaa", sum := "ba9f6b87bf665c2567f5ee78712a0c4880d2f091c67eea2da121f9b36a13f5e2", func := "wicket/wicketlaw09.CodesShows", spec := "codesShows", inPlace := ["internal/bytealg.IndexByteString", "internal/bytealg.IndexString"], unfollowed := true, recurses := true, named := ["internal/bytealg.MaxLen"], apart := false, narrowed := true }
def CodesShowsUptoSaid : Prop := codesShowsUptoRow.holds Try.pinned (OpenSpec.upto codesShowsSpec)

/-- 'wicketlaw09.CodesTyped', WHERE WHAT IT READS IS OF BULK AT MOST 1048576: true; the input reads as it did. -/
def codesTypedUptoRow : OpenClaim := { program := "ytaeipffenlkjpaa", sum := "ba9f6b87bf665c2567f5ee78712a0c4880d2f091c67eea2da121f9b36a13f5e2", func := "wicket/wicketlaw09.CodesTyped", spec := "codesTyped", inPlace := ["internal/bytealg.IndexByteString", "internal/bytealg.IndexString"], unfollowed := true, recurses := true, named := ["internal/bytealg.MaxLen"], apart := false, narrowed := true }
def CodesTypedUptoSaid : Prop := codesTypedUptoRow.holds Try.pinned (OpenSpec.upto codesTypedSpec)

/-- 'wicketlaw09.CodesAll', WHERE WHAT IT READS IS OF BULK AT MOST 1048576: true; the input reads as it did. -/
def codesAllUptoRow : OpenClaim := { program := "ytaeipffenlkjpaa", sum := "ba9f6b87bf665c2567f5ee78712a0c4880d2f091c67eea2da121f9b36a13f5e2", func := "wicket/wicketlaw09.CodesAll", spec := "codesAll", inPlace := ["internal/bytealg.IndexByteString", "internal/bytealg.IndexString"], unfollowed := true, recurses := true, named := ["internal/bytealg.MaxLen"], apart := false, narrowed := true }
def CodesAllUptoSaid : Prop := codesAllUptoRow.holds Try.pinned (OpenSpec.upto codesAllSpec)

/-- 'wicketlaw09.CodesApart', WHERE WHAT IT READS IS OF BULK AT MOST 1048576: true; the input reads as it did. -/
def codesApartUptoRow : OpenClaim := { program := "ytaeipffenlkjpaa", sum := "ba9f6b87bf665c2567f5ee78712a0c4880d2f091c67eea2da121f9b36a13f5e2", func := "wicket/wicketlaw09.CodesApart", spec := "codesApart", inPlace := ["internal/bytealg.IndexByteString", "internal/bytealg.IndexString"], unfollowed := true, recurses := true, named := ["internal/bytealg.MaxLen"], apart := false, narrowed := true }
def CodesApartUptoSaid : Prop := codesApartUptoRow.holds Try.pinned (OpenSpec.upto codesApartSpec)

/-- 'wicketlaw09.CodesDraws', WHERE WHAT IT READS IS OF BULK AT MOST 1048576: true; the input reads as it did. -/
def codesDrawsUptoRow : OpenClaim := { program := "ytaeipffenlkjpaa", sum := "ba9f6b87bf665c2567f5ee78712a0c4880d2f091c67eea2da121f9b36a13f5e2", func := "wicket/wicketlaw09.CodesDraws", spec := "codesDraws", inPlace := ["internal/bytealg.IndexByteString", "internal/bytealg.IndexString"], unfollowed := true, recurses := true, named := ["internal/bytealg.MaxLen"], apart := false, narrowed := true }
def CodesDrawsUptoSaid : Prop := codesDrawsUptoRow.holds Try.pinned (OpenSpec.upto codesDrawsSpec)

/-- 'wicketlaw09.CodesPieces', WHERE WHAT IT READS IS OF BULK AT MOST 1048576: true; the input reads as it did. -/
def codesPiecesUptoRow : OpenClaim := { program := "ytaeipffenlkjpaa", sum := "ba9f6b87bf665c2567f5ee78712a0c4880d2f091c67eea2da121f9b36a13f5e2", func := "wicket/wicketlaw09.CodesPieces", spec := "codesPieces", inPlace := ["internal/bytealg.IndexByteString", "internal/bytealg.IndexString"], unfollowed := true, recurses := true, named := ["internal/bytealg.MaxLen"], apart := false, narrowed := true }
def CodesPiecesUptoSaid : Prop := codesPiecesUptoRow.holds Try.pinned (OpenSpec.upto codesPiecesSpec)

/-- 'wicketlaw09.CodesNil', WHERE WHAT IT READS IS OF BULK AT MOST 1048576: true; the input reads as it did. -/
def codesNilUptoRow : OpenClaim := { program := "ytaeipffenlkjpaa", sum := "ba9f6b87bf665c2567f5ee78712a0c4880d2f091c67eea2da121f9b36a13f5e2", func := "wicket/wicketlaw09.CodesNil", spec := "codesNil", inPlace := ["internal/bytealg.IndexByteString", "internal/bytealg.IndexString"], unfollowed := true, recurses := true, named := ["internal/bytealg.MaxLen"], apart := false, narrowed := true }
def CodesNilUptoSaid : Prop := codesNilUptoRow.holds Try.pinned (OpenSpec.upto codesNilSpec)

end Rows
end Go.Proofs.Ytaeipffenlkjpaa
