/-
  NARROWER THAN 'FOR EVERY INPUT', by the rows' own cells (each row's printed sentence says how): DigestSums: laid · DigestNil: laid · DigestKeyed: laid · DigestOwn: laid · DigestCodes: laid · DigestBack: laid · DigestMacs: laid · DigestKnown: laid · DigestPlays: laid · DigestPieces: laid.
  DERIVED. THE GIVEN ROWS OF THIS SEAT. 10 by the template 'for every input the law returns true; each argument reads behind the call as it read before'; 0 by the template 'total and deterministic' (their statements: YtfedlgcpgfofjaaDoorTotals.lean).
  GIVEN WITH THE SEED: the statements are not yours to turn. If you find one false, say at which input.
  Laid BY PROGRAM, IN A SANDBOX (cutbox-rows.mjs): the forced cells as the released guide's own fill.sh prints them over the translation 30736cad481f7117… (all of the seat's roots in one cut). By AI agents, Wed Nov 11 2026. No macro, syntax, notation, axiom, sorry.
-/
import Derived.Test.YtfedlgcpgfofjaaDoorChecked
import GoSem.Claim
import GoSem.ClaimJoined
import GoSem.ClaimMapViews
import Derived.JoinedTies
import Derived.KernelRfl
namespace Go.Proofs.YtfedlgcpgfofjaaDoor
/- THE CELL 'sum', in the pinned program and in every row, IS THE sha256 OF THE DUMP (.gsa) THAT YtfedlgcpgfofjaaDoorProg.lean LOADS. Nothing in Lean hashes anything: it is a label: what it is worth is what the hold of that sum in a sandbox is worth. -/
noncomputable def Tryd.pinned : Pinned := { name := "ytfedlgcpgfofjaadoor", sum := "30736cad481f71179e900cb16b3e58793ff3066532d6f92422021cf72c0d83df", checked := Tryd.checked }
namespace Rows
def none {H : Type} : Left H := { results := [], args := [] }

/- WHAT THE LISTED PACKAGE-LEVEL VARIABLES READ AS WHEN THE CALL BEGINS. Each datum BY PROGRAM (the guide's laid-datum.mjs) off the statement by which the dump's own 'gosem.cut.vars' lays the variable. In a bare row this is a premise. The card (YtfedlgcpgfofjaaDoorCards.lean) ties it to the program's text. -/
def laid_wicket_digest_roots {H : Type} : DataW H := .agg [.lit (.int .u32 1116352408), .lit (.int .u32 1899447441), .lit (.int .u32 3049323471), .lit (.int .u32 3921009573), .lit (.int .u32 961987163), .lit (.int .u32 1508970993), .lit (.int .u32 2453635748), .lit (.int .u32 2870763221), .lit (.int .u32 3624381080), .lit (.int .u32 310598401), .lit (.int .u32 607225278), .lit (.int .u32 1426881987), .lit (.int .u32 1925078388), .lit (.int .u32 2162078206), .lit (.int .u32 2614888103), .lit (.int .u32 3248222580), .lit (.int .u32 3835390401), .lit (.int .u32 4022224774), .lit (.int .u32 264347078), .lit (.int .u32 604807628), .lit (.int .u32 770255983), .lit (.int .u32 1249150122), .lit (.int .u32 1555081692), .lit (.int .u32 1996064986), .lit (.int .u32 2554220882), .lit (.int .u32 2821834349), .lit (.int .u32 2952996808), .lit (.int .u32 3210313671), .lit (.int .u32 3336571891), .lit (.int .u32 3584528711), .lit (.int .u32 113926993), .lit (.int .u32 338241895), .lit (.int .u32 666307205), .lit (.int .u32 773529912), .lit (.int .u32 1294757372), .lit (.int .u32 1396182291), .lit (.int .u32 1695183700), .lit (.int .u32 1986661051), .lit (.int .u32 2177026350), .lit (.int .u32 2456956037), .lit (.int .u32 2730485921), .lit (.int .u32 2820302411), .lit (.int .u32 3259730800), .lit (.int .u32 3345764771), .lit (.int .u32 3516065817), .lit (.int .u32 3600352804), .lit (.int .u32 4094571909), .lit (.int .u32 275423344), .lit (.int .u32 430227734), .lit (.int .u32 506948616), .lit (.int .u32 659060556), .lit (.int .u32 883997877), .lit (.int .u32 958139571), .lit (.int .u32 1322822218), .lit (.int .u32 1537002063), .lit (.int .u32 1747873779), .lit (.int .u32 1955562222), .lit (.int .u32 2024104815), .lit (.int .u32 2227730452), .lit (.int .u32 2361852424), .lit (.int .u32 2428436474), .lit (.int .u32 2756734187), .lit (.int .u32 3204031479), .lit (.int .u32 3329325298)]
def laid_wicket_digest_first {H : Type} : DataW H := .agg [.lit (.int .u32 1779033703), .lit (.int .u32 3144134277), .lit (.int .u32 1013904242), .lit (.int .u32 2773480762), .lit (.int .u32 1359893119), .lit (.int .u32 2600822924), .lit (.int .u32 528734635), .lit (.int .u32 1541459225)]
def laid_wicket_wicketref02_roots {H : Type} : DataW H := .agg [.lit (.int .u32 1116352408), .lit (.int .u32 1899447441), .lit (.int .u32 3049323471), .lit (.int .u32 3921009573), .lit (.int .u32 961987163), .lit (.int .u32 1508970993), .lit (.int .u32 2453635748), .lit (.int .u32 2870763221), .lit (.int .u32 3624381080), .lit (.int .u32 310598401), .lit (.int .u32 607225278), .lit (.int .u32 1426881987), .lit (.int .u32 1925078388), .lit (.int .u32 2162078206), .lit (.int .u32 2614888103), .lit (.int .u32 3248222580), .lit (.int .u32 3835390401), .lit (.int .u32 4022224774), .lit (.int .u32 264347078), .lit (.int .u32 604807628), .lit (.int .u32 770255983), .lit (.int .u32 1249150122), .lit (.int .u32 1555081692), .lit (.int .u32 1996064986), .lit (.int .u32 2554220882), .lit (.int .u32 2821834349), .lit (.int .u32 2952996808), .lit (.int .u32 3210313671), .lit (.int .u32 3336571891), .lit (.int .u32 3584528711), .lit (.int .u32 113926993), .lit (.int .u32 338241895), .lit (.int .u32 666307205), .lit (.int .u32 773529912), .lit (.int .u32 1294757372), .lit (.int .u32 1396182291), .lit (.int .u32 1695183700), .lit (.int .u32 1986661051), .lit (.int .u32 2177026350), .lit (.int .u32 2456956037), .lit (.int .u32 2730485921), .lit (.int .u32 2820302411), .lit (.int .u32 3259730800), .lit (.int .u32 3345764771), .lit (.int .u32 3516065817), .lit (.int .u32 3600352804), .lit (.int .u32 4094571909), .lit (.int .u32 275423344), .lit (.int .u32 430227734), .lit (.int .u32 506948616), .lit (.int .u32 659060556), .lit (.int .u32 883997877), .lit (.int .u32 958139571), .lit (.int .u32 1322822218), .lit (.int .u32 1537002063), .lit (.int .u32 1747873779), .lit (.int .u32 1955562222), .lit (.int .u32 2024104815), .lit (.int .u32 2227730452), .lit (.int .u32 2361852424), .lit (.int .u32 2428436474), .lit (.int .u32 2756734187), .lit (.int .u32 3204031479), .lit (.int .u32 3329325298)]

/-- 'wicketlaw02.DigestSums': WHATEVER THE INPUT: true; the input reads as it did. -/
def digestSumsSpec : ChangeSpec := { name := "digestSums", fn := fun _ => fun
  | [d] => { results := [.lit (.bool true)], args := [d] }
  | _ => none }
def digestSumsRow : OpenClaim := { program := "ytfedlgcpgfofjaadoor", sum := "30736cad481f71179e900cb16b3e58793ff3066532d6f92422021cf72c0d83df", func := "wicket/wicketlaw02.DigestSums", spec := "digestSums", named := ["wicket/digest.first", "wicket/digest.roots", "wicket/wicketref02.roots"], apart := false, laid := [("wicket/digest.roots", laid_wicket_digest_roots), ("wicket/digest.first", laid_wicket_digest_first), ("wicket/wicketref02.roots", laid_wicket_wicketref02_roots)] }
def DigestSumsSaid : Prop := digestSumsRow.holds Tryd.pinned (OpenSpec.ofChange digestSumsSpec)

/-- ITS FALSE NEIGHBOUR: 'it returns false'. Refute it at one input. -/
def digestSumsWrong : ChangeSpec := { name := "digestSums", fn := fun _ => fun
  | [d] => { results := [.lit (.bool false)], args := [d] }
  | _ => none }
def DigestSumsWrongFalsely : Prop := digestSumsRow.holds Tryd.pinned (OpenSpec.ofChange digestSumsWrong)

/-- 'wicketlaw02.DigestNil': WHATEVER THE INPUT: true; the input reads as it did. -/
def digestNilSpec : ChangeSpec := { name := "digestNil", fn := fun _ => fun
  | [] => { results := [.lit (.bool true)], args := [] }
  | _ => none }
def digestNilRow : OpenClaim := { program := "ytfedlgcpgfofjaadoor", sum := "30736cad481f71179e900cb16b3e58793ff3066532d6f92422021cf72c0d83df", func := "wicket/wicketlaw02.DigestNil", spec := "digestNil", named := ["wicket/digest.roots", "wicket/digest.first"], apart := false, laid := [("wicket/digest.roots", laid_wicket_digest_roots), ("wicket/digest.first", laid_wicket_digest_first)] }
def DigestNilSaid : Prop := digestNilRow.holds Tryd.pinned (OpenSpec.ofChange digestNilSpec)

/-- ITS FALSE NEIGHBOUR: 'it returns false'. Refute it at one input. -/
def digestNilWrong : ChangeSpec := { name := "digestNil", fn := fun _ => fun
  | [] => { results := [.lit (.bool false)], args := [] }
  | _ => none }
def DigestNilWrongFalsely : Prop := digestNilRow.holds Tryd.pinned (OpenSpec.ofChange digestNilWrong)

/-- 'wicketlaw02.DigestKeyed': WHATEVER THE INPUT: true; the input reads as it did. -/
def digestKeyedSpec : ChangeSpec := { name := "digestKeyed", fn := fun _ => fun
  | [d1, d2] => { results := [.lit (.bool true)], args := [d1, d2] }
  | _ => none }
def digestKeyedRow : OpenClaim := { program := "ytfedlgcpgfofjaadoor", sum := "30736cad481f71179e900cb16b3e58793ff3066532d6f92422021cf72c0d83df", func := "wicket/wicketlaw02.DigestKeyed", spec := "digestKeyed", named := ["wicket/digest.first", "wicket/digest.roots"], apart := false, laid := [("wicket/digest.roots", laid_wicket_digest_roots), ("wicket/digest.first", laid_wicket_digest_first)] }
def DigestKeyedSaid : Prop := digestKeyedRow.holds Tryd.pinned (OpenSpec.ofChange digestKeyedSpec)

/-- ITS FALSE NEIGHBOUR: 'it returns false'. Refute it at one input. -/
def digestKeyedWrong : ChangeSpec := { name := "digestKeyed", fn := fun _ => fun
  | [d1, d2] => { results := [.lit (.bool false)], args := [d1, d2] }
  | _ => none }
def DigestKeyedWrongFalsely : Prop := digestKeyedRow.holds Tryd.pinned (OpenSpec.ofChange digestKeyedWrong)

/-- 'wicketlaw02.DigestOwn': WHATEVER THE INPUT: true; the input reads as it did. -/
def digestOwnSpec : ChangeSpec := { name := "digestOwn", fn := fun _ => fun
  | [d1, d2] => { results := [.lit (.bool true)], args := [d1, d2] }
  | _ => none }
def digestOwnRow : OpenClaim := { program := "ytfedlgcpgfofjaadoor", sum := "30736cad481f71179e900cb16b3e58793ff3066532d6f92422021cf72c0d83df", func := "wicket/wicketlaw02.DigestOwn", spec := "digestOwn", named := ["wicket/digest.first", "wicket/digest.roots", "wicket/wicketref02.roots"], apart := false, laid := [("wicket/digest.roots", laid_wicket_digest_roots), ("wicket/digest.first", laid_wicket_digest_first), ("wicket/wicketref02.roots", laid_wicket_wicketref02_roots)] }
def DigestOwnSaid : Prop := digestOwnRow.holds Tryd.pinned (OpenSpec.ofChange digestOwnSpec)

/-- ITS FALSE NEIGHBOUR: 'it returns false'. Refute it at one input. -/
def digestOwnWrong : ChangeSpec := { name := "digestOwn", fn := fun _ => fun
  | [d1, d2] => { results := [.lit (.bool false)], args := [d1, d2] }
  | _ => none }
def DigestOwnWrongFalsely : Prop := digestOwnRow.holds Tryd.pinned (OpenSpec.ofChange digestOwnWrong)

/-- 'wicketlaw02.DigestCodes': WHATEVER THE INPUT: true; the input reads as it did. -/
def digestCodesSpec : ChangeSpec := { name := "digestCodes", fn := fun _ => fun
  | [d1, d2] => { results := [.lit (.bool true)], args := [d1, d2] }
  | _ => none }
def digestCodesRow : OpenClaim := { program := "ytfedlgcpgfofjaadoor", sum := "30736cad481f71179e900cb16b3e58793ff3066532d6f92422021cf72c0d83df", func := "wicket/wicketlaw02.DigestCodes", spec := "digestCodes", named := ["wicket/digest.first", "wicket/digest.roots"], apart := false, laid := [("wicket/digest.roots", laid_wicket_digest_roots), ("wicket/digest.first", laid_wicket_digest_first)] }
def DigestCodesSaid : Prop := digestCodesRow.holds Tryd.pinned (OpenSpec.ofChange digestCodesSpec)

/-- ITS FALSE NEIGHBOUR: 'it returns false'. Refute it at one input. -/
def digestCodesWrong : ChangeSpec := { name := "digestCodes", fn := fun _ => fun
  | [d1, d2] => { results := [.lit (.bool false)], args := [d1, d2] }
  | _ => none }
def DigestCodesWrongFalsely : Prop := digestCodesRow.holds Tryd.pinned (OpenSpec.ofChange digestCodesWrong)

/-- 'wicketlaw02.DigestBack': WHATEVER THE INPUT: true; the input reads as it did. -/
def digestBackSpec : ChangeSpec := { name := "digestBack", fn := fun _ => fun
  | [d1, d2] => { results := [.lit (.bool true)], args := [d1, d2] }
  | _ => none }
def digestBackRow : OpenClaim := { program := "ytfedlgcpgfofjaadoor", sum := "30736cad481f71179e900cb16b3e58793ff3066532d6f92422021cf72c0d83df", func := "wicket/wicketlaw02.DigestBack", spec := "digestBack", named := ["wicket/digest.first", "wicket/digest.roots"], apart := false, laid := [("wicket/digest.roots", laid_wicket_digest_roots), ("wicket/digest.first", laid_wicket_digest_first)] }
def DigestBackSaid : Prop := digestBackRow.holds Tryd.pinned (OpenSpec.ofChange digestBackSpec)

/-- ITS FALSE NEIGHBOUR: 'it returns false'. Refute it at one input. -/
def digestBackWrong : ChangeSpec := { name := "digestBack", fn := fun _ => fun
  | [d1, d2] => { results := [.lit (.bool false)], args := [d1, d2] }
  | _ => none }
def DigestBackWrongFalsely : Prop := digestBackRow.holds Tryd.pinned (OpenSpec.ofChange digestBackWrong)

/-- 'wicketlaw02.DigestMacs': WHATEVER THE INPUT: true; the input reads as it did. -/
def digestMacsSpec : ChangeSpec := { name := "digestMacs", fn := fun _ => fun
  | [d1, d2] => { results := [.lit (.bool true)], args := [d1, d2] }
  | _ => none }
def digestMacsRow : OpenClaim := { program := "ytfedlgcpgfofjaadoor", sum := "30736cad481f71179e900cb16b3e58793ff3066532d6f92422021cf72c0d83df", func := "wicket/wicketlaw02.DigestMacs", spec := "digestMacs", named := ["wicket/digest.first", "wicket/digest.roots", "wicket/wicketref02.roots"], apart := false, laid := [("wicket/digest.roots", laid_wicket_digest_roots), ("wicket/digest.first", laid_wicket_digest_first), ("wicket/wicketref02.roots", laid_wicket_wicketref02_roots)] }
def DigestMacsSaid : Prop := digestMacsRow.holds Tryd.pinned (OpenSpec.ofChange digestMacsSpec)

/-- ITS FALSE NEIGHBOUR: 'it returns false'. Refute it at one input. -/
def digestMacsWrong : ChangeSpec := { name := "digestMacs", fn := fun _ => fun
  | [d1, d2] => { results := [.lit (.bool false)], args := [d1, d2] }
  | _ => none }
def DigestMacsWrongFalsely : Prop := digestMacsRow.holds Tryd.pinned (OpenSpec.ofChange digestMacsWrong)

/-- 'wicketlaw02.DigestKnown': WHATEVER THE INPUT: true; the input reads as it did. -/
def digestKnownSpec : ChangeSpec := { name := "digestKnown", fn := fun _ => fun
  | [] => { results := [.lit (.bool true)], args := [] }
  | _ => none }
def digestKnownRow : OpenClaim := { program := "ytfedlgcpgfofjaadoor", sum := "30736cad481f71179e900cb16b3e58793ff3066532d6f92422021cf72c0d83df", func := "wicket/wicketlaw02.DigestKnown", spec := "digestKnown", named := ["wicket/digest.first", "wicket/digest.roots"], apart := false, laid := [("wicket/digest.roots", laid_wicket_digest_roots), ("wicket/digest.first", laid_wicket_digest_first)] }
def DigestKnownSaid : Prop := digestKnownRow.holds Tryd.pinned (OpenSpec.ofChange digestKnownSpec)

/-- ITS FALSE NEIGHBOUR: 'it returns false'. Refute it at one input. -/
def digestKnownWrong : ChangeSpec := { name := "digestKnown", fn := fun _ => fun
  | [] => { results := [.lit (.bool false)], args := [] }
  | _ => none }
def DigestKnownWrongFalsely : Prop := digestKnownRow.holds Tryd.pinned (OpenSpec.ofChange digestKnownWrong)

/-- 'wicketlaw02.DigestPlays': WHATEVER THE INPUT: true; the input reads as it did. -/
def digestPlaysSpec : ChangeSpec := { name := "digestPlays", fn := fun _ => fun
  | [d] => { results := [.lit (.bool true)], args := [d] }
  | _ => none }
def digestPlaysRow : OpenClaim := { program := "ytfedlgcpgfofjaadoor", sum := "30736cad481f71179e900cb16b3e58793ff3066532d6f92422021cf72c0d83df", func := "wicket/wicketlaw02.DigestPlays", spec := "digestPlays", named := ["wicket/digest.first", "wicket/digest.roots", "wicket/wicketref02.roots"], apart := false, laid := [("wicket/digest.roots", laid_wicket_digest_roots), ("wicket/digest.first", laid_wicket_digest_first), ("wicket/wicketref02.roots", laid_wicket_wicketref02_roots)] }
def DigestPlaysSaid : Prop := digestPlaysRow.holds Tryd.pinned (OpenSpec.ofChange digestPlaysSpec)

/-- ITS FALSE NEIGHBOUR: 'it returns false'. Refute it at one input. -/
def digestPlaysWrong : ChangeSpec := { name := "digestPlays", fn := fun _ => fun
  | [d] => { results := [.lit (.bool false)], args := [d] }
  | _ => none }
def DigestPlaysWrongFalsely : Prop := digestPlaysRow.holds Tryd.pinned (OpenSpec.ofChange digestPlaysWrong)

/-- 'wicketlaw02.DigestPieces': WHATEVER THE INPUT: true; the input reads as it did. -/
def digestPiecesSpec : ChangeSpec := { name := "digestPieces", fn := fun _ => fun
  | [d1, d2] => { results := [.lit (.bool true)], args := [d1, d2] }
  | _ => none }
def digestPiecesRow : OpenClaim := { program := "ytfedlgcpgfofjaadoor", sum := "30736cad481f71179e900cb16b3e58793ff3066532d6f92422021cf72c0d83df", func := "wicket/wicketlaw02.DigestPieces", spec := "digestPieces", named := ["wicket/digest.first", "wicket/digest.roots"], apart := false, laid := [("wicket/digest.roots", laid_wicket_digest_roots), ("wicket/digest.first", laid_wicket_digest_first)] }
def DigestPiecesSaid : Prop := digestPiecesRow.holds Tryd.pinned (OpenSpec.ofChange digestPiecesSpec)

/-- ITS FALSE NEIGHBOUR: 'it returns false'. Refute it at one input. -/
def digestPiecesWrong : ChangeSpec := { name := "digestPieces", fn := fun _ => fun
  | [d1, d2] => { results := [.lit (.bool false)], args := [d1, d2] }
  | _ => none }
def DigestPiecesWrongFalsely : Prop := digestPiecesRow.holds Tryd.pinned (OpenSpec.ofChange digestPiecesWrong)

/- THE SECOND FORM. 'bulk': how many values and letters a reading holds, each counted each time it is reached (what is shared counts as often as it is met; a slice's spare places count too). A statement '..UptoSaid' is the law's where the arguments, and the package variables that the reading takes, are together of bulk at most 1048576: NARROWER than '..Said'. Prove '..Said' where nothing that the law and all that it calls make is longer than what came in: it says more and counts as full. Else prove '..UptoSaid'. A law counts once. -/
mutual
def uptoBulk {H : Type} : DataW H → Nat
  | .lit (.string bytes) => bytes.length + 1
  | .lit _ => 1
  | .nil => 1
  | .ptr d => uptoBulk d + 1
  | .slice elems spare => uptoBulkAll elems + uptoBulkAll spare + 1
  | .agg parts => uptoBulkAll parts + 1
  | .iface _ d => uptoBulk d + 1
  | .map entries => uptoBulkEntries entries + 1
  | .held _ => 1
def uptoBulkAll {H : Type} : List (DataW H) → Nat
  | [] => 0
  | d :: r => uptoBulk d + uptoBulkAll r
def uptoBulkEntries {H : Type} : List (Lit × DataW H) → Nat
  | [] => 0
  | x :: r => uptoBulkEntry x + uptoBulkEntries r
def uptoBulkEntry {H : Type} : Lit × DataW H → Nat
  | (.string bytes, d) => bytes.length + uptoBulk d + 1
  | (_, d) => uptoBulk d + 1
 end
def uptoSmall : (H : Type) → List (DataW H) → Bool := fun _ ds => decide (uptoBulkAll ds ≤ 1048576)
def OpenSpec.upto (s : _root_.Go.ChangeSpec) : _root_.Go.OpenSpec := { _root_.Go.OpenSpec.ofChange s with cond := some uptoSmall }

/-- 'wicketlaw02.DigestSums', WHERE WHAT IT READS IS OF BULK AT MOST 1048576: true; the input reads as it did. -/
def digestSumsUptoRow : OpenClaim := { program := "ytfedlgcpgfofjaadoor", sum := "30736cad481f71179e900cb16b3e58793ff3066532d6f92422021cf72c0d83df", func := "wicket/wicketlaw02.DigestSums", spec := "digestSums", named := ["wicket/digest.first", "wicket/digest.roots", "wicket/wicketref02.roots"], apart := false, laid := [("wicket/digest.roots", laid_wicket_digest_roots), ("wicket/digest.first", laid_wicket_digest_first), ("wicket/wicketref02.roots", laid_wicket_wicketref02_roots)], narrowed := true }
def DigestSumsUptoSaid : Prop := digestSumsUptoRow.holds Tryd.pinned (OpenSpec.upto digestSumsSpec)

/-- 'wicketlaw02.DigestNil', WHERE WHAT IT READS IS OF BULK AT MOST 1048576: true; the input reads as it did. -/
def digestNilUptoRow : OpenClaim := { program := "ytfedlgcpgfofjaadoor", sum := "30736cad481f71179e900cb16b3e58793ff3066532d6f92422021cf72c0d83df", func := "wicket/wicketlaw02.DigestNil", spec := "digestNil", named := ["wicket/digest.roots", "wicket/digest.first"], apart := false, laid := [("wicket/digest.roots", laid_wicket_digest_roots), ("wicket/digest.first", laid_wicket_digest_first)], narrowed := true }
def DigestNilUptoSaid : Prop := digestNilUptoRow.holds Tryd.pinned (OpenSpec.upto digestNilSpec)

/-- 'wicketlaw02.DigestKeyed', WHERE WHAT IT READS IS OF BULK AT MOST 1048576: true; the input reads as it did. -/
def digestKeyedUptoRow : OpenClaim := { program := "ytfedlgcpgfofjaadoor", sum := "30736cad481f71179e900cb16b3e58793ff3066532d6f92422021cf72c0d83df", func := "wicket/wicketlaw02.DigestKeyed", spec := "digestKeyed", named := ["wicket/digest.first", "wicket/digest.roots"], apart := false, laid := [("wicket/digest.roots", laid_wicket_digest_roots), ("wicket/digest.first", laid_wicket_digest_first)], narrowed := true }
def DigestKeyedUptoSaid : Prop := digestKeyedUptoRow.holds Tryd.pinned (OpenSpec.upto digestKeyedSpec)

/-- 'wicketlaw02.DigestOwn', WHERE WHAT IT READS IS OF BULK AT MOST 1048576: true; the input reads as it did. -/
def digestOwnUptoRow : OpenClaim := { program := "ytfedlgcpgfofjaadoor", sum := "30736cad481f71179e900cb16b3e58793ff3066532d6f92422021cf72c0d83df", func := "wicket/wicketlaw02.DigestOwn", spec := "digestOwn", named := ["wicket/digest.first", "wicket/digest.roots", "wicket/wicketref02.roots"], apart := false, laid := [("wicket/digest.roots", laid_wicket_digest_roots), ("wicket/digest.first", laid_wicket_digest_first), ("wicket/wicketref02.roots", laid_wicket_wicketref02_roots)], narrowed := true }
def DigestOwnUptoSaid : Prop := digestOwnUptoRow.holds Tryd.pinned (OpenSpec.upto digestOwnSpec)

/-- 'wicketlaw02.DigestCodes', WHERE WHAT IT READS IS OF BULK AT MOST 1048576: true; the input reads as it did. -/
def digestCodesUptoRow : OpenClaim := { program := "ytfedlgcpgfofjaadoor", sum := "30736cad481f71179e900cb16b3e58793ff3066532d6f92422021cf72c0d83df", func := "wicket/wicketlaw02.DigestCodes", spec := "digestCodes", named := ["wicket/digest.first", "wicket/digest.roots"], apart := false, laid := [("wicket/digest.roots", laid_wicket_digest_roots), ("wicket/digest.first", laid_wicket_digest_first)], narrowed := true }
def DigestCodesUptoSaid : Prop := digestCodesUptoRow.holds Tryd.pinned (OpenSpec.upto digestCodesSpec)

/-- 'wicketlaw02.DigestBack', WHERE WHAT IT READS IS OF BULK AT MOST 1048576: true; the input reads as it did. -/
def digestBackUptoRow : OpenClaim := { program := "ytfedlgcpgfofjaadoor", sum := "30736cad481f71179e900cb16b3e58793ff3066532d6f92422021cf72c0d83df", func := "wicket/wicketlaw02.DigestBack", spec := "digestBack", named := ["wicket/digest.first", "wicket/digest.roots"], apart := false, laid := [("wicket/digest.roots", laid_wicket_digest_roots), ("wicket/digest.first", laid_wicket_digest_first)], narrowed := true }
def DigestBackUptoSaid : Prop := digestBackUptoRow.holds Tryd.pinned (OpenSpec.upto digestBackSpec)

/-- 'wicketlaw02.DigestMacs', WHERE WHAT IT READS IS OF BULK AT MOST 1048576: true; the input reads as it did. -/
def digestMacsUptoRow : OpenClaim := { program := "ytfedlgcpgfofjaadoor", sum := "30736cad481f71179e900cb16b3e58793ff3066532d6f92422021cf72c0d83df", func := "wicket/wicketlaw02.DigestMacs", spec := "digestMacs", named := ["wicket/digest.first", "wicket/digest.roots", "wicket/wicketref02.roots"], apart := false, laid := [("wicket/digest.roots", laid_wicket_digest_roots), ("wicket/digest.first", laid_wicket_digest_first), ("wicket/wicketref02.roots", laid_wicket_wicketref02_roots)], narrowed := true }
def DigestMacsUptoSaid : Prop := digestMacsUptoRow.holds Tryd.pinned (OpenSpec.upto digestMacsSpec)

/-- 'wicketlaw02.DigestKnown', WHERE WHAT IT READS IS OF BULK AT MOST 1048576: true; the input reads as it did. -/
def digestKnownUptoRow : OpenClaim := { program := "ytfedlgcpgfofjaadoor", sum := "30736cad481f71179e900cb16b3e58793ff3066532d6f92422021cf72c0d83df", func := "wicket/wicketlaw02.DigestKnown", spec := "digestKnown", named := ["wicket/digest.first", "wicket/digest.roots"], apart := false, laid := [("wicket/digest.roots", laid_wicket_digest_roots), ("wicket/digest.first", laid_wicket_digest_first)], narrowed := true }
def DigestKnownUptoSaid : Prop := digestKnownUptoRow.holds Tryd.pinned (OpenSpec.upto digestKnownSpec)

/-- 'wicketlaw02.DigestPlays', WHERE WHAT IT READS IS OF BULK AT MOST 1048576: true; the input reads as it did. -/
def digestPlaysUptoRow : OpenClaim := { program := "ytfedlgcpgfofjaadoor", sum := "30736cad481f71179e900cb16b3e58793ff3066532d6f92422021cf72c0d83df", func := "wicket/wicketlaw02.DigestPlays", spec := "digestPlays", named := ["wicket/digest.first", "wicket/digest.roots", "wicket/wicketref02.roots"], apart := false, laid := [("wicket/digest.roots", laid_wicket_digest_roots), ("wicket/digest.first", laid_wicket_digest_first), ("wicket/wicketref02.roots", laid_wicket_wicketref02_roots)], narrowed := true }
def DigestPlaysUptoSaid : Prop := digestPlaysUptoRow.holds Tryd.pinned (OpenSpec.upto digestPlaysSpec)

/-- 'wicketlaw02.DigestPieces', WHERE WHAT IT READS IS OF BULK AT MOST 1048576: true; the input reads as it did. -/
def digestPiecesUptoRow : OpenClaim := { program := "ytfedlgcpgfofjaadoor", sum := "30736cad481f71179e900cb16b3e58793ff3066532d6f92422021cf72c0d83df", func := "wicket/wicketlaw02.DigestPieces", spec := "digestPieces", named := ["wicket/digest.first", "wicket/digest.roots"], apart := false, laid := [("wicket/digest.roots", laid_wicket_digest_roots), ("wicket/digest.first", laid_wicket_digest_first)], narrowed := true }
def DigestPiecesUptoSaid : Prop := digestPiecesUptoRow.holds Tryd.pinned (OpenSpec.upto digestPiecesSpec)

end Rows
end Go.Proofs.YtfedlgcpgfofjaaDoor
