/-
  NARROWER THAN 'FOR EVERY INPUT', by the rows' own cells (each row's printed sentence says how): DiagramTells: loops, laid · DiagramReduced: laid · DiagramWalks: loops, laid · DiagramComplete: laid · DiagramSame: laid · DiagramSamples: laid · DiagramDecides: laid · DiagramOf: loops, laid.
  DERIVED. THE GIVEN ROWS OF THIS SEAT. 8 by the template 'for every input the law returns true; each argument reads behind the call as it read before'; 0 by the template 'total and deterministic' (their statements: YtlidpghnlloinaaGreatDoorTotals.lean).
  GIVEN WITH THE SEED: the statements are not yours to turn. If you find one false, say at which input.
  Laid BY PROGRAM, IN A SANDBOX (cutbox-rows.mjs): the forced cells as the released guide's own fill.sh prints them over the translation 779fe8a52365fbb6… (all of the seat's roots in one cut). By AI agents, Wed Nov 11 2026. No macro, syntax, notation, axiom, sorry.
-/
import Derived.Test.YtlidpghnlloinaaGreatDoorChecked
import GoSem.Claim
import GoSem.ClaimJoined
import GoSem.ClaimMapViews
import Derived.JoinedTies
import Derived.KernelRfl
namespace Go.Proofs.YtlidpghnlloinaaGreatDoor
/- THE CELL 'sum', in the pinned program and in every row, IS THE sha256 OF THE DUMP (.gsa) THAT YtlidpghnlloinaaGreatDoorProg.lean LOADS. Nothing in Lean hashes anything: it is a label: what it is worth is what the hold of that sum in a sandbox is worth. -/
noncomputable def Tryz.pinned : Pinned := { name := "ytlidpghnlloinaagreatdoor", sum := "779fe8a52365fbb66c59dbc7b3f8e763f29475aa5df02fcacf6f25923abc4bc4", checked := Tryz.checked }
namespace Rows
def none {H : Type} : Left H := { results := [], args := [] }

/- WHAT THE LISTED PACKAGE-LEVEL VARIABLES READ AS WHEN THE CALL BEGINS. Each datum BY PROGRAM (the guide's laid-datum.mjs) off the statement by which the dump's own 'gosem.cut.vars' lays the variable. In a bare row this is a premise. The card (YtlidpghnlloinaaGreatDoorCards.lean) ties it to the program's text. -/
def laid_math_bits_deBruijn32tab {H : Type} : DataW H := .agg [.lit (.int .u8 0), .lit (.int .u8 1), .lit (.int .u8 28), .lit (.int .u8 2), .lit (.int .u8 29), .lit (.int .u8 14), .lit (.int .u8 24), .lit (.int .u8 3), .lit (.int .u8 30), .lit (.int .u8 22), .lit (.int .u8 20), .lit (.int .u8 15), .lit (.int .u8 25), .lit (.int .u8 17), .lit (.int .u8 4), .lit (.int .u8 8), .lit (.int .u8 31), .lit (.int .u8 27), .lit (.int .u8 13), .lit (.int .u8 23), .lit (.int .u8 21), .lit (.int .u8 19), .lit (.int .u8 16), .lit (.int .u8 7), .lit (.int .u8 26), .lit (.int .u8 12), .lit (.int .u8 18), .lit (.int .u8 6), .lit (.int .u8 11), .lit (.int .u8 5), .lit (.int .u8 10), .lit (.int .u8 9)]
def laid_math_bits_deBruijn64tab {H : Type} : DataW H := .agg [.lit (.int .u8 0), .lit (.int .u8 1), .lit (.int .u8 56), .lit (.int .u8 2), .lit (.int .u8 57), .lit (.int .u8 49), .lit (.int .u8 28), .lit (.int .u8 3), .lit (.int .u8 61), .lit (.int .u8 58), .lit (.int .u8 42), .lit (.int .u8 50), .lit (.int .u8 38), .lit (.int .u8 29), .lit (.int .u8 17), .lit (.int .u8 4), .lit (.int .u8 62), .lit (.int .u8 47), .lit (.int .u8 59), .lit (.int .u8 36), .lit (.int .u8 45), .lit (.int .u8 43), .lit (.int .u8 51), .lit (.int .u8 22), .lit (.int .u8 53), .lit (.int .u8 39), .lit (.int .u8 33), .lit (.int .u8 30), .lit (.int .u8 24), .lit (.int .u8 18), .lit (.int .u8 12), .lit (.int .u8 5), .lit (.int .u8 63), .lit (.int .u8 55), .lit (.int .u8 48), .lit (.int .u8 27), .lit (.int .u8 60), .lit (.int .u8 41), .lit (.int .u8 37), .lit (.int .u8 16), .lit (.int .u8 46), .lit (.int .u8 35), .lit (.int .u8 44), .lit (.int .u8 21), .lit (.int .u8 52), .lit (.int .u8 32), .lit (.int .u8 23), .lit (.int .u8 11), .lit (.int .u8 54), .lit (.int .u8 26), .lit (.int .u8 40), .lit (.int .u8 15), .lit (.int .u8 34), .lit (.int .u8 20), .lit (.int .u8 31), .lit (.int .u8 10), .lit (.int .u8 25), .lit (.int .u8 14), .lit (.int .u8 19), .lit (.int .u8 9), .lit (.int .u8 13), .lit (.int .u8 8), .lit (.int .u8 7), .lit (.int .u8 6)]
def laid_internal_strconv_uint64pow10 {H : Type} : DataW H := .agg [.lit (.int .u64 1), .lit (.int .u64 10), .lit (.int .u64 100), .lit (.int .u64 1000), .lit (.int .u64 10000), .lit (.int .u64 100000), .lit (.int .u64 1000000), .lit (.int .u64 10000000), .lit (.int .u64 100000000), .lit (.int .u64 1000000000), .lit (.int .u64 10000000000), .lit (.int .u64 100000000000), .lit (.int .u64 1000000000000), .lit (.int .u64 10000000000000), .lit (.int .u64 100000000000000), .lit (.int .u64 1000000000000000), .lit (.int .u64 10000000000000000), .lit (.int .u64 100000000000000000), .lit (.int .u64 1000000000000000000), .lit (.int .u64 10000000000000000000)]

/-- 'annuitantlaw17.DiagramTells': WHATEVER THE INPUT: true; the input reads as it did. -/
def diagramTellsSpec : ChangeSpec := { name := "diagramTells", fn := fun _ => fun
  | [d] => { results := [.lit (.bool true)], args := [d] }
  | _ => none }
def diagramTellsRow : OpenClaim := { program := "ytlidpghnlloinaagreatdoor", sum := "779fe8a52365fbb66c59dbc7b3f8e763f29475aa5df02fcacf6f25923abc4bc4", func := "annuitant/annuitantlaw17.DiagramTells", spec := "diagramTells", inPlace := ["slices.overlaps[annuitant/api.Value]"], unfollowed := true, recurses := true, named := ["math/bits.overflowError", "internal/strconv.uint64pow10", "math/bits.deBruijn32tab", "math/bits.deBruijn64tab"], loops := true, apart := false, laid := [("math/bits.deBruijn32tab", laid_math_bits_deBruijn32tab), ("math/bits.deBruijn64tab", laid_math_bits_deBruijn64tab), ("internal/strconv.uint64pow10", laid_internal_strconv_uint64pow10)] }
def DiagramTellsSaid : Prop := diagramTellsRow.holds Tryz.pinned (OpenSpec.ofChange diagramTellsSpec)

/-- ITS FALSE NEIGHBOUR: 'it returns false'. Refute it at one input. -/
def diagramTellsWrong : ChangeSpec := { name := "diagramTells", fn := fun _ => fun
  | [d] => { results := [.lit (.bool false)], args := [d] }
  | _ => none }
def DiagramTellsWrongFalsely : Prop := diagramTellsRow.holds Tryz.pinned (OpenSpec.ofChange diagramTellsWrong)

/-- 'annuitantlaw17.DiagramReduced': WHATEVER THE INPUT: true; the input reads as it did. -/
def diagramReducedSpec : ChangeSpec := { name := "diagramReduced", fn := fun _ => fun
  | [d1, d2] => { results := [.lit (.bool true)], args := [d1, d2] }
  | _ => none }
def diagramReducedRow : OpenClaim := { program := "ytlidpghnlloinaagreatdoor", sum := "779fe8a52365fbb66c59dbc7b3f8e763f29475aa5df02fcacf6f25923abc4bc4", func := "annuitant/annuitantlaw17.DiagramReduced", spec := "diagramReduced", inPlace := ["slices.overlaps[annuitant/api.Value]"], unfollowed := true, recurses := true, named := ["math/bits.overflowError", "internal/strconv.uint64pow10", "math/bits.deBruijn32tab", "math/bits.deBruijn64tab"], apart := false, laid := [("math/bits.deBruijn32tab", laid_math_bits_deBruijn32tab), ("math/bits.deBruijn64tab", laid_math_bits_deBruijn64tab), ("internal/strconv.uint64pow10", laid_internal_strconv_uint64pow10)] }
def DiagramReducedSaid : Prop := diagramReducedRow.holds Tryz.pinned (OpenSpec.ofChange diagramReducedSpec)

/-- ITS FALSE NEIGHBOUR: 'it returns false'. Refute it at one input. -/
def diagramReducedWrong : ChangeSpec := { name := "diagramReduced", fn := fun _ => fun
  | [d1, d2] => { results := [.lit (.bool false)], args := [d1, d2] }
  | _ => none }
def DiagramReducedWrongFalsely : Prop := diagramReducedRow.holds Tryz.pinned (OpenSpec.ofChange diagramReducedWrong)

/-- 'annuitantlaw17.DiagramWalks': WHATEVER THE INPUT: true; the input reads as it did. -/
def diagramWalksSpec : ChangeSpec := { name := "diagramWalks", fn := fun _ => fun
  | [d1, d2] => { results := [.lit (.bool true)], args := [d1, d2] }
  | _ => none }
def diagramWalksRow : OpenClaim := { program := "ytlidpghnlloinaagreatdoor", sum := "779fe8a52365fbb66c59dbc7b3f8e763f29475aa5df02fcacf6f25923abc4bc4", func := "annuitant/annuitantlaw17.DiagramWalks", spec := "diagramWalks", inPlace := ["slices.overlaps[annuitant/api.Value]"], unfollowed := true, recurses := true, named := ["math/bits.overflowError", "internal/strconv.uint64pow10", "math/bits.deBruijn32tab", "math/bits.deBruijn64tab"], loops := true, apart := false, laid := [("math/bits.deBruijn32tab", laid_math_bits_deBruijn32tab), ("math/bits.deBruijn64tab", laid_math_bits_deBruijn64tab), ("internal/strconv.uint64pow10", laid_internal_strconv_uint64pow10)] }
def DiagramWalksSaid : Prop := diagramWalksRow.holds Tryz.pinned (OpenSpec.ofChange diagramWalksSpec)

/-- ITS FALSE NEIGHBOUR: 'it returns false'. Refute it at one input. -/
def diagramWalksWrong : ChangeSpec := { name := "diagramWalks", fn := fun _ => fun
  | [d1, d2] => { results := [.lit (.bool false)], args := [d1, d2] }
  | _ => none }
def DiagramWalksWrongFalsely : Prop := diagramWalksRow.holds Tryz.pinned (OpenSpec.ofChange diagramWalksWrong)

/-- 'annuitantlaw17.DiagramComplete': WHATEVER THE INPUT: true; the input reads as it did. -/
def diagramCompleteSpec : ChangeSpec := { name := "diagramComplete", fn := fun _ => fun
  | [d1, d2] => { results := [.lit (.bool true)], args := [d1, d2] }
  | _ => none }
def diagramCompleteRow : OpenClaim := { program := "ytlidpghnlloinaagreatdoor", sum := "779fe8a52365fbb66c59dbc7b3f8e763f29475aa5df02fcacf6f25923abc4bc4", func := "annuitant/annuitantlaw17.DiagramComplete", spec := "diagramComplete", inPlace := ["slices.overlaps[annuitant/api.Value]"], unfollowed := true, recurses := true, named := ["math/bits.overflowError", "internal/strconv.uint64pow10", "math/bits.deBruijn32tab", "math/bits.deBruijn64tab"], apart := false, laid := [("math/bits.deBruijn32tab", laid_math_bits_deBruijn32tab), ("math/bits.deBruijn64tab", laid_math_bits_deBruijn64tab), ("internal/strconv.uint64pow10", laid_internal_strconv_uint64pow10)] }
def DiagramCompleteSaid : Prop := diagramCompleteRow.holds Tryz.pinned (OpenSpec.ofChange diagramCompleteSpec)

/-- ITS FALSE NEIGHBOUR: 'it returns false'. Refute it at one input. -/
def diagramCompleteWrong : ChangeSpec := { name := "diagramComplete", fn := fun _ => fun
  | [d1, d2] => { results := [.lit (.bool false)], args := [d1, d2] }
  | _ => none }
def DiagramCompleteWrongFalsely : Prop := diagramCompleteRow.holds Tryz.pinned (OpenSpec.ofChange diagramCompleteWrong)

/-- 'annuitantlaw17.DiagramSame': WHATEVER THE INPUT: true; the input reads as it did. -/
def diagramSameSpec : ChangeSpec := { name := "diagramSame", fn := fun _ => fun
  | [d1, d2, d3] => { results := [.lit (.bool true)], args := [d1, d2, d3] }
  | _ => none }
def diagramSameRow : OpenClaim := { program := "ytlidpghnlloinaagreatdoor", sum := "779fe8a52365fbb66c59dbc7b3f8e763f29475aa5df02fcacf6f25923abc4bc4", func := "annuitant/annuitantlaw17.DiagramSame", spec := "diagramSame", inPlace := ["slices.overlaps[annuitant/api.Value]"], unfollowed := true, recurses := true, named := ["math/bits.overflowError", "internal/strconv.uint64pow10", "math/bits.deBruijn32tab", "math/bits.deBruijn64tab"], apart := false, laid := [("math/bits.deBruijn32tab", laid_math_bits_deBruijn32tab), ("math/bits.deBruijn64tab", laid_math_bits_deBruijn64tab), ("internal/strconv.uint64pow10", laid_internal_strconv_uint64pow10)] }
def DiagramSameSaid : Prop := diagramSameRow.holds Tryz.pinned (OpenSpec.ofChange diagramSameSpec)

/-- ITS FALSE NEIGHBOUR: 'it returns false'. Refute it at one input. -/
def diagramSameWrong : ChangeSpec := { name := "diagramSame", fn := fun _ => fun
  | [d1, d2, d3] => { results := [.lit (.bool false)], args := [d1, d2, d3] }
  | _ => none }
def DiagramSameWrongFalsely : Prop := diagramSameRow.holds Tryz.pinned (OpenSpec.ofChange diagramSameWrong)

/-- 'annuitantlaw17.DiagramSamples': WHATEVER THE INPUT: true; the input reads as it did. -/
def diagramSamplesSpec : ChangeSpec := { name := "diagramSamples", fn := fun _ => fun
  | [d1, d2, d3] => { results := [.lit (.bool true)], args := [d1, d2, d3] }
  | _ => none }
def diagramSamplesRow : OpenClaim := { program := "ytlidpghnlloinaagreatdoor", sum := "779fe8a52365fbb66c59dbc7b3f8e763f29475aa5df02fcacf6f25923abc4bc4", func := "annuitant/annuitantlaw17.DiagramSamples", spec := "diagramSamples", inPlace := ["slices.overlaps[annuitant/api.Value]"], unfollowed := true, recurses := true, named := ["math/bits.overflowError", "internal/strconv.uint64pow10", "math/bits.deBruijn32tab", "math/bits.deBruijn64tab"], apart := false, laid := [("math/bits.deBruijn32tab", laid_math_bits_deBruijn32tab), ("math/bits.deBruijn64tab", laid_math_bits_deBruijn64tab), ("internal/strconv.uint64pow10", laid_internal_strconv_uint64pow10)] }
def DiagramSamplesSaid : Prop := diagramSamplesRow.holds Tryz.pinned (OpenSpec.ofChange diagramSamplesSpec)

/-- ITS FALSE NEIGHBOUR: 'it returns false'. Refute it at one input. -/
def diagramSamplesWrong : ChangeSpec := { name := "diagramSamples", fn := fun _ => fun
  | [d1, d2, d3] => { results := [.lit (.bool false)], args := [d1, d2, d3] }
  | _ => none }
def DiagramSamplesWrongFalsely : Prop := diagramSamplesRow.holds Tryz.pinned (OpenSpec.ofChange diagramSamplesWrong)

/-- 'annuitantlaw17.DiagramDecides': WHATEVER THE INPUT: true; the input reads as it did. -/
def diagramDecidesSpec : ChangeSpec := { name := "diagramDecides", fn := fun _ => fun
  | [d1, d2, d3] => { results := [.lit (.bool true)], args := [d1, d2, d3] }
  | _ => none }
def diagramDecidesRow : OpenClaim := { program := "ytlidpghnlloinaagreatdoor", sum := "779fe8a52365fbb66c59dbc7b3f8e763f29475aa5df02fcacf6f25923abc4bc4", func := "annuitant/annuitantlaw17.DiagramDecides", spec := "diagramDecides", inPlace := ["slices.overlaps[annuitant/api.Value]"], unfollowed := true, recurses := true, named := ["math/bits.overflowError", "internal/strconv.uint64pow10", "math/bits.deBruijn32tab", "math/bits.deBruijn64tab"], apart := false, laid := [("math/bits.deBruijn32tab", laid_math_bits_deBruijn32tab), ("math/bits.deBruijn64tab", laid_math_bits_deBruijn64tab), ("internal/strconv.uint64pow10", laid_internal_strconv_uint64pow10)] }
def DiagramDecidesSaid : Prop := diagramDecidesRow.holds Tryz.pinned (OpenSpec.ofChange diagramDecidesSpec)

/-- ITS FALSE NEIGHBOUR: 'it returns false'. Refute it at one input. -/
def diagramDecidesWrong : ChangeSpec := { name := "diagramDecides", fn := fun _ => fun
  | [d1, d2, d3] => { results := [.lit (.bool false)], args := [d1, d2, d3] }
  | _ => none }
def DiagramDecidesWrongFalsely : Prop := diagramDecidesRow.holds Tryz.pinned (OpenSpec.ofChange diagramDecidesWrong)

/-- 'annuitantlaw17.DiagramOf': WHATEVER THE INPUT: true; the input reads as it did. -/
def diagramOfSpec : ChangeSpec := { name := "diagramOf", fn := fun _ => fun
  | [d1, d2, d3, d4] => { results := [.lit (.bool true)], args := [d1, d2, d3, d4] }
  | _ => none }
def diagramOfRow : OpenClaim := { program := "ytlidpghnlloinaagreatdoor", sum := "779fe8a52365fbb66c59dbc7b3f8e763f29475aa5df02fcacf6f25923abc4bc4", func := "annuitant/annuitantlaw17.DiagramOf", spec := "diagramOf", inPlace := ["slices.overlaps[annuitant/api.Value]"], unfollowed := true, recurses := true, named := ["math/bits.overflowError", "internal/strconv.uint64pow10", "math/bits.deBruijn32tab", "math/bits.deBruijn64tab"], loops := true, apart := false, laid := [("math/bits.deBruijn32tab", laid_math_bits_deBruijn32tab), ("math/bits.deBruijn64tab", laid_math_bits_deBruijn64tab), ("internal/strconv.uint64pow10", laid_internal_strconv_uint64pow10)] }
def DiagramOfSaid : Prop := diagramOfRow.holds Tryz.pinned (OpenSpec.ofChange diagramOfSpec)

/-- ITS FALSE NEIGHBOUR: 'it returns false'. Refute it at one input. -/
def diagramOfWrong : ChangeSpec := { name := "diagramOf", fn := fun _ => fun
  | [d1, d2, d3, d4] => { results := [.lit (.bool false)], args := [d1, d2, d3, d4] }
  | _ => none }
def DiagramOfWrongFalsely : Prop := diagramOfRow.holds Tryz.pinned (OpenSpec.ofChange diagramOfWrong)

/- THE SECOND FORM. 'bulk': how many values and letters a reading holds, each counted each time it is reached (what is shared counts as often as it is met; a slice's spare places count too). A statement '..UptoSaid' is the law's where the arguments, and the package variables that the reading takes, are together of bulk at most 1048576: NARROWER than '..Said'. Prove '..Said' where nothing that the law and all that it calls make is longer than what came in: it says more and counts as full. Else prove '..UptoSaid'. A law counts once. -/
mutual
def uptoBulk {H : Type} : DataW H → Nat
  | .lit (.string bytes) => bytes.length + 1
  | .lit _ => 1
  | .nil => 1
  | .ptr d => uptoBulk d + 1
  | .slice elems spare => uptoBulkAll elems + uptoBulkAll spare + 1
  | .agg parts => uptoBulkAll parts + 1
  | .iface _ d => uptoBulk d + 1
  | .map entries => uptoBulkEntries entries + 1
  | .held _ => 1
def uptoBulkAll {H : Type} : List (DataW H) → Nat
  | [] => 0
  | d :: r => uptoBulk d + uptoBulkAll r
def uptoBulkEntries {H : Type} : List (Lit × DataW H) → Nat
  | [] => 0
  | x :: r => uptoBulkEntry x + uptoBulkEntries r
def uptoBulkEntry {H : Type} : Lit × DataW H → Nat
  | (.string bytes, d) => bytes.length + uptoBulk d + 1
  | (_, d) => uptoBulk d + 1
 end
def uptoSmall : (H : Type) → List (DataW H) → Bool := fun _ ds => decide (uptoBulkAll ds ≤ 1048576)
def OpenSpec.upto (s : _root_.Go.ChangeSpec) : _root_.Go.OpenSpec := { _root_.Go.OpenSpec.ofChange s with cond := some uptoSmall }

/-- 'annuitantlaw17.DiagramTells', WHERE WHAT IT READS IS OF BULK AT MOST 1048576: true; the input reads as it did. -/
def diagramTellsUptoRow : OpenClaim := { program := "ytlidpghnlloinaagreatdoor", sum := "779fe8a52365fbb66c59dbc7b3f8e763f29475aa5df02fcacf6f25923abc4bc4", func := "annuitant/annuitantlaw17.DiagramTells", spec := "diagramTells", inPlace := ["slices.overlaps[annuitant/api.Value]"], unfollowed := true, recurses := true, named := ["math/bits.overflowError", "internal/strconv.uint64pow10", "math/bits.deBruijn32tab", "math/bits.deBruijn64tab"], loops := true, apart := false, laid := [("math/bits.deBruijn32tab", laid_math_bits_deBruijn32tab), ("math/bits.deBruijn64tab", laid_math_bits_deBruijn64tab), ("internal/strconv.uint64pow10", laid_internal_strconv_uint64pow10)], narrowed := true }
def DiagramTellsUptoSaid : Prop := diagramTellsUptoRow.holds Tryz.pinned (OpenSpec.upto diagramTellsSpec)

/-- 'annuitantlaw17.DiagramReduced', WHERE WHAT IT READS IS OF BULK AT MOST 1048576: true; the input reads as it did. -/
def diagramReducedUptoRow : OpenClaim := { program := "ytlidpghnlloinaagreatdoor", sum := "779fe8a52365fbb66c59dbc7b3f8e763f29475aa5df02fcacf6f25923abc4bc4", func := "annuitant/annuitantlaw17.DiagramReduced", spec := "diagramReduced", inPlace := ["slices.overlaps[annuitant/api.Value]"], unfollowed := true, recurses := true, named := ["math/bits.overflowError", "internal/strconv.uint64pow10", "math/bits.deBruijn32tab", "math/bits.deBruijn64tab"], apart := false, laid := [("math/bits.deBruijn32tab", laid_math_bits_deBruijn32tab), ("math/bits.deBruijn64tab", laid_math_bits_deBruijn64tab), ("internal/strconv.uint64pow10", laid_internal_strconv_uint64pow10)], narrowed := true }
def DiagramReducedUptoSaid : Prop := diagramReducedUptoRow.holds Tryz.pinned (OpenSpec.upto diagramReducedSpec)

/-- 'annuitantlaw17.DiagramWalks', WHERE WHAT IT READS IS OF BULK AT MOST 1048576: true; the input reads as it did. -/
def diagramWalksUptoRow : OpenClaim := { program := "ytlidpghnlloinaagreatdoor", sum := "779fe8a52365fbb66c59dbc7b3f8e763f29475aa5df02fcacf6f25923abc4bc4", func := "annuitant/annuitantlaw17.DiagramWalks", spec := "diagramWalks", inPlace := ["slices.overlaps[annuitant/api.Value]"], unfollowed := true, recurses := true, named := ["math/bits.overflowError", "internal/strconv.uint64pow10", "math/bits.deBruijn32tab", "math/bits.deBruijn64tab"], loops := true, apart := false, laid := [("math/bits.deBruijn32tab", laid_math_bits_deBruijn32tab), ("math/bits.deBruijn64tab", laid_math_bits_deBruijn64tab), ("internal/strconv.uint64pow10", laid_internal_strconv_uint64pow10)], narrowed := true }
def DiagramWalksUptoSaid : Prop := diagramWalksUptoRow.holds Tryz.pinned (OpenSpec.upto diagramWalksSpec)

/-- 'annuitantlaw17.DiagramComplete', WHERE WHAT IT READS IS OF BULK AT MOST 1048576: true; the input reads as it did. -/
def diagramCompleteUptoRow : OpenClaim := { program := "ytlidpghnlloinaagreatdoor", sum := "779fe8a52365fbb66c59dbc7b3f8e763f29475aa5df02fcacf6f25923abc4bc4", func := "annuitant/annuitantlaw17.DiagramComplete", spec := "diagramComplete", inPlace := ["slices.overlaps[annuitant/api.Value]"], unfollowed := true, recurses := true, named := ["math/bits.overflowError", "internal/strconv.uint64pow10", "math/bits.deBruijn32tab", "math/bits.deBruijn64tab"], apart := false, laid := [("math/bits.deBruijn32tab", laid_math_bits_deBruijn32tab), ("math/bits.deBruijn64tab", laid_math_bits_deBruijn64tab), ("internal/strconv.uint64pow10", laid_internal_strconv_uint64pow10)], narrowed := true }
def DiagramCompleteUptoSaid : Prop := diagramCompleteUptoRow.holds Tryz.pinned (OpenSpec.upto diagramCompleteSpec)

/-- 'annuitantlaw17.DiagramSame', WHERE WHAT IT READS IS OF BULK AT MOST 1048576: true; the input reads as it did. -/
def diagramSameUptoRow : OpenClaim := { program := "ytlidpghnlloinaagreatdoor", sum := "779fe8a52365fbb66c59dbc7b3f8e763f29475aa5df02fcacf6f25923abc4bc4", func := "annuitant/annuitantlaw17.DiagramSame", spec := "diagramSame", inPlace := ["slices.overlaps[annuitant/api.Value]"], unfollowed := true, recurses := true, named := ["math/bits.overflowError", "internal/strconv.uint64pow10", "math/bits.deBruijn32tab", "math/bits.deBruijn64tab"], apart := false, laid := [("math/bits.deBruijn32tab", laid_math_bits_deBruijn32tab), ("math/bits.deBruijn64tab", laid_math_bits_deBruijn64tab), ("internal/strconv.uint64pow10", laid_internal_strconv_uint64pow10)], narrowed := true }
def DiagramSameUptoSaid : Prop := diagramSameUptoRow.holds Tryz.pinned (OpenSpec.upto diagramSameSpec)

/-- 'annuitantlaw17.DiagramSamples', WHERE WHAT IT READS IS OF BULK AT MOST 1048576: true; the input reads as it did. -/
def diagramSamplesUptoRow : OpenClaim := { program := "ytlidpghnlloinaagreatdoor", sum := "779fe8a52365fbb66c59dbc7b3f8e763f29475aa5df02fcacf6f25923abc4bc4", func := "annuitant/annuitantlaw17.DiagramSamples", spec := "diagramSamples", inPlace := ["slices.overlaps[annuitant/api.Value]"], unfollowed := true, recurses := true, named := ["math/bits.overflowError", "internal/strconv.uint64pow10", "math/bits.deBruijn32tab", "math/bits.deBruijn64tab"], apart := false, laid := [("math/bits.deBruijn32tab", laid_math_bits_deBruijn32tab), ("math/bits.deBruijn64tab", laid_math_bits_deBruijn64tab), ("internal/strconv.uint64pow10", laid_internal_strconv_uint64pow10)], narrowed := true }
def DiagramSamplesUptoSaid : Prop := diagramSamplesUptoRow.holds Tryz.pinned (OpenSpec.upto diagramSamplesSpec)

/-- 'annuitantlaw17.DiagramDecides', WHERE WHAT IT READS IS OF BULK AT MOST 1048576: true; the input reads as it did. -/
def diagramDecidesUptoRow : OpenClaim := { program := "ytlidpghnlloinaagreatdoor", sum := "779fe8a52365fbb66c59dbc7b3f8e763f29475aa5df02fcacf6f25923abc4bc4", func := "annuitant/annuitantlaw17.DiagramDecides", spec := "diagramDecides", inPlace := ["slices.overlaps[annuitant/api.Value]"], unfollowed := true, recurses := true, named := ["math/bits.overflowError", "internal/strconv.uint64pow10", "math/bits.deBruijn32tab", "math/bits.deBruijn64tab"], apart := false, laid := [("math/bits.deBruijn32tab", laid_math_bits_deBruijn32tab), ("math/bits.deBruijn64tab", laid_math_bits_deBruijn64tab), ("internal/strconv.uint64pow10", laid_internal_strconv_uint64pow10)], narrowed := true }
def DiagramDecidesUptoSaid : Prop := diagramDecidesUptoRow.holds Tryz.pinned (OpenSpec.upto diagramDecidesSpec)

/-- 'annuitantlaw17.DiagramOf', WHERE WHAT IT READS IS OF BULK AT MOST 1048576: true; the input reads as it did. -/
def diagramOfUptoRow : OpenClaim := { program := "ytlidpghnlloinaagreatdoor", sum := "779fe8a52365fbb66c59dbc7b3f8e763f29475aa5df02fcacf6f25923abc4bc4", func := "annuitant/annuitantlaw17.DiagramOf", spec := "diagramOf", inPlace := ["slices.overlaps[annuitant/api.Value]"], unfollowed := true, recurses := true, named := ["math/bits.overflowError", "internal/strconv.uint64pow10", "math/bits.deBruijn32tab", "math/bits.deBruijn64tab"], loops := true, apart := false, laid := [("math/bits.deBruijn32tab", laid_math_bits_deBruijn32tab), ("math/bits.deBruijn64tab", laid_math_bits_deBruijn64tab), ("internal/strconv.uint64pow10", laid_internal_strconv_uint64pow10)], narrowed := true }
def DiagramOfUptoSaid : Prop := diagramOfUptoRow.holds Tryz.pinned (OpenSpec.upto diagramOfSpec)

end Rows
end Go.Proofs.YtlidpghnlloinaaGreatDoor
