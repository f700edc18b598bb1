/-
  NARROWER THAN 'FOR EVERY INPUT', by the rows' own cells (each row's printed sentence says how): GuardTells: loops · GuardCells: loops · GuardSamples: loops · GuardForce: loops · GuardLast: loops · GuardAmends: loops.
  DERIVED. THE GIVEN ROWS OF THIS SEAT. 8 by the template 'for every input the law returns true; each argument reads behind the call as it read before'; 0 by the template 'total and deterministic' (their statements: YthooiobhlbnaoaaGreatTotals.lean).
  GIVEN WITH THE SEED: the statements are not yours to turn. If you find one false, say at which input.
  Laid BY PROGRAM, IN A SANDBOX (cutbox-rows.mjs): the forced cells as the released guide's own fill.sh prints them over the translation 168a24607276ecba… (all of the seat's roots in one cut). By AI agents, Wed Nov 11 2026. No macro, syntax, notation, axiom, sorry.
-/
import Derived.Test.YthooiobhlbnaoaaGreatChecked
import GoSem.Claim
import GoSem.ClaimJoined
import GoSem.ClaimMapViews
import Derived.JoinedTies
import Derived.KernelRfl
namespace Go.Proofs.YthooiobhlbnaoaaGreat
/- THE CELL 'sum', in the pinned program and in every row, IS THE sha256 OF THE DUMP (.gsa) THAT YthooiobhlbnaoaaGreatProg.lean LOADS. Nothing in Lean hashes anything: it is a label: what it is worth is what the hold of that sum in a sandbox is worth. -/
noncomputable def Tryz.pinned : Pinned := { name := "ythooiobhlbnaoaagreat", sum := "168a24607276ecbac0a3d594b6176fbd8a3f1ab3646277eb86858e835d2148c1", checked := Tryz.checked }
namespace Rows
def none {H : Type} : Left H := { results := [], args := [] }

/-- 'annuitantlaw16.GuardTells': WHATEVER THE INPUT: true; the input reads as it did. -/
def guardTellsSpec : ChangeSpec := { name := "guardTells", fn := fun _ => fun
  | [d] => { results := [.lit (.bool true)], args := [d] }
  | _ => none }
def guardTellsRow : OpenClaim := { program := "ythooiobhlbnaoaagreat", sum := "168a24607276ecbac0a3d594b6176fbd8a3f1ab3646277eb86858e835d2148c1", func := "annuitant/annuitantlaw16.GuardTells", spec := "guardTells", inPlace := ["slices.overlaps[annuitant/api.Value]"], unfollowed := true, recurses := true, named := ["math/bits.overflowError"], loops := true, apart := false }
def GuardTellsSaid : Prop := guardTellsRow.holds Tryz.pinned (OpenSpec.ofChange guardTellsSpec)

/-- ITS FALSE NEIGHBOUR: 'it returns false'. Refute it at one input. -/
def guardTellsWrong : ChangeSpec := { name := "guardTells", fn := fun _ => fun
  | [d] => { results := [.lit (.bool false)], args := [d] }
  | _ => none }
def GuardTellsWrongFalsely : Prop := guardTellsRow.holds Tryz.pinned (OpenSpec.ofChange guardTellsWrong)

/-- 'annuitantlaw16.GuardCells': WHATEVER THE INPUT: true; the input reads as it did. -/
def guardCellsSpec : ChangeSpec := { name := "guardCells", fn := fun _ => fun
  | [d1, d2, d3, d4, d5] => { results := [.lit (.bool true)], args := [d1, d2, d3, d4, d5] }
  | _ => none }
def guardCellsRow : OpenClaim := { program := "ythooiobhlbnaoaagreat", sum := "168a24607276ecbac0a3d594b6176fbd8a3f1ab3646277eb86858e835d2148c1", func := "annuitant/annuitantlaw16.GuardCells", spec := "guardCells", inPlace := ["slices.overlaps[annuitant/api.Value]"], unfollowed := true, recurses := true, named := ["math/bits.overflowError"], loops := true, apart := false }
def GuardCellsSaid : Prop := guardCellsRow.holds Tryz.pinned (OpenSpec.ofChange guardCellsSpec)

/-- ITS FALSE NEIGHBOUR: 'it returns false'. Refute it at one input. -/
def guardCellsWrong : ChangeSpec := { name := "guardCells", fn := fun _ => fun
  | [d1, d2, d3, d4, d5] => { results := [.lit (.bool false)], args := [d1, d2, d3, d4, d5] }
  | _ => none }
def GuardCellsWrongFalsely : Prop := guardCellsRow.holds Tryz.pinned (OpenSpec.ofChange guardCellsWrong)

/-- 'annuitantlaw16.GuardCellsDecide': WHATEVER THE INPUT: true; the input reads as it did. -/
def guardCellsDecideSpec : ChangeSpec := { name := "guardCellsDecide", fn := fun _ => fun
  | [d1, d2, d3] => { results := [.lit (.bool true)], args := [d1, d2, d3] }
  | _ => none }
def guardCellsDecideRow : OpenClaim := { program := "ythooiobhlbnaoaagreat", sum := "168a24607276ecbac0a3d594b6176fbd8a3f1ab3646277eb86858e835d2148c1", func := "annuitant/annuitantlaw16.GuardCellsDecide", spec := "guardCellsDecide", inPlace := ["slices.overlaps[annuitant/api.Value]"], unfollowed := true, recurses := true, named := ["math/bits.overflowError"], apart := false }
def GuardCellsDecideSaid : Prop := guardCellsDecideRow.holds Tryz.pinned (OpenSpec.ofChange guardCellsDecideSpec)

/-- ITS FALSE NEIGHBOUR: 'it returns false'. Refute it at one input. -/
def guardCellsDecideWrong : ChangeSpec := { name := "guardCellsDecide", fn := fun _ => fun
  | [d1, d2, d3] => { results := [.lit (.bool false)], args := [d1, d2, d3] }
  | _ => none }
def GuardCellsDecideWrongFalsely : Prop := guardCellsDecideRow.holds Tryz.pinned (OpenSpec.ofChange guardCellsDecideWrong)

/-- 'annuitantlaw16.GuardSamples': WHATEVER THE INPUT: true; the input reads as it did. -/
def guardSamplesSpec : ChangeSpec := { name := "guardSamples", fn := fun _ => fun
  | [d1, d2, d3] => { results := [.lit (.bool true)], args := [d1, d2, d3] }
  | _ => none }
def guardSamplesRow : OpenClaim := { program := "ythooiobhlbnaoaagreat", sum := "168a24607276ecbac0a3d594b6176fbd8a3f1ab3646277eb86858e835d2148c1", func := "annuitant/annuitantlaw16.GuardSamples", spec := "guardSamples", inPlace := ["slices.overlaps[annuitant/api.Value]"], unfollowed := true, recurses := true, named := ["math/bits.overflowError"], loops := true, apart := false }
def GuardSamplesSaid : Prop := guardSamplesRow.holds Tryz.pinned (OpenSpec.ofChange guardSamplesSpec)

/-- ITS FALSE NEIGHBOUR: 'it returns false'. Refute it at one input. -/
def guardSamplesWrong : ChangeSpec := { name := "guardSamples", fn := fun _ => fun
  | [d1, d2, d3] => { results := [.lit (.bool false)], args := [d1, d2, d3] }
  | _ => none }
def GuardSamplesWrongFalsely : Prop := guardSamplesRow.holds Tryz.pinned (OpenSpec.ofChange guardSamplesWrong)

/-- 'annuitantlaw16.GuardScales': WHATEVER THE INPUT: true; the input reads as it did. -/
def guardScalesSpec : ChangeSpec := { name := "guardScales", fn := fun _ => fun
  | [d1, d2, d3] => { results := [.lit (.bool true)], args := [d1, d2, d3] }
  | _ => none }
def guardScalesRow : OpenClaim := { program := "ythooiobhlbnaoaagreat", sum := "168a24607276ecbac0a3d594b6176fbd8a3f1ab3646277eb86858e835d2148c1", func := "annuitant/annuitantlaw16.GuardScales", spec := "guardScales", inPlace := ["slices.overlaps[annuitant/api.Value]"], unfollowed := true, recurses := true, named := ["math/bits.overflowError"], apart := false }
def GuardScalesSaid : Prop := guardScalesRow.holds Tryz.pinned (OpenSpec.ofChange guardScalesSpec)

/-- ITS FALSE NEIGHBOUR: 'it returns false'. Refute it at one input. -/
def guardScalesWrong : ChangeSpec := { name := "guardScales", fn := fun _ => fun
  | [d1, d2, d3] => { results := [.lit (.bool false)], args := [d1, d2, d3] }
  | _ => none }
def GuardScalesWrongFalsely : Prop := guardScalesRow.holds Tryz.pinned (OpenSpec.ofChange guardScalesWrong)

/-- 'annuitantlaw16.GuardForce': WHATEVER THE INPUT: true; the input reads as it did. -/
def guardForceSpec : ChangeSpec := { name := "guardForce", fn := fun _ => fun
  | [d1, d2, d3, d4] => { results := [.lit (.bool true)], args := [d1, d2, d3, d4] }
  | _ => none }
def guardForceRow : OpenClaim := { program := "ythooiobhlbnaoaagreat", sum := "168a24607276ecbac0a3d594b6176fbd8a3f1ab3646277eb86858e835d2148c1", func := "annuitant/annuitantlaw16.GuardForce", spec := "guardForce", inPlace := ["slices.overlaps[annuitant/api.Value]"], unfollowed := true, recurses := true, named := ["math/bits.overflowError"], loops := true, apart := false }
def GuardForceSaid : Prop := guardForceRow.holds Tryz.pinned (OpenSpec.ofChange guardForceSpec)

/-- ITS FALSE NEIGHBOUR: 'it returns false'. Refute it at one input. -/
def guardForceWrong : ChangeSpec := { name := "guardForce", fn := fun _ => fun
  | [d1, d2, d3, d4] => { results := [.lit (.bool false)], args := [d1, d2, d3, d4] }
  | _ => none }
def GuardForceWrongFalsely : Prop := guardForceRow.holds Tryz.pinned (OpenSpec.ofChange guardForceWrong)

/-- 'annuitantlaw16.GuardLast': WHATEVER THE INPUT: true; the input reads as it did. -/
def guardLastSpec : ChangeSpec := { name := "guardLast", fn := fun _ => fun
  | [d1, d2, d3, d4] => { results := [.lit (.bool true)], args := [d1, d2, d3, d4] }
  | _ => none }
def guardLastRow : OpenClaim := { program := "ythooiobhlbnaoaagreat", sum := "168a24607276ecbac0a3d594b6176fbd8a3f1ab3646277eb86858e835d2148c1", func := "annuitant/annuitantlaw16.GuardLast", spec := "guardLast", inPlace := ["slices.overlaps[annuitant/api.Value]"], unfollowed := true, recurses := true, named := ["math/bits.overflowError"], loops := true, apart := false }
def GuardLastSaid : Prop := guardLastRow.holds Tryz.pinned (OpenSpec.ofChange guardLastSpec)

/-- ITS FALSE NEIGHBOUR: 'it returns false'. Refute it at one input. -/
def guardLastWrong : ChangeSpec := { name := "guardLast", fn := fun _ => fun
  | [d1, d2, d3, d4] => { results := [.lit (.bool false)], args := [d1, d2, d3, d4] }
  | _ => none }
def GuardLastWrongFalsely : Prop := guardLastRow.holds Tryz.pinned (OpenSpec.ofChange guardLastWrong)

/-- 'annuitantlaw16.GuardAmends': WHATEVER THE INPUT: true; the input reads as it did. -/
def guardAmendsSpec : ChangeSpec := { name := "guardAmends", fn := fun _ => fun
  | [d1, d2, d3, d4, d5] => { results := [.lit (.bool true)], args := [d1, d2, d3, d4, d5] }
  | _ => none }
def guardAmendsRow : OpenClaim := { program := "ythooiobhlbnaoaagreat", sum := "168a24607276ecbac0a3d594b6176fbd8a3f1ab3646277eb86858e835d2148c1", func := "annuitant/annuitantlaw16.GuardAmends", spec := "guardAmends", inPlace := ["slices.overlaps[annuitant/api.Value]"], unfollowed := true, recurses := true, named := ["math/bits.overflowError"], loops := true, apart := false }
def GuardAmendsSaid : Prop := guardAmendsRow.holds Tryz.pinned (OpenSpec.ofChange guardAmendsSpec)

/-- ITS FALSE NEIGHBOUR: 'it returns false'. Refute it at one input. -/
def guardAmendsWrong : ChangeSpec := { name := "guardAmends", fn := fun _ => fun
  | [d1, d2, d3, d4, d5] => { results := [.lit (.bool false)], args := [d1, d2, d3, d4, d5] }
  | _ => none }
def GuardAmendsWrongFalsely : Prop := guardAmendsRow.holds Tryz.pinned (OpenSpec.ofChange guardAmendsWrong)

/- THE SECOND FORM. 'bulk': how many values and letters a reading holds, each counted each time it is reached (what is shared counts as often as it is met; a slice's spare places count too). A statement '..UptoSaid' is the law's where the arguments, and the package variables that the reading takes, are together of bulk at most 1048576: NARROWER than '..Said'. Prove '..Said' where nothing that the law and all that it calls make is longer than what came in: it says more and counts as full. Else prove '..UptoSaid'. A law counts once. -/
mutual
def uptoBulk {H : Type} : DataW H → Nat
  | .lit (.string bytes) => bytes.length + 1
  | .lit _ => 1
  | .nil => 1
  | .ptr d => uptoBulk d + 1
  | .slice elems spare => uptoBulkAll elems + uptoBulkAll spare + 1
  | .agg parts => uptoBulkAll parts + 1
  | .iface _ d => uptoBulk d + 1
  | .map entries => uptoBulkEntries entries + 1
  | .held _ => 1
def uptoBulkAll {H : Type} : List (DataW H) → Nat
  | [] => 0
  | d :: r => uptoBulk d + uptoBulkAll r
def uptoBulkEntries {H : Type} : List (Lit × DataW H) → Nat
  | [] => 0
  | x :: r => uptoBulkEntry x + uptoBulkEntries r
def uptoBulkEntry {H : Type} : Lit × DataW H → Nat
  | (.string bytes, d) => bytes.length + uptoBulk d + 1
  | (_, d) => uptoBulk d + 1
 end
def uptoSmall : (H : Type) → List (DataW H) → Bool := fun _ ds => decide (uptoBulkAll ds ≤ 1048576)
def OpenSpec.upto (s : _root_.Go.ChangeSpec) : _root_.Go.OpenSpec := { _root_.Go.OpenSpec.ofChange s with cond := some uptoSmall }

/-- 'annuitantlaw16.GuardTells', WHERE WHAT IT READS IS OF BULK AT MOST 1048576: true; the input reads as it did. -/
def guardTellsUptoRow : OpenClaim := { program := "ythooiobhlbnaoaagreat", sum := "168a24607276ecbac0a3d594b6176fbd8a3f1ab3646277eb86858e835d2148c1", func := "annuitant/annuitantlaw16.GuardTells", spec := "guardTells", inPlace := ["slices.overlaps[annuitant/api.Value]"], unfollowed := true, recurses := true, named := ["math/bits.overflowError"], loops := true, apart := false, narrowed := true }
def GuardTellsUptoSaid : Prop := guardTellsUptoRow.holds Tryz.pinned (OpenSpec.upto guardTellsSpec)

/-- 'annuitantlaw16.GuardCells', WHERE WHAT IT READS IS OF BULK AT MOST 1048576: true; the input reads as it did. -/
def guardCellsUptoRow : OpenClaim := { program := "ythooiobhlbnaoaagreat", sum := "168a24607276ecbac0a3d594b6176fbd8a3f1ab3646277eb86858e835d2148c1", func := "annuitant/annuitantlaw16.GuardCells", spec := "guardCells", inPlace := ["slices.overlaps[annuitant/api.Value]"], unfollowed := true, recurses := true, named := ["math/bits.overflowError"], loops := true, apart := false, narrowed := true }
def GuardCellsUptoSaid : Prop := guardCellsUptoRow.holds Tryz.pinned (OpenSpec.upto guardCellsSpec)

/-- 'annuitantlaw16.GuardCellsDecide', WHERE WHAT IT READS IS OF BULK AT MOST 1048576: true; the input reads as it did. -/
def guardCellsDecideUptoRow : OpenClaim := { program := "ythooiobhlbnaoaagreat", sum := "168a24607276ecbac0a3d594b6176fbd8a3f1ab3646277eb86858e835d2148c1", func := "annuitant/annuitantlaw16.GuardCellsDecide", spec := "guardCellsDecide", inPlace := ["slices.overlaps[annuitant/api.Value]"], unfollowed := true, recurses := true, named := ["math/bits.overflowError"], apart := false, narrowed := true }
def GuardCellsDecideUptoSaid : Prop := guardCellsDecideUptoRow.holds Tryz.pinned (OpenSpec.upto guardCellsDecideSpec)

/-- 'annuitantlaw16.GuardSamples', WHERE WHAT IT READS IS OF BULK AT MOST 1048576: true; the input reads as it did. -/
def guardSamplesUptoRow : OpenClaim := { program := "ythooiobhlbnaoaagreat", sum := "168a24607276ecbac0a3d594b6176fbd8a3f1ab3646277eb86858e835d2148c1", func := "annuitant/annuitantlaw16.GuardSamples", spec := "guardSamples", inPlace := ["slices.overlaps[annuitant/api.Value]"], unfollowed := true, recurses := true, named := ["math/bits.overflowError"], loops := true, apart := false, narrowed := true }
def GuardSamplesUptoSaid : Prop := guardSamplesUptoRow.holds Tryz.pinned (OpenSpec.upto guardSamplesSpec)

/-- 'annuitantlaw16.GuardScales', WHERE WHAT IT READS IS OF BULK AT MOST 1048576: true; the input reads as it did. -/
def guardScalesUptoRow : OpenClaim := { program := "ythooiobhlbnaoaagreat", sum := "168a24607276ecbac0a3d594b6176fbd8a3f1ab3646277eb86858e835d2148c1", func := "annuitant/annuitantlaw16.GuardScales", spec := "guardScales", inPlace := ["slices.overlaps[annuitant/api.Value]"], unfollowed := true, recurses := true, named := ["math/bits.overflowError"], apart := false, narrowed := true }
def GuardScalesUptoSaid : Prop := guardScalesUptoRow.holds Tryz.pinned (OpenSpec.upto guardScalesSpec)

/-- 'annuitantlaw16.GuardForce', WHERE WHAT IT READS IS OF BULK AT MOST 1048576: true; the input reads as it did. -/
def guardForceUptoRow : OpenClaim := { program := "ythooiobhlbnaoaagreat", sum := "168a24607276ecbac0a3d594b6176fbd8a3f1ab3646277eb86858e835d2148c1", func := "annuitant/annuitantlaw16.GuardForce", spec := "guardForce", inPlace := ["slices.overlaps[annuitant/api.Value]"], unfollowed := true, recurses := true, named := ["math/bits.overflowError"], loops := true, apart := false, narrowed := true }
def GuardForceUptoSaid : Prop := guardForceUptoRow.holds Tryz.pinned (OpenSpec.upto guardForceSpec)

/-- 'annuitantlaw16.GuardLast', WHERE WHAT IT READS IS OF BULK AT MOST 1048576: true; the input reads as it did. -/
def guardLastUptoRow : OpenClaim := { program := "ythooiobhlbnaoaagreat", sum := "168a24607276ecbac0a3d594b6176fbd8a3f1ab3646277eb86858e835d2148c1", func := "annuitant/annuitantlaw16.GuardLast", spec := "guardLast", inPlace := ["slices.overlaps[annuitant/api.Value]"], unfollowed := true, recurses := true, named := ["math/bits.overflowError"], loops := true, apart := false, narrowed := true }
def GuardLastUptoSaid : Prop := guardLastUptoRow.holds Tryz.pinned (OpenSpec.upto guardLastSpec)

/-- 'annuitantlaw16.GuardAmends', WHERE WHAT IT READS IS OF BULK AT MOST 1048576: true; the input reads as it did. -/
def guardAmendsUptoRow : OpenClaim := { program := "ythooiobhlbnaoaagreat", sum := "168a24607276ecbac0a3d594b6176fbd8a3f1ab3646277eb86858e835d2148c1", func := "annuitant/annuitantlaw16.GuardAmends", spec := "guardAmends", inPlace := ["slices.overlaps[annuitant/api.Value]"], unfollowed := true, recurses := true, named := ["math/bits.overflowError"], loops := true, apart := false, narrowed := true }
def GuardAmendsUptoSaid : Prop := guardAmendsUptoRow.holds Tryz.pinned (OpenSpec.upto guardAmendsSpec)

end Rows
end Go.Proofs.YthooiobhlbnaoaaGreat
