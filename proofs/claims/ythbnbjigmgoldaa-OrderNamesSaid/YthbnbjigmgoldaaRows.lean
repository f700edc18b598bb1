/-
  NARROWER THAN 'FOR EVERY INPUT', by the rows' own cells (each row's printed sentence says how): OrderGreedy: loops · OrderTells: loops · OrderSorts: loops · OrderItself: loops · OrderReach: loops · OrderLess: loops · OrderNames: loops.
  DERIVED. THE GIVEN ROWS OF THIS SEAT. 7 by the template 'for every input the law returns true; each argument reads behind the call as it read before'; 0 by the template 'total and deterministic' (their statements: YthbnbjigmgoldaaTotals.lean).
  GIVEN WITH THE SEED: the statements are not yours to turn. If you find one false, say at which input.
  Laid BY PROGRAM, IN A SANDBOX (cutbox-rows.mjs): the forced cells as the released guide's own fill.sh prints them over the translation d6530cd0e910db3f… (all of the seat's roots in one cut). By AI agents, Wed Nov 11 2026. No macro, syntax, notation, axiom, sorry.
-/
import Derived.Test.YthbnbjigmgoldaaChecked
import GoSem.Claim
import GoSem.ClaimJoined
import GoSem.ClaimMapViews
import Derived.JoinedTies
import Derived.KernelRfl
namespace Go.Proofs.Ythbnbjigmgoldaa
/- THE CELL 'sum', in the pinned program and in every row, IS THE sha256 OF THE DUMP (.gsa) THAT YthbnbjigmgoldaaProg.lean LOADS. Nothing in Lean hashes anything: it is a label: what it is worth is what the hold of that sum in a sandbox is worth. -/
noncomputable def Try.pinned : Pinned := { name := "ythbnbjigmgoldaa", sum := "d6530cd0e910db3f93b7f84c2c5459497c8c19779c8b05d7075a36cb53eeaa8b", checked := Try.checked }
namespace Rows
def none {H : Type} : Left H := { results := [], args := [] }

/-- 'annuitantlaw15.OrderGreedy': WHATEVER THE INPUT: true; the input reads as it did. -/
def orderGreedySpec : ChangeSpec := { name := "orderGreedy", fn := fun _ => fun
  | [d] => { results := [.lit (.bool true)], args := [d] }
  | _ => none }
def orderGreedyRow : OpenClaim := { program := "ythbnbjigmgoldaa", sum := "d6530cd0e910db3f93b7f84c2c5459497c8c19779c8b05d7075a36cb53eeaa8b", func := "annuitant/annuitantlaw15.OrderGreedy", spec := "orderGreedy", unfollowed := true, recurses := true, loops := true, apart := false }
def OrderGreedySaid : Prop := orderGreedyRow.holds Try.pinned (OpenSpec.ofChange orderGreedySpec)

/-- ITS FALSE NEIGHBOUR: 'it returns false'. Refute it at one input. -/
def orderGreedyWrong : ChangeSpec := { name := "orderGreedy", fn := fun _ => fun
  | [d] => { results := [.lit (.bool false)], args := [d] }
  | _ => none }
def OrderGreedyWrongFalsely : Prop := orderGreedyRow.holds Try.pinned (OpenSpec.ofChange orderGreedyWrong)

/-- 'annuitantlaw15.OrderTells': WHATEVER THE INPUT: true; the input reads as it did. -/
def orderTellsSpec : ChangeSpec := { name := "orderTells", fn := fun _ => fun
  | [d1, d2, d3] => { results := [.lit (.bool true)], args := [d1, d2, d3] }
  | _ => none }
def orderTellsRow : OpenClaim := { program := "ythbnbjigmgoldaa", sum := "d6530cd0e910db3f93b7f84c2c5459497c8c19779c8b05d7075a36cb53eeaa8b", func := "annuitant/annuitantlaw15.OrderTells", spec := "orderTells", unfollowed := true, recurses := true, loops := true, apart := false }
def OrderTellsSaid : Prop := orderTellsRow.holds Try.pinned (OpenSpec.ofChange orderTellsSpec)

/-- ITS FALSE NEIGHBOUR: 'it returns false'. Refute it at one input. -/
def orderTellsWrong : ChangeSpec := { name := "orderTells", fn := fun _ => fun
  | [d1, d2, d3] => { results := [.lit (.bool false)], args := [d1, d2, d3] }
  | _ => none }
def OrderTellsWrongFalsely : Prop := orderTellsRow.holds Try.pinned (OpenSpec.ofChange orderTellsWrong)

/-- 'annuitantlaw15.OrderSorts': WHATEVER THE INPUT: true; the input reads as it did. -/
def orderSortsSpec : ChangeSpec := { name := "orderSorts", fn := fun _ => fun
  | [d] => { results := [.lit (.bool true)], args := [d] }
  | _ => none }
def orderSortsRow : OpenClaim := { program := "ythbnbjigmgoldaa", sum := "d6530cd0e910db3f93b7f84c2c5459497c8c19779c8b05d7075a36cb53eeaa8b", func := "annuitant/annuitantlaw15.OrderSorts", spec := "orderSorts", unfollowed := true, recurses := true, loops := true, apart := false }
def OrderSortsSaid : Prop := orderSortsRow.holds Try.pinned (OpenSpec.ofChange orderSortsSpec)

/-- ITS FALSE NEIGHBOUR: 'it returns false'. Refute it at one input. -/
def orderSortsWrong : ChangeSpec := { name := "orderSorts", fn := fun _ => fun
  | [d] => { results := [.lit (.bool false)], args := [d] }
  | _ => none }
def OrderSortsWrongFalsely : Prop := orderSortsRow.holds Try.pinned (OpenSpec.ofChange orderSortsWrong)

/-- 'annuitantlaw15.OrderItself': WHATEVER THE INPUT: true; the input reads as it did. -/
def orderItselfSpec : ChangeSpec := { name := "orderItself", fn := fun _ => fun
  | [d] => { results := [.lit (.bool true)], args := [d] }
  | _ => none }
def orderItselfRow : OpenClaim := { program := "ythbnbjigmgoldaa", sum := "d6530cd0e910db3f93b7f84c2c5459497c8c19779c8b05d7075a36cb53eeaa8b", func := "annuitant/annuitantlaw15.OrderItself", spec := "orderItself", unfollowed := true, recurses := true, loops := true, apart := false }
def OrderItselfSaid : Prop := orderItselfRow.holds Try.pinned (OpenSpec.ofChange orderItselfSpec)

/-- ITS FALSE NEIGHBOUR: 'it returns false'. Refute it at one input. -/
def orderItselfWrong : ChangeSpec := { name := "orderItself", fn := fun _ => fun
  | [d] => { results := [.lit (.bool false)], args := [d] }
  | _ => none }
def OrderItselfWrongFalsely : Prop := orderItselfRow.holds Try.pinned (OpenSpec.ofChange orderItselfWrong)

/-- 'annuitantlaw15.OrderReach': WHATEVER THE INPUT: true; the input reads as it did. -/
def orderReachSpec : ChangeSpec := { name := "orderReach", fn := fun _ => fun
  | [d1, d2] => { results := [.lit (.bool true)], args := [d1, d2] }
  | _ => none }
def orderReachRow : OpenClaim := { program := "ythbnbjigmgoldaa", sum := "d6530cd0e910db3f93b7f84c2c5459497c8c19779c8b05d7075a36cb53eeaa8b", func := "annuitant/annuitantlaw15.OrderReach", spec := "orderReach", unfollowed := true, recurses := true, loops := true, apart := false }
def OrderReachSaid : Prop := orderReachRow.holds Try.pinned (OpenSpec.ofChange orderReachSpec)

/-- ITS FALSE NEIGHBOUR: 'it returns false'. Refute it at one input. -/
def orderReachWrong : ChangeSpec := { name := "orderReach", fn := fun _ => fun
  | [d1, d2] => { results := [.lit (.bool false)], args := [d1, d2] }
  | _ => none }
def OrderReachWrongFalsely : Prop := orderReachRow.holds Try.pinned (OpenSpec.ofChange orderReachWrong)

/-- 'annuitantlaw15.OrderLess': WHATEVER THE INPUT: true; the input reads as it did. -/
def orderLessSpec : ChangeSpec := { name := "orderLess", fn := fun _ => fun
  | [d1, d2] => { results := [.lit (.bool true)], args := [d1, d2] }
  | _ => none }
def orderLessRow : OpenClaim := { program := "ythbnbjigmgoldaa", sum := "d6530cd0e910db3f93b7f84c2c5459497c8c19779c8b05d7075a36cb53eeaa8b", func := "annuitant/annuitantlaw15.OrderLess", spec := "orderLess", unfollowed := true, recurses := true, loops := true, apart := false }
def OrderLessSaid : Prop := orderLessRow.holds Try.pinned (OpenSpec.ofChange orderLessSpec)

/-- ITS FALSE NEIGHBOUR: 'it returns false'. Refute it at one input. -/
def orderLessWrong : ChangeSpec := { name := "orderLess", fn := fun _ => fun
  | [d1, d2] => { results := [.lit (.bool false)], args := [d1, d2] }
  | _ => none }
def OrderLessWrongFalsely : Prop := orderLessRow.holds Try.pinned (OpenSpec.ofChange orderLessWrong)

/-- 'annuitantlaw15.OrderNames': WHATEVER THE INPUT: true; the input reads as it did. -/
def orderNamesSpec : ChangeSpec := { name := "orderNames", fn := fun _ => fun
  | [d1, d2] => { results := [.lit (.bool true)], args := [d1, d2] }
  | _ => none }
def orderNamesRow : OpenClaim := { program := "ythbnbjigmgoldaa", sum := "d6530cd0e910db3f93b7f84c2c5459497c8c19779c8b05d7075a36cb53eeaa8b", func := "annuitant/annuitantlaw15.OrderNames", spec := "orderNames", unfollowed := true, recurses := true, loops := true, apart := false }
def OrderNamesSaid : Prop := orderNamesRow.holds Try.pinned (OpenSpec.ofChange orderNamesSpec)

/-- ITS FALSE NEIGHBOUR: 'it returns false'. Refute it at one input. -/
def orderNamesWrong : ChangeSpec := { name := "orderNames", fn := fun _ => fun
  | [d1, d2] => { results := [.lit (.bool false)], args := [d1, d2] }
  | _ => none }
def OrderNamesWrongFalsely : Prop := orderNamesRow.holds Try.pinned (OpenSpec.ofChange orderNamesWrong)

/- THE SECOND FORM. 'bulk': how many values and letters a reading holds, each counted each time it is reached (what is shared counts as often as it is met; a slice's spare places count too). A statement '..UptoSaid' is the law's where the arguments, and the package variables that the reading takes, are together of bulk at most 1048576: NARROWER than '..Said'. Prove '..Said' where nothing that the law and all that it calls make is longer than what came in: it says more and counts as full. Else prove '..UptoSaid'. A law counts once. -/
mutual
def uptoBulk {H : Type} : DataW H → Nat
  | .lit (.string bytes) => bytes.length + 1
  | .lit _ => 1
  | .nil => 1
  | .ptr d => uptoBulk d + 1
  | .slice elems spare => uptoBulkAll elems + uptoBulkAll spare + 1
  | .agg parts => uptoBulkAll parts + 1
  | .iface _ d => uptoBulk d + 1
  | .map entries => uptoBulkEntries entries + 1
  | .held _ => 1
def uptoBulkAll {H : Type} : List (DataW H) → Nat
  | [] => 0
  | d :: r => uptoBulk d + uptoBulkAll r
def uptoBulkEntries {H : Type} : List (Lit × DataW H) → Nat
  | [] => 0
  | x :: r => uptoBulkEntry x + uptoBulkEntries r
def uptoBulkEntry {H : Type} : Lit × DataW H → Nat
  | (.string bytes, d) => bytes.length + uptoBulk d + 1
  | (_, d) => uptoBulk d + 1
 end
def uptoSmall : (H : Type) → List (DataW H) → Bool := fun _ ds => decide (uptoBulkAll ds ≤ 1048576)
def OpenSpec.upto (s : _root_.Go.ChangeSpec) : _root_.Go.OpenSpec := { _root_.Go.OpenSpec.ofChange s with cond := some uptoSmall }

/-- 'annuitantlaw15.OrderGreedy', WHERE WHAT IT READS IS OF BULK AT MOST 1048576: true; the input reads as it did. -/
def orderGreedyUptoRow : OpenClaim := { program := "ythbnbjigmgoldaa", sum := "d6530cd0e910db3f93b7f84c2c5459497c8c19779c8b05d7075a36cb53eeaa8b", func := "annuitant/annuitantlaw15.OrderGreedy", spec := "orderGreedy", unfollowed := true, recurses := true, loops := true, apart := false, narrowed := true }
def OrderGreedyUptoSaid : Prop := orderGreedyUptoRow.holds Try.pinned (OpenSpec.upto orderGreedySpec)

/-- 'annuitantlaw15.OrderTells', WHERE WHAT IT READS IS OF BULK AT MOST 1048576: true; the input reads as it did. -/
def orderTellsUptoRow : OpenClaim := { program := "ythbnbjigmgoldaa", sum := "d6530cd0e910db3f93b7f84c2c5459497c8c19779c8b05d7075a36cb53eeaa8b", func := "annuitant/annuitantlaw15.OrderTells", spec := "orderTells", unfollowed := true, recurses := true, loops := true, apart := false, narrowed := true }
def OrderTellsUptoSaid : Prop := orderTellsUptoRow.holds Try.pinned (OpenSpec.upto orderTellsSpec)

/-- 'annuitantlaw15.OrderSorts', WHERE WHAT IT READS IS OF BULK AT MOST 1048576: true; the input reads as it did. -/
def orderSortsUptoRow : OpenClaim := { program := "ythbnbjigmgoldaa", sum := "d6530cd0e910db3f93b7f84c2c5459497c8c19779c8b05d7075a36cb53eeaa8b", func := "annuitant/annuitantlaw15.OrderSorts", spec := "orderSorts", unfollowed := true, recurses := true, loops := true, apart := false, narrowed := true }
def OrderSortsUptoSaid : Prop := orderSortsUptoRow.holds Try.pinned (OpenSpec.upto orderSortsSpec)

/-- 'annuitantlaw15.OrderItself', WHERE WHAT IT READS IS OF BULK AT MOST 1048576: true; the input reads as it did. -/
def orderItselfUptoRow : OpenClaim := { program := "ythbnbjigmgoldaa", sum := "d6530cd0e910db3f93b7f84c2c5459497c8c19779c8b05d7075a36cb53eeaa8b", func := "annuitant/annuitantlaw15.OrderItself", spec := "orderItself", unfollowed := true, recurses := true, loops := true, apart := false, narrowed := true }
def OrderItselfUptoSaid : Prop := orderItselfUptoRow.holds Try.pinned (OpenSpec.upto orderItselfSpec)

/-- 'annuitantlaw15.OrderReach', WHERE WHAT IT READS IS OF BULK AT MOST 1048576: true; the input reads as it did. -/
def orderReachUptoRow : OpenClaim := { program := "ythbnbjigmgoldaa", sum := "d6530cd0e910db3f93b7f84c2c5459497c8c19779c8b05d7075a36cb53eeaa8b", func := "annuitant/annuitantlaw15.OrderReach", spec := "orderReach", unfollowed := true, recurses := true, loops := true, apart := false, narrowed := true }
def OrderReachUptoSaid : Prop := orderReachUptoRow.holds Try.pinned (OpenSpec.upto orderReachSpec)

/-- 'annuitantlaw15.OrderLess', WHERE WHAT IT READS IS OF BULK AT MOST 1048576: true; the input reads as it did. -/
def orderLessUptoRow : OpenClaim := { program := "ythbnbjigmgoldaa", sum := "d6530cd0e910db3f93b7f84c2c5459497c8c19779c8b05d7075a36cb53eeaa8b", func := "annuitant/annuitantlaw15.OrderLess", spec := "orderLess", unfollowed := true, recurses := true, loops := true, apart := false, narrowed := true }
def OrderLessUptoSaid : Prop := orderLessUptoRow.holds Try.pinned (OpenSpec.upto orderLessSpec)

/-- 'annuitantlaw15.OrderNames', WHERE WHAT IT READS IS OF BULK AT MOST 1048576: true; the input reads as it did. -/
def orderNamesUptoRow : OpenClaim := { program := "ythbnbjigmgoldaa", sum := "d6530cd0e910db3f93b7f84c2c5459497c8c19779c8b05d7075a36cb53eeaa8b", func := "annuitant/annuitantlaw15.OrderNames", spec := "orderNames", unfollowed := true, recurses := true, loops := true, apart := false, narrowed := true }
def OrderNamesUptoSaid : Prop := orderNamesUptoRow.holds Try.pinned (OpenSpec.upto orderNamesSpec)

end Rows
end Go.Proofs.Ythbnbjigmgoldaa
