/- Layer 15: the chapter's examples, computed in plain Lean. No conditions. -/
import Derived.Test.YthbnbjigmgoldaaOlRefer
namespace Go.Proofs.Ythbnbjigmgoldaa
set_option linter.unusedVariables false
def sA : Str := [97]
def sB : Str := [98]
def sC : Str := [99]
def sF : Str := [102]
def zeroE : Ex := .mk 0 [] []
def defs0 : List (Str × Bool) := [(sA, false), (sB, false), (sC, false), (sF, true)]
def cls0 : List Cl := [⟨sA, zeroE, referE [sC]⟩, ⟨sB, referE [sF, sC], referE [sA, sC]⟩, ⟨sC, zeroE, zeroE⟩]
def p0 : Pl := ⟨defs0, cls0⟩
def q0 : Pl := ⟨defs0, ⟨sC, zeroE, referE [sB]⟩ :: cls0⟩
theorem p0_order : orderL p0 = [sC, sA, sB] := by decide +kernel
theorem p0_err : orderE p0 = 0 := by decide +kernel
theorem p0_deps : depends p0 sB = [sA, sC] := by decide +kernel
theorem p0_cycle : cycle p0 = [] := by decide +kernel
theorem q0_order : orderL q0 = [] := by decide +kernel
theorem q0_err : orderE q0 = 150 := by decide +kernel
theorem q0_cycle : cycle q0 = [sA, sC, sB] := by decide +kernel
end Go.Proofs.Ythbnbjigmgoldaa
