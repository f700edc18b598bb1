/- Layer 16: plain laws of GuardLast: labels met. No conditions. -/
import Derived.Test.YthooiobhlbnaoaaGreatGLawS
import Derived.Test.YthooiobhlbnaoaaGreatOMap
namespace Go.Proofs.YthooiobhlbnaoaaGreat
set_option linter.unusedVariables false

/-- What the map of labels holds after k rounds. -/
def metV (cs : List Gc) (l : List Nat) (k : Nat) (s : Str) : Option Value := if (l.take k).any (fun i => (gAt cs i).lb == s) then some (.int .i64 1) else none

section
variable {cs : List Gc} {nm : Str} {d kn : Int}
theorem metV_zero (l : List Nat) : metV cs l 0 = fun _ => none := by funext s; simp [metV]
theorem metV_next {k i : Nat} (h : (forceL cs nm d kn)[k]? = some i) : updF (metV cs (forceL cs nm d kn) k) (gAt cs i).lb (.int .i64 1) = metV cs (forceL cs nm d kn) (k + 1) := by
  funext s
  unfold updF metV
  rw [List.take_add_one, h, List.any_append]
  by_cases e : s = (gAt cs i).lb
  · subst e; simp
  · have h2 : ((gAt cs i).lb == s) = false := beq_eq_false_iff_ne.2 (Ne.symm e)
    simp [e, h2]
theorem metV_new {k i : Nat} (h : (forceL cs nm d kn)[k]? = some i) : metV cs (forceL cs nm d kn) k (gAt cs i).lb = none := by
  unfold metV
  rw [if_neg]
  intro ha
  obtain ⟨j, hj, hl⟩ := List.any_eq_true.1 ha
  have hi : i ∈ forceL cs nm d kn := List.mem_of_getElem? h
  obtain ⟨x, hx, e⟩ := List.getElem_of_mem hj
  rw [List.getElem_take] at e
  rw [List.length_take] at hx
  have e2 := forced_label (e ▸ List.getElem_mem _) hi (eq_of_beq hl)
  obtain ⟨hk, ek⟩ := List.getElem?_eq_some_iff.1 h
  have hs := List.pairwise_iff_getElem.1 forceL_sorted x k (by omega) hk (by omega)
  rw [e, ek, e2] at hs
  omega
theorem metV_some {k i : Nat} (h : (forceL cs nm d kn)[k]? = some i) : metV cs (forceL cs nm d kn) (k + 1) (gAt cs i).lb = some (.int .i64 1) := by
  rw [← metV_next h]; simp [updF]
/-- A label that is not met: no clause of that label is in force. -/
theorem metV_none {s : Str} (h : metV cs (forceL cs nm d kn) (forceL cs nm d kn).length s = none) : ∀ j, j ∈ forceL cs nm d kn → (gAt cs j).lb ≠ s := by
  intro j hj e
  unfold metV at h
  rw [List.take_length, if_pos (List.any_eq_true.2 ⟨j, hj, by simp [e]⟩)] at h
  cases h
theorem metV_cases (l : List Nat) (k : Nat) (s : Str) : metV cs l k s = none ∨ metV cs l k s = some (.int .i64 1) := by
  unfold metV; split <;> simp
/-- Whether one of the clauses before k withdraws what clause i says. -/
def drawnB (cs : List Gc) (nm : Str) (d kn : Int) (i k : Nat) : Bool := (List.range k).any fun j => drawn cs nm d kn i j
theorem drawnB_zero (i : Nat) : drawnB cs nm d kn i 0 = false := by simp [drawnB]
theorem drawnB_next (i k : Nat) : drawnB cs nm d kn i (k + 1) = (drawnB cs nm d kn i k || drawn cs nm d kn i k) := by simp [drawnB, List.range_succ]
theorem drawnB_end {i : Nat} (hi : i < cs.length) (hc : cov (gAt cs i) nm d kn = true) (hn : metV cs (forceL cs nm d kn) (forceL cs nm d kn).length (gAt cs i).lb = none) : drawnB cs nm d kn i cs.length = true :=
  drawn_any hi hc (metV_none hn)
/-- No clause of the label counts more than the one in force. -/
theorem last_of {i k : Nat} (h : i ∈ forceL cs nm d kn) (hk : k < cs.length) (hc : cov (gAt cs k) nm d kn = true) (hl : (gAt cs k).lb = (gAt cs i).lb) : (gAt cs k).kn ≤ (gAt cs i).kn ∧ ((gAt cs k).kn = (gAt cs i).kn → k ≤ i) := by
  have := later_false.1 ((forced_at h).2.2.2 k hk hc hl)
  exact ⟨by omega, fun e => this.2 (by omega)⟩
end
end Go.Proofs.YthooiobhlbnaoaaGreat
