/- Layer 15 in plain Lean: the cycle, as the program finds it; what its map keeps. No conditions. -/
import Derived.Test.YthbnbjigmgoldaaOCyc1
namespace Go.Proofs.Ythbnbjigmgoldaa
set_option linter.unusedVariables false

/-- Where each of the way's numbers stands. -/
def posOf (way : List Nat) : Nat → Option Value := fun x => if way.contains x then some (Z (way.idxOf x)) else none
theorem posOf_nil : (fun _ => none : Nat → Option Value) = posOf [] := by funext x; simp [posOf]
theorem posOf_in {way : List Nat} {x : Nat} (h : way.contains x = true) : posOf way x = some (Z (way.idxOf x)) := by unfold posOf; rw [if_pos h]
theorem posOf_out {way : List Nat} {x : Nat} (h : way.contains x = false) : posOf way x = none := by unfold posOf; rw [if_neg (by rw [h]; simp)]
theorem updF_posOf (way : List Nat) (x : Nat) (h : way.contains x = false) : updF (posOf way) x (Z way.length) = posOf (way ++ [x]) := by
  have hx : x ∉ way := fun hx => by rw [List.contains_iff_mem.2 hx] at h; cases h
  funext y
  unfold updF posOf
  by_cases e : y = x
  · subst e
    simp [List.idxOf_append, hx]
  · by_cases hy : y ∈ way
    · simp [e, hy, List.idxOf_append]
    · simp [e, hy]
theorem idxOf_fn {way : List Nat} {x : Nat} (h : way.contains x = true) : way.idxOf x < way.length := List.idxOf_lt_length_iff.2 (List.contains_iff_mem.1 h)

section
variable {n : Nat} {D : Nat → List Nat}
theorem cycle_none (h : n ≤ (taken n D).length) : cycleN n D = [] := by
  unfold cycleN
  have : (List.range n).find? (fun i => !(taken n D).contains i) = none := by
    rw [List.find?_eq_none]
    intro i hi
    have hi : i < n := by simpa using hi
    have hg := greedy_taken n D
    have hm : i ∈ taken n D := by
      refine Classical.byContradiction fun hc => ?_
      have := nodup_le n (i :: taken n D) (List.nodup_cons.2 ⟨hc, hg.nodup⟩) (fun x hx => by
        rcases List.mem_cons.1 hx with rfl | hx
        · exact hi
        · exact hg.lt x hx)
      simp at this
      omega
    simp [hm]
  rw [this]
theorem cycle_some {j : Nat} (hj : j < n) (h : (taken n D).contains j = false) (hall : ∀ k, k < j → (taken n D).contains k = true) : cycleN n D = walkC (firstU D (taken n D)) (n + 1) [] j := by
  unfold cycleN
  have : (List.range n).find? (fun i => !(taken n D).contains i) = some j := by
    rw [List.find?_range_eq_some]
    exact ⟨by rw [h]; rfl, by simpa using hj, fun k hk => by rw [hall k hk]; rfl⟩
  rw [this]
/-- Not all are taken: the first that is not lies below n. -/
theorem untaken_lt {j : Nat} (h : (taken n D).length < n) (hall : ∀ k, k < j → (taken n D).contains k = true) : j < n := by
  refine Classical.byContradiction fun hc => ?_
  have h1 : (List.range n).length ≤ (taken n D).length := by
    refine List.Nodup.length_le_of_subset List.nodup_range ?_
    intro x hx
    exact List.contains_iff_mem.1 (hall x (by have := List.mem_range.1 hx; omega))
  rw [List.length_range] at h1
  omega
/-- Who is not taken depends on one that is not taken. -/
theorem untaken_dep {i : Nat} (hi : i < n) (h : (taken n D).contains i = false) : ∃ d ∈ D i, (taken n D).contains d = false := by
  have h1 := next_none.1 (taken_none n D) i hi
  refine Classical.byContradiction fun hc => ?_
  have : rdy D (taken n D) i = true := by
    rw [rdy_iff]
    refine ⟨fun hm => (by rw [List.contains_iff_mem.2 hm] at h; cases h), fun d hd => ?_⟩
    cases hd2 : (taken n D).contains d with
    | true => exact List.contains_iff_mem.1 hd2
    | false => exact absurd ⟨d, hd, hd2⟩ hc
  rw [this] at h1; cases h1
theorem firstU_spec {i : Nat} (hi : i < n) (h : (taken n D).contains i = false) : firstU D (taken n D) i ∈ D i ∧ (taken n D).contains (firstU D (taken n D) i) = false := by
  obtain ⟨d, hd, hdt⟩ := untaken_dep hi h
  unfold firstU
  cases hf : (D i).find? (fun d => !(taken n D).contains d) with
  | none => have := List.find?_eq_none.1 hf d hd; rw [hdt] at this; exact absurd rfl this
  | some x => exact ⟨List.mem_of_find?_eq_some hf, by have := List.find?_some hf; simpa using this⟩
theorem walkC_in {f : Nat → Nat} {k : Nat} {way : List Nat} {i : Nat} (h : way.contains i = true) : walkC f (k + 1) way i = way.drop (way.idxOf i) := by rw [walkC, if_pos h]
theorem walkC_out {f : Nat → Nat} {k : Nat} {way : List Nat} {i : Nat} (h : way.contains i = false) : walkC f (k + 1) way i = walkC f k (way ++ [i]) (f i) := by rw [walkC, if_neg (by rw [h]; simp)]

/-- What holds of the way. -/
structure Way (n : Nat) (D : Nat → List Nat) (way : List Nat) (i : Nat) : Prop where
  nodup : way.Nodup
  lt : ∀ x ∈ way, x < n
  ilt : i < n
  inot : (taken n D).contains i = false
  eq : cycleN n D = walkC (firstU D (taken n D)) (n + 1 - way.length) way i
theorem Way.length {way : List Nat} {i : Nat} (h : Way n D way i) : way.length ≤ n := nodup_le n way h.nodup h.lt
theorem Way.done {way : List Nat} {i : Nat} (h : Way n D way i) (hi : way.contains i = true) : cycleN n D = way.drop (way.idxOf i) := by
  have := h.length
  rw [h.eq, show n + 1 - way.length = (n - way.length) + 1 by omega, walkC_in hi]
theorem Way.step {way : List Nat} {i : Nat} (h : Way n D way i) (hi : way.contains i = false) (hD : ∀ j, ∀ d ∈ D j, d < n) : Way n D (way ++ [i]) (firstU D (taken n D) i) := by
  have hl := h.length
  have hni : i ∉ way := fun hx => by rw [List.contains_iff_mem.2 hx] at hi; cases hi
  obtain ⟨h1, h2⟩ := firstU_spec h.ilt h.inot
  have hnd : (way ++ [i]).Nodup := by
    rw [List.nodup_append]
    exact ⟨h.nodup, by simp, fun a ha b hb e => by
      have hb : b = i := by simpa using hb
      exact hni (hb ▸ e ▸ ha)⟩
  have hlt : ∀ x ∈ way ++ [i], x < n := fun x hx => by
    rcases List.mem_append.1 hx with hx | hx
    · exact h.lt x hx
    · rw [List.mem_singleton.1 hx]; exact h.ilt
  have hl2 := nodup_le n _ hnd hlt
  refine ⟨hnd, hlt, hD _ _ h1, h2, ?_⟩
  rw [List.length_append, List.length_singleton] at hl2 ⊢
  rw [h.eq, show n + 1 - way.length = (n - way.length) + 1 by omega, walkC_out hi, show n + 1 - (way.length + 1) = n - way.length by omega]
end
end Go.Proofs.Ythbnbjigmgoldaa
