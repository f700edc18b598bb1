/- Layer 15 in plain Lean: what is reached, as the program finds it. No conditions. -/
import Derived.Test.YthbnbjigmgoldaaOHeapS
import Derived.Test.YthbnbjigmgoldaaOTakeS
namespace Go.Proofs.Ythbnbjigmgoldaa
set_option linter.unusedVariables false

theorem foldl_addS_prefix {α : Type} [BEq α] : ∀ (m a : List α), ∃ t, m.foldl addS a = a ++ t := by
  intro m
  induction m with
  | nil => intro a; exact ⟨[], by simp⟩
  | cons x r ih =>
    intro a
    obtain ⟨t, ht⟩ := ih (addS a x)
    rw [List.foldl_cons, ht]
    unfold addS
    split
    · exact ⟨t, rfl⟩
    · exact ⟨[x] ++ t, by simp⟩
theorem foldl_addS_length {α : Type} [BEq α] : ∀ (m a : List α), (m.foldl addS a).length ≤ a.length + m.length := by
  intro m
  induction m with
  | nil => simp
  | cons x r ih =>
    intro a
    have h2 := ih (addS a x)
    have h3 : (addS a x).length ≤ a.length + 1 := by unfold addS; split <;> simp
    simp only [List.foldl_cons, List.length_cons]; omega
theorem fn_append {a b : List Nat} {i : Nat} (h : i < a.length) : fn (a ++ b) i = fn a i := by unfold fn; rw [List.getElem?_append_left h]
theorem Rch.lt {n : Nat} {D : Nat → List Nat} {s : List Nat} (hs : ∀ x ∈ s, x < n) (hD : ∀ i, ∀ j ∈ D i, j < n) {x : Nat} (h : Rch D s x) : x < n := by
  cases h with
  | base h => exact hs _ h
  | step _ h => exact hD _ _ h

/-- What has been reached when the first n have been looked at. -/
structure Clo (D : Nat → List Nat) (s : List Nat) (n : Nat) (acc : List Nat) : Prop where
  nodup : acc.Nodup
  rch : ∀ x ∈ acc, Rch D s x
  base : ∀ x ∈ s, x ∈ acc
  look : ∀ i, i < n → i < acc.length → ∀ j ∈ D (fn acc i), j ∈ acc
theorem Clo.start (D : Nat → List Nat) (s : List Nat) : Clo D s 0 (s.foldl addS []) :=
  ⟨nodup_foldl_addS List.nodup_nil, fun x hx => .base (by rw [mem_foldl_addS] at hx; simpa using hx), fun x hx => mem_foldl_addS.2 (.inr hx), fun i h => absurd h (by omega)⟩
theorem Clo.step {D : Nat → List Nat} {s : List Nat} {n : Nat} {acc : List Nat} (h : Clo D s n acc) (hn : n < acc.length) : Clo D s (n + 1) ((D (fn acc n)).foldl addS acc) := by
  have hmem : fn acc n ∈ acc := by unfold fn; rw [List.getElem?_eq_getElem hn]; exact List.getElem_mem hn
  obtain ⟨t, ht⟩ := foldl_addS_prefix (D (fn acc n)) acc
  refine ⟨nodup_foldl_addS h.nodup, fun x hx => ?_, fun x hx => mem_foldl_addS.2 (.inl (h.base x hx)), fun i hi hil j hj => ?_⟩
  · rcases mem_foldl_addS.1 hx with hx | hx
    · exact h.rch x hx
    · exact .step (h.rch _ hmem) hx
  · have hia : i < acc.length := by omega
    rw [ht, fn_append hia] at hj
    by_cases e : i = n
    · subst e; exact mem_foldl_addS.2 (.inr hj)
    · exact mem_foldl_addS.2 (.inl (h.look i (by omega) hia j hj))
theorem Clo.lt {D : Nat → List Nat} {s : List Nat} {n m : Nat} {acc : List Nat} (h : Clo D s m acc) (hs : ∀ x ∈ s, x < n) (hD : ∀ i, ∀ j ∈ D i, j < n) : ∀ x ∈ acc, x < n := fun x hx => (h.rch x hx).lt hs hD
theorem Clo.length {D : Nat → List Nat} {s : List Nat} {n m : Nat} {acc : List Nat} (h : Clo D s m acc) (hs : ∀ x ∈ s, x < n) (hD : ∀ i, ∀ j ∈ D i, j < n) : acc.length ≤ n := nodup_le n acc h.nodup (h.lt hs hD)
theorem Clo.all {D : Nat → List Nat} {s : List Nat} {n : Nat} {acc : List Nat} (h : Clo D s n acc) (hn : acc.length ≤ n) {x : Nat} (hx : Rch D s x) : x ∈ acc := by
  induction hx with
  | base hx => exact h.base _ hx
  | step _ hj ih =>
    obtain ⟨i, hi, he⟩ := List.mem_iff_getElem.1 ih
    have e : fn acc i = acc[i] := by unfold fn; rw [List.getElem?_eq_getElem hi]; rfl
    refine h.look i (by omega) hi _ ?_
    rw [e, he]; exact hj
theorem Clo.reach {D : Nat → List Nat} {s : List Nat} {n m : Nat} {acc : List Nat} (h : Clo D s m acc) (hm : acc.length ≤ m) (hs : ∀ x ∈ s, x < n) (hD : ∀ i, ∀ j ∈ D i, j < n) : srt acc = reachN n D s := by
  refine eq_of_increasing ?_ ?_ fun x => ?_
  · have h1 : (srt acc).Nodup := (srt_perm acc).nodup_iff.2 h.nodup
    have h2 := srt_sorted acc
    refine (List.Pairwise.and h2 h1).imp ?_
    intro a b hab
    have := hab.1; have := hab.2
    omega
  · unfold reachN
    exact List.Pairwise.filter _ List.pairwise_lt_range
  · rw [mem_srt]
    unfold reachN
    simp only [List.mem_filter, List.mem_range, decide_eq_true_eq]
    exact ⟨fun hx => ⟨h.lt hs hD x hx, h.rch x hx⟩, fun hx => h.all hm hx.2⟩
end Go.Proofs.Ythbnbjigmgoldaa
