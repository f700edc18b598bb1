/- Layer 15: OrderReach in plain Lean. No conditions. -/
import Derived.Test.YthbnbjigmgoldaaOlSortS
import Derived.Test.YthbnbjigmgoldaaOMap
namespace Go.Proofs.Ythbnbjigmgoldaa
open Go.RowKit
set_option linter.unusedVariables false

theorem rch_split {D : Nat → List Nat} {s : List Nat} {j : Nat} : Rch D s j ↔ ∃ i ∈ s, j = i ∨ Rch D (D i) j := by
  constructor
  · intro h
    induction h with
    | base hj => exact ⟨_, hj, .inl rfl⟩
    | step _ hj ih =>
      obtain ⟨i, hi, h⟩ := ih
      rcases h with rfl | h
      · exact ⟨_, hi, .inr (.base hj)⟩
      · exact ⟨_, hi, .inr (.step h hj)⟩
  · rintro ⟨i, hi, h⟩
    rcases h with rfl | h
    · exact .base hi
    · have hb : Rch D s i := .base hi
      induction h with
      | base hj => exact .step hb hj
      | step _ hj ih => exact .step ih hj
/-- What has been counted. -/
def cntF (sq : List Str) : Str → Option Value := fun s => if sq.contains s then some (Z (sq.count s)) else none
theorem cntF_nil : (fun _ => none : Str → Option Value) = cntF [] := by funext x; simp [cntF]
theorem cntF_get (sq : List Str) (s : Str) : (fS (cntF sq) (.string s)).getD (.int .i64 0) = Z (sq.count s) := by
  show (cntF sq s).getD _ = _
  unfold cntF
  by_cases h : sq.contains s = true
  · rw [if_pos h]; rfl
  · rw [if_neg h]
    have : sq.count s = 0 := List.count_eq_zero.2 fun hm => h (List.contains_iff_mem.2 hm)
    rw [this]; rfl
theorem cntF_some (sq : List Str) (s : Str) : (fS (cntF sq) (.string s)).isSome = sq.contains s := by
  show (cntF sq s).isSome = _
  unfold cntF
  by_cases h : sq.contains s = true
  · rw [if_pos h, h]; rfl
  · rw [if_neg h]; simp at h; simp [h]
theorem cntF_upd (sq : List Str) (s : Str) : updF (cntF sq) s (Z (sq.count s + 1)) = cntF (sq ++ [s]) := by
  funext x
  unfold updF cntF
  by_cases h : x = s
  · subst h; simp
  · have h2 : ¬ s = x := fun e => h e.symm
    by_cases hc : x ∈ sq <;> simp [h, h2, hc, List.count_append]
theorem dedup_len_snoc (sq : List Str) (s : Str) : (if sq.contains s then (dedup sq).length else (dedup sq).length + 1) = (dedup (sq ++ [s])).length := by
  rw [dedup_snoc]
  by_cases h : s ∈ sq
  · rw [if_pos (List.contains_iff_mem.2 h), addS_in (mem_dedup.2 h)]
  · rw [if_neg (fun hc => h (List.contains_iff_mem.1 hc)), addS_out (fun hm => h (mem_dedup.1 hm))]; simp
/-- The names that are counted for the first k of a list. -/
noncomputable def seqOf (p : Pl) (ds : List Str) : List Str := ds.flatMap fun d => d :: reach p d
theorem seqOf_take (p : Pl) (ds : List Str) (k : Nat) (h : k < ds.length) : seqOf p (ds.take (k + 1)) = (seqOf p (ds.take k) ++ [ds[k]?.getD []]) ++ reach p (ds[k]?.getD []) := by
  unfold seqOf
  rw [List.take_succ_eq_append_getElem h, List.flatMap_append, List.getElem?_eq_getElem h]; simp
theorem reach_mem_names {p : Pl} {a d : Str} (hd : d ∈ reach p a) : d ∈ names p := by
  unfold reach named at hd
  obtain ⟨i, hi, rfl⟩ := List.mem_map.1 hd
  have hl := (mem_reachN.1 hi).1
  rw [List.getElem?_eq_getElem hl]; exact List.getElem_mem hl
theorem depends_mem_names {p : Pl} {a d : Str} (hd : d ∈ depends p a) : d ∈ names p := by
  unfold depends named at hd
  obtain ⟨i, hi, rfl⟩ := List.mem_map.1 hd
  have hl := deps_lt i hi
  rw [List.getElem?_eq_getElem hl]; exact List.getElem_mem hl
theorem seq_mem {p : Pl} {a s : Str} : s ∈ seqOf p (depends p a) ↔ s ∈ reach p a := by
  unfold seqOf
  rw [List.mem_flatMap]
  constructor
  · rintro ⟨d, hd, hs⟩
    obtain ⟨i, hi, rfl⟩ := mem_names_at (depends_mem_names hd)
    unfold depends at hd
    rw [mem_named (names_nodup p) deps_lt hi] at hd
    rcases List.mem_cons.1 hs with rfl | hs
    · rw [mem_reach hi]; exact .base hd
    · obtain ⟨j, hj, rfl⟩ := mem_names_at (reach_mem_names hs)
      rw [mem_reach hj] at hs ⊢
      exact rch_split.2 ⟨i, hd, .inr hs⟩
  · intro hs
    obtain ⟨j, hj, rfl⟩ := mem_names_at (reach_mem_names hs)
    rw [mem_reach hj] at hs
    obtain ⟨i, hi, h⟩ := rch_split.1 hs
    have hil := deps_lt i hi
    refine ⟨(names p)[i]?.getD [], ?_, ?_⟩
    · unfold depends
      rw [mem_named (names_nodup p) deps_lt hil]; exact hi
    · rcases h with rfl | h
      · exact List.mem_cons_self
      · refine List.mem_cons_of_mem _ ?_
        rw [mem_reach hj]; exact h
theorem reachN_nodup (n : Nat) (D : Nat → List Nat) (s : List Nat) : (reachN n D s).Nodup := by unfold reachN; exact List.Pairwise.filter _ List.nodup_range
theorem reach_nodup (p : Pl) (a : Str) : (reach p a).Nodup := by
  unfold reach
  exact named_nodup (names_nodup p) (fun j hj => (mem_reachN.1 hj).1) (reachN_nodup _ _ _)
theorem seq_length (p : Pl) (a : Str) : (dedup (seqOf p (depends p a))).length = (reach p a).length := by
  refine Nat.le_antisymm ?_ ?_
  · exact List.Nodup.length_le_of_subset (nodup_dedup _) fun x hx => seq_mem.1 (mem_dedup.1 hx)
  · exact List.Nodup.length_le_of_subset (reach_nodup p a) fun x hx => mem_dedup.2 (seq_mem.2 hx)
/-- Named numbers that grow. -/
theorem incr_named {ns : List Str} (hn : ns.Nodup) {js : List Nat} (hl : ∀ i ∈ js, i < ns.length) (hp : js.Pairwise (· < ·)) :
    (∀ m, m < (named ns js).length → 0 ≤ idxI ns ((named ns js)[m]?.getD [])) ∧ ∀ m, m + 1 < (named ns js).length → idxI ns ((named ns js)[m]?.getD []) < idxI ns ((named ns js)[m + 1]?.getD []) := by
  have hat : ∀ m, m < js.length → idxI ns ((named ns js)[m]?.getD []) = (fn js m : Nat) := fun m hm => by
    rw [named_get js hm]
    exact idxI_get hn (hl _ (fnIn hm))
  refine ⟨fun m hm => ?_, fun m hm => ?_⟩
  · rw [named_length] at hm; rw [hat m hm]; omega
  · rw [named_length] at hm
    rw [hat m (by omega), hat (m + 1) hm, fnAt (show m < js.length by omega), fnAt hm]
    have := (List.pairwise_iff_getElem.1 hp) m (m + 1) (by omega) hm (by omega)
    omega
theorem incr_depends (p : Pl) (a : Str) : (∀ m, m < (depends p a).length → 0 ≤ idxI (names p) ((depends p a)[m]?.getD [])) ∧ ∀ m, m + 1 < (depends p a).length → idxI (names p) ((depends p a)[m]?.getD []) < idxI (names p) ((depends p a)[m + 1]?.getD []) :=
  incr_named (names_nodup p) deps_lt (by unfold deps; exact List.Pairwise.filter _ List.pairwise_lt_range)
theorem incr_reach (p : Pl) (a : Str) : (∀ m, m < (reach p a).length → 0 ≤ idxI (names p) ((reach p a)[m]?.getD [])) ∧ ∀ m, m + 1 < (reach p a).length → idxI (names p) ((reach p a)[m]?.getD []) < idxI (names p) ((reach p a)[m + 1]?.getD []) :=
  incr_named (names_nodup p) (fun j hj => (mem_reachN.1 hj).1) (by unfold reachN; exact List.Pairwise.filter _ List.pairwise_lt_range)
theorem reach_length (p : Pl) (a : Str) : (reach p a).length ≤ (names p).length := by
  exact List.Nodup.length_le_of_subset (reach_nodup p a) fun x hx => reach_mem_names hx
theorem depends_length (p : Pl) (a : Str) : (depends p a).length ≤ (names p).length := by
  unfold depends; rw [named_length]
  unfold deps
  refine Nat.le_trans (List.length_filter_le _ _) ?_
  simp
theorem seq_len_le (p : Pl) (M : Nat) (ds : List Str) (h : ∀ d ∈ ds, (reach p d).length ≤ M) : (seqOf p ds).length ≤ ds.length * (M + 1) := by
  unfold seqOf
  induction ds with
  | nil => simp
  | cons d r ih =>
    rw [List.flatMap_cons, List.length_append, List.length_cons, List.length_cons]
    have h1 := h d (by simp)
    have h2 := ih fun x hx => h x (List.mem_cons_of_mem _ hx)
    rw [Nat.add_mul]; omega
end Go.Proofs.Ythbnbjigmgoldaa
