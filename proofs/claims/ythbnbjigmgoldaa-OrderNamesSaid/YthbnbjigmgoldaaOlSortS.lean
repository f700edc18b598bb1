/- Layer 15: OrderSorts in plain Lean. No conditions. -/
import Derived.Test.YthbnbjigmgoldaaOlLawS
import Derived.Test.YthbnbjigmgoldaaOOrder
namespace Go.Proofs.Ythbnbjigmgoldaa
set_option linter.unusedVariables false

theorem ord_taken {p : Pl} (h : ordB p = true) : (takenP p).length = (names p).length := by
  unfold ordB at h
  have := takenP_length p
  simp only [decide_eq_true_eq] at h
  omega
theorem orderE_of {p : Pl} (h : ordB p = true) : orderE p = 0 := by unfold orderE; rw [if_pos h]
theorem orderE_no {p : Pl} (h : ordB p = false) : orderE p = 150 := by unfold orderE; rw [if_neg (by rw [h]; simp)]
theorem orderL_of {p : Pl} (h : ordB p = true) : orderL p = named (names p) (takenP p) := by unfold orderL; rw [if_pos h]
theorem orderL_no {p : Pl} (h : ordB p = false) : orderL p = [] := by unfold orderL; rw [if_neg (by rw [h]; simp)]
theorem orderL_length {p : Pl} (h : ordB p = true) : (orderL p).length = (names p).length := by rw [orderL_of h, named_length, ord_taken h]
theorem cycle_of {p : Pl} (h : ordB p = true) : cycle p = [] := by
  unfold cycle
  rw [cycle_none (by have := ord_taken h; unfold takenP at this; omega)]; rfl
theorem taken_nodup (p : Pl) : (takenP p).Nodup := (greedy_taken _ _).nodup
theorem orderL_nodup (p : Pl) : (orderL p).Nodup := by
  unfold orderL; split
  · exact named_nodup (names_nodup p) (takenP_lt p) (taken_nodup p)
  · exact List.nodup_nil
theorem orderL_names {p : Pl} {s : Str} (h : s ∈ orderL p) : s ∈ names p := by
  unfold orderL at h; split at h
  · unfold named at h
    obtain ⟨i, hi, rfl⟩ := List.mem_map.1 h
    have hl := takenP_lt p i hi
    rw [List.getElem?_eq_getElem hl]; exact List.getElem_mem hl
  · simp at h
theorem orderL_at {p : Pl} (h : ordB p = true) {k : Nat} (hk : k < (orderL p).length) : (orderL p)[k]?.getD [] = (names p)[fn (takenP p) k]?.getD [] ∧ k < (takenP p).length := by
  rw [orderL_of h] at hk ⊢
  rw [named_length] at hk
  exact ⟨named_get _ hk, hk⟩
/-- What is reached stands ahead. -/
theorem sorts_reach {p : Pl} (h : ordB p = true) {k : Nat} (hk : k < (orderL p).length) {d : Str} (hd : d ∈ reach p ((orderL p)[k]?.getD [])) : ∃ m, m < k ∧ idxI (orderL p) d = (m : Nat) := by
  obtain ⟨he, hkt⟩ := orderL_at h hk
  rw [he] at hd
  have hg := greedy_taken (names p).length (gD p)
  have hx : fn (takenP p) k < (names p).length := takenP_lt p _ (fnIn hkt)
  have hmem : d ∈ names p := by
    unfold reach named at hd
    obtain ⟨i, hi, rfl⟩ := List.mem_map.1 hd
    have hl := (mem_reachN.1 hi).1
    rw [List.getElem?_eq_getElem hl]; exact List.getElem_mem hl
  obtain ⟨j, hj, rfl⟩ := mem_names_at hmem
  rw [mem_reach hj, deps_at p hx, fnAt hkt] at hd
  obtain ⟨m, hm, hme⟩ := List.mem_iff_getElem.1 (reach_before hg hkt hd)
  rw [List.length_take] at hm
  rw [List.getElem_take] at hme
  refine ⟨m, by omega, ?_⟩
  have hml : m < (orderL p).length := by omega
  have := idxI_get (orderL_nodup p) hml
  have e : fn (takenP p) m = j := by rw [fnAt (orderL_at h hml).2]; exact hme
  rw [(orderL_at h hml).1, e] at this
  exact this
theorem cyc_lt {p : Pl} (h : ordB p = false) : (taken (names p).length (gD p)).length < (names p).length := by
  unfold ordB takenP at h
  simpa using h
/-- The cycle. -/
theorem sorts_cycle {p : Pl} (h : ordB p = false) : 0 < (cycle p).length ∧ (cycle p).length ≤ (names p).length ∧ ∀ k, k < (cycle p).length → idxI (cycle p) ((cycle p)[k]?.getD []) = (k : Nat) ∧ (∃ q : Nat, idxI (names p) ((cycle p)[k]?.getD []) = q) ∧
    ∃ q : Nat, idxI (depends p ((cycle p)[k]?.getD [])) ((cycle p)[(k + 1) % (cycle p).length]?.getD []) = q := by
  obtain ⟨h1, h2, h3, h4⟩ := cycle_spec (gD_lt p) (cyc_lt h)
  have hnn := names_nodup p
  have hc : (cycle p).length = (cycleN (names p).length (gD p)).length := by unfold cycle; exact named_length _
  have hat : ∀ k, k < (cycle p).length → (cycle p)[k]?.getD [] = (names p)[fn (cycleN (names p).length (gD p)) k]?.getD [] := fun k hk => by unfold cycle; exact named_get _ (by omega)
  have hnd : (cycle p).Nodup := by unfold cycle; exact named_nodup hnn h3 h2
  refine ⟨by omega, by rw [hc]; exact nodup_le _ _ h2 h3, fun k hk => ⟨idxI_get hnd hk, ?_, ?_⟩⟩
  · have hl := h3 _ (fnIn (l := cycleN (names p).length (gD p)) (k := k) (by omega))
    exact ⟨_, by rw [hat k hk]; exact idxI_get hnn hl⟩
  · have hm : (k + 1) % (cycle p).length < (cycle p).length := Nat.mod_lt _ (by omega)
    have hl := h3 _ (fnIn (l := cycleN (names p).length (gD p)) (k := k) (by omega))
    have hl2 := h3 _ (fnIn (l := cycleN (names p).length (gD p)) (k := (k + 1) % (cycle p).length) (by omega))
    have hdep := h4 k (by omega)
    rw [← hc] at hdep
    rw [hat k hk, hat _ hm]
    have hin : (names p)[fn (cycleN (names p).length (gD p)) ((k + 1) % (cycle p).length)]?.getD [] ∈ depends p ((names p)[fn (cycleN (names p).length (gD p)) k]?.getD []) := by
      unfold depends
      rw [mem_named hnn deps_lt hl2, deps_at p hl]; exact hdep
    have h0 := idxI_mem.2 hin
    exact ⟨_, (Int.toNat_of_nonneg h0).symm⟩
end Go.Proofs.Ythbnbjigmgoldaa
