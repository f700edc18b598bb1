/- Layer 15: OrderGreedy in plain Lean. No conditions. -/
import Derived.Test.YthbnbjigmgoldaaOlSortS
namespace Go.Proofs.Ythbnbjigmgoldaa
set_option linter.unusedVariables false

theorem ord_of_some {p : Pl} {k : Nat} (h : k < (orderL p).length) : ordB p = true := by
  cases hob : ordB p with
  | true => rfl
  | false => rw [orderL_no hob] at h; simp at h
theorem idx_names_at {p : Pl} {k : Nat} (h : k < (orderL p).length) : idxI (names p) ((orderL p)[k]?.getD []) = (fn (takenP p) k : Nat) := by
  obtain ⟨h1, h2⟩ := orderL_at (ord_of_some h) h
  rw [h1]
  exact idxI_get (names_nodup p) (takenP_lt p _ (fnIn h2))
theorem greedy_any {p : Pl} {i k : Nat} (hik : i < k) (hk : k < (orderL p).length) : ∃ a b : Nat, idxI (names p) ((orderL p)[k]?.getD []) = a ∧ idxI (names p) ((orderL p)[i]?.getD []) = b ∧
    (¬ b < a → ((depends p ((orderL p)[k]?.getD [])).any fun d => decide ((i : Int) ≤ idxI (orderL p) d)) = true) := by
  have hob := ord_of_some hk
  refine ⟨_, _, idx_names_at hk, idx_names_at (Nat.lt_trans hik hk), fun hab => ?_⟩
  obtain ⟨hle, hkt⟩ := orderL_at hob hk
  have hit : i < (takenP p).length := by omega
  have hg := greedy_taken (names p).length (gD p)
  have hnd := taken_nodup p
  have hkn : fn (takenP p) k < (names p).length := takenP_lt p _ (fnIn hkt)
  have hne : fn (takenP p) k ≠ fn (takenP p) i := fun e => by
    rw [fnAt hkt, fnAt hit] at e
    have := (List.getElem_inj hnd).1 e
    omega
  have hmin := next_some.1 (hg i hit)
  have hnr : rdy (gD p) ((takenP p).take i) (fn (takenP p) k) = false := hmin.2.2 _ (by
    have : fn (takenP p) k < fn (takenP p) i := by omega
    exact this)
  have hnot : fn (takenP p) k ∉ (takenP p).take i := fun hm => by
    obtain ⟨m, hm, he⟩ := List.mem_iff_getElem.1 hm
    rw [List.length_take] at hm
    rw [List.getElem_take, fnAt hkt] at he
    have := (List.getElem_inj hnd).1 he
    omega
  have hex : ∃ d ∈ gD p (fn (takenP p) k), d ∉ (takenP p).take i := by
    refine Classical.byContradiction fun hc => ?_
    have : rdy (gD p) ((takenP p).take i) (fn (takenP p) k) = true := rdy_iff.2 ⟨hnot, fun d hd => Classical.byContradiction fun h => hc ⟨d, hd, h⟩⟩
    rw [this] at hnr; cases hnr
  obtain ⟨d, hd, hdn⟩ := hex
  have hdl : d < (names p).length := gD_lt p _ d hd
  have hdt : d ∈ takenP p := by
    refine Classical.byContradiction fun hn => ?_
    have := nodup_le (names p).length (d :: takenP p) (List.nodup_cons.2 ⟨hn, hnd⟩) (fun y hy => by
      rcases List.mem_cons.1 hy with rfl | hy
      · exact hdl
      · exact takenP_lt p y hy)
    have := ord_taken hob
    simp at *
    omega
  obtain ⟨m, hm, hme⟩ := List.mem_iff_getElem.1 hdt
  have him : i ≤ m := by
    refine Classical.byContradiction fun hc => hdn ?_
    rw [← hme]
    exact List.mem_iff_getElem.2 ⟨m, by rw [List.length_take]; omega, by rw [List.getElem_take]⟩
  have hml : m < (orderL p).length := by rw [orderL_length hob, ← ord_taken hob]; exact hm
  rw [List.any_eq_true]
  refine ⟨(names p)[d]?.getD [], ?_, ?_⟩
  · rw [hle]
    unfold depends
    rw [mem_named (names_nodup p) deps_lt hdl, deps_at p hkn]; exact hd
  · have h1 := idxI_get (orderL_nodup p) hml
    have e : fn (takenP p) m = d := by rw [fnAt hm]; exact hme
    rw [(orderL_at hob hml).1, e] at h1
    rw [decide_eq_true_eq, h1]; omega
end Go.Proofs.Ythbnbjigmgoldaa
