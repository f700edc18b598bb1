/- JournalPrefix: plain law and walk. No conditions beyond the readings of the arguments. -/
import Derived.Test.YtkdlimigepkepaaLRead
namespace Go.Proofs.Ytkdlimigepkepaa
open Go.RowKit
set_option linter.unusedVariables false

/-- From any part of the data from the beginning, the records that lie in it as a whole are read. -/
theorem prefix_law {ps : List (List UInt8)} (hf : Fits ps) (n : Nat) (hn : n ≤ endOf ps) :
    ∃ k, k ≤ ps.length ∧ scanOf ((recs 0 ps).take n) = ps.take k ∧ endOf (ps.take k) ≤ n ∧ (k = ps.length ∨ n < endOf (ps.take (k + 1))) := by
  have hex : ∀ m, m ≤ ps.length → endOf (ps.take m) ≤ n → ∃ k, k ≤ ps.length ∧ endOf (ps.take k) ≤ n ∧ (k = ps.length ∨ n < endOf (ps.take (k + 1))) := by
    intro m
    induction hd : ps.length - m generalizing m with
    | zero => intro h1 h2; exact ⟨m, h1, h2, .inl (by omega)⟩
    | succ d ih =>
      intro h1 h2
      by_cases h3 : n < endOf (ps.take (m + 1))
      · exact ⟨m, h1, h2, .inr h3⟩
      · exact ih (m + 1) (by omega) (by omega) (by omega)
  obtain ⟨k, hk, h1, h2⟩ := hex 0 (Nat.zero_le _) (by simp [endOf])
  refine ⟨k, hk, ?_, h1, h2⟩
  have hfk : Fits (ps.take k) := ⟨by have := hf.1; simp; omega, fun p hp => hf.2 p (List.mem_of_mem_take hp)⟩
  have hsp : recs 0 ps = recs 0 (ps.take k) ++ recs k (ps.drop k) := by
    have h := recs_append (ps.take k) (ps.drop k) 0
    rw [List.take_append_drop] at h
    have : (ps.take k).length = k := by simp; omega
    rw [this] at h
    simpa using h
  have hlk : (recs 0 (ps.take k)).length = endOf (ps.take k) := recs_length _ _
  rcases h2 with rfl | h2
  · rw [List.take_length] at h1 hlk ⊢
    rw [List.take_of_length_le (by rw [hlk]; omega)]
    exact scan_recs hf
  · by_cases hkl : k < ps.length
    · obtain ⟨q, hq⟩ : ∃ q, ps[k]?.getD [] = q := ⟨_, rfl⟩
      have hd : ps.drop k = q :: ps.drop (k + 1) := by
        rw [← hq]; simp [hkl]
      have hqs : q.length ≤ 4096 := by rw [← hq]; exact hf.2 _ (by simp [hkl])
      have hs := endOf_take_succ ps k hkl
      rw [hq] at hs
      rw [hsp, List.take_append, hlk, List.take_of_length_le (by rw [hlk]; omega), hd]
      simp only [recs]
      have hl2 : n - endOf (ps.take k) ≤ (formOf (k + 1) q).length := by rw [formOf_length]; omega
      rw [List.take_append_of_le_length hl2]
      have htl : (ps.take k).length = k := by simp; omega
      refine scan_torn (q := q) hfk hqs ?_ (by simp; omega)
      rw [htl]
      exact List.take_prefix _ _
    · obtain rfl : k = ps.length := by omega
      rw [List.take_length] at h1 hlk ⊢
      rw [List.take_of_length_le (by rw [hlk]; omega)]
      exact scan_recs hf
end Go.Proofs.Ytkdlimigepkepaa
