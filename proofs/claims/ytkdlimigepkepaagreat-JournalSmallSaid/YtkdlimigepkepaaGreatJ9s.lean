/- The statements' own helpers of layer 37: sameTexts, short, Pick. No conditions beyond the readings of the arguments. -/
import Derived.Test.YtkdlimigepkepaaGreatTxr
import Derived.Test.YtkdlimigepkepaaGreatJ8
namespace Go.Proofs.YtkdlimigepkepaaGreat
open Go.RowKit
set_option linter.unusedVariables false

/-- The first k texts are the same. -/
def sameTo (ps qs : List (List UInt8)) (k : Nat) : Prop := ∀ i, i < k → ps[i]?.getD [] = qs[i]?.getD []
theorem sameTo_all {ps qs : List (List UInt8)} (h : ps.length = qs.length) (hs : sameTo ps qs ps.length) : ps = qs := by
  apply List.ext_getElem h
  intro i h1 h2
  have := hs i h1
  simpa [h1, h2] using this

set_option maxRecDepth 100000 in
set_option maxHeartbeats 1000000 in
theorem sameTexts_any (K : Nat) (v u : Value) (ps qs : List (List UInt8)) (w : World) (hv : Txts K w v ps) (hu : Txts K w u qs) :
    Calls Tryz.prog 25 #[v, u] w fun e w' => e = .returned (.bool (decide (ps = qs))) ∧ ∃ n, w' = w.drewN n := by
  have hpm := hv.len_le
  have hqm := hu.len_le
  unfold maxLen at hpm hqm
  by_cases hl : ps.length = qs.length
  · rcases hv.cases with ⟨a, cap, rfl, rfl, _⟩ | ⟨b, o, cap, us, rfl, h0, hc1, hc2, hbK, hus, hcell⟩
    · obtain rfl : qs = [] := List.eq_nil_of_length_eq_zero (by simpa using hl.symm)
      obtain ⟨a', cap', rfl, _⟩ := hu
      go_enter Tryz.func25, Tryz.ntmps25
      go_wp2
      go_rounds 1
      go_ret
      exact ⟨rfl, 0, rfl⟩
    · rcases hu.cases with ⟨a', cap', rfl, rfl, _⟩ | ⟨b', o', cap', us', rfl, h0', hc1', hc2', hbK', hus', hcell'⟩
      · rw [List.length_nil] at hl; omega
      have hlb : ((ps.length : Int) != (qs.length : Int)) = false := by rw [bne_eq_false_iff_eq]; omega
      have hc3 : ps.length ≤ cap' := by omega
      have HL := Lib.hid hl
      have hle : ps.length ≤ qs.length := by omega
      clear hl
      go_enter Tryz.func25, Tryz.ntmps25
      go_wp2
      go_loopw [5] (fun i wr => ∃ k n : Nat, k ≤ ps.length ∧ i = .int .i64 k ∧ sameTo ps qs k ∧ wr = w.drewN n) (fun i _ => ps.length - (intOf i).toNat)
      case atStart => exact ⟨0, 0, Nat.zero_le _, rfl, fun i hi => by omega, rfl⟩
      case round =>
        obtain ⟨k, n, hk, rfl, hsame, rfl⟩ := hrel
        by_cases hlt : k < ps.length
        · obtain ⟨x, hx⟩ : ∃ x, us[k]?.getD undef = x := ⟨_, rfl⟩
          obtain ⟨y, hy⟩ : ∃ y, us'[k]?.getD undef = y := ⟨_, rfl⟩
          obtain ⟨p, hp⟩ : ∃ p, ps[k]?.getD [] = p := ⟨_, rfl⟩
          obtain ⟨q, hq⟩ : ∃ q, qs[k]?.getD [] = q := ⟨_, rfl⟩
          have c1 := hcell k hlt
          have c2 := hcell' k (by omega)
          rw [hx, hp] at c1
          rw [hy, hq] at c2
          obtain ⟨c1, b1⟩ := c1
          obtain ⟨c2, b2⟩ := c2
          have s1 : ∀ m, (convert 22 9 x).run Tryz.prog (w.drewN m) = .ok (.string ⟨p.toArray⟩) (w.drewN m) := fun m => conv_str (b1.drewN m)
          have s2 : ∀ m, (convert 22 9 y).run Tryz.prog (w.drewN m) = .ok (.string ⟨q.toArray⟩) (w.drewN m) := fun m => conv_str (b2.drewN m)
          have HP := Lib.hid hp; have HQ := Lib.hid hq; have HS := Lib.hid hsame
          clear hx hy hp hq hsame b1 b2 hcell hcell'
          by_cases hpq : p = q
          · have t : (p == q) = true := by simp [hpq]
            have HPQ := Lib.hid hpq; clear hpq
            go_wp2
            go_quiet (fail)
            go_wp2
            go_roundw
            case rel =>
              refine ⟨k + 1, n + nq, by omega, by go_num, fun i hi => ?_, rfl⟩
              by_cases h : i < k
              · exact HS.out i h
              · obtain rfl : i = k := by omega
                rw [HP.out, HQ.out, HPQ.out]
            case measure => simp [intOf]; omega
          · have t : (p == q) = false := by simp [hpq]
            have hne : Hid (decide (ps = qs) = false) := by
              unfold Hid
              rw [decide_eq_false_iff_not]
              intro h
              apply hpq
              rw [← HP.out, ← HQ.out, h]
            clear hpq
            go_wp2
            go_quiet (fail)
            go_wp2
            go_ret
            exact ⟨by rw [hne.out]; rfl, n + nq, by rw [World.drewN_drewN]⟩
        · obtain rfl : k = ps.length := by omega
          have he : Hid (decide (ps = qs) = true) := by unfold Hid; rw [decide_eq_true_iff]; exact sameTo_all HL.out hsame
          go_wp2
          go_ret
          exact ⟨by rw [he.out]; rfl, n, rfl⟩
  · obtain ⟨a, cap, rfl, _⟩ := hv
    obtain ⟨a', cap', rfl, _⟩ := hu
    have hlb : ((ps.length : Int) != (qs.length : Int)) = true := by rw [bne_iff_ne]; omega
    have hne : Hid (decide (ps = qs) = false) := by
      unfold Hid
      rw [decide_eq_false_iff_not]
      intro h
      exact hl (by rw [h])
    clear hl
    go_enter Tryz.func25, Tryz.ntmps25
    go_wp2
    go_ret
    exact ⟨by rw [hne.out]; rfl, 0, rfl⟩
end Go.Proofs.YtkdlimigepkepaaGreat
