/- The statements' own helpers of layer 37: sameTexts, short, Pick. No conditions beyond the readings of the arguments. -/
import Derived.Test.YtkdlimigepkepaaTxr
import Derived.Test.YtkdlimigepkepaaJ8
namespace Go.Proofs.Ytkdlimigepkepaa
open Go.RowKit
set_option linter.unusedVariables false

/-- The first k texts are the same. -/
def sameTo (ps qs : List (List UInt8)) (k : Nat) : Prop := ∀ i, i < k → ps[i]?.getD [] = qs[i]?.getD []
theorem sameTo_all {ps qs : List (List UInt8)} (h : ps.length = qs.length) (hs : sameTo ps qs ps.length) : ps = qs := by
  apply List.ext_getElem h
  intro i h1 h2
  have := hs i h1
  simpa [h1, h2] using this

set_option maxRecDepth 100000 in
set_option maxHeartbeats 1000000 in
theorem sameTexts_any (K : Nat) (v u : Value) (ps qs : List (List UInt8)) (w : World) (hv : Txts K w v ps) (hu : Txts K w u qs) :
    Calls Try.prog 18 #[v, u] w fun e w' => e = .returned (.bool (decide (ps = qs))) ∧ ∃ n, w' = w.drewN n := by
  have hpm := hv.len_le
  have hqm := hu.len_le
  unfold maxLen at hpm hqm
  by_cases hl : ps.length = qs.length
  · rcases hv.cases with ⟨a, cap, rfl, rfl, _⟩ | ⟨b, o, cap, us, rfl, h0, hc1, hc2, hbK, hus, hcell⟩
    · obtain rfl : qs = [] := List.eq_nil_of_length_eq_zero (by simpa using hl.symm)
      obtain ⟨a', cap', rfl, _⟩ := hu
      go_enter Try.func18, Try.ntmps18
      go_wp2
      go_rounds 1
      go_ret
      exact ⟨rfl, 0, rfl⟩
    · rcases hu.cases with ⟨a', cap', rfl, rfl, _⟩ | ⟨b', o', cap', us', rfl, h0', hc1', hc2', hbK', hus', hcell'⟩
      · rw [List.length_nil] at hl; omega
      have hlb : ((ps.length : Int) != (qs.length : Int)) = false := by rw [bne_eq_false_iff_eq]; omega
      have hc3 : ps.length ≤ cap' := by omega
      have HL := Lib.hid hl
      have hle : ps.length ≤ qs.length := by omega
      clear hl
      go_enter Try.func18, Try.ntmps18
      go_wp2
      go_loopw [5] (fun i wr => ∃ k n : Nat, k ≤ ps.length ∧ i = .int .i64 k ∧ sameTo ps qs k ∧ wr = w.drewN n) (fun i _ => ps.length - (intOf i).toNat)
      case atStart => exact ⟨0, 0, Nat.zero_le _, rfl, fun i hi => by omega, rfl⟩
      case round =>
        obtain ⟨k, n, hk, rfl, hsame, rfl⟩ := hrel
        by_cases hlt : k < ps.length
        · obtain ⟨x, hx⟩ : ∃ x, us[k]?.getD undef = x := ⟨_, rfl⟩
          obtain ⟨y, hy⟩ : ∃ y, us'[k]?.getD undef = y := ⟨_, rfl⟩
          obtain ⟨p, hp⟩ : ∃ p, ps[k]?.getD [] = p := ⟨_, rfl⟩
          obtain ⟨q, hq⟩ : ∃ q, qs[k]?.getD [] = q := ⟨_, rfl⟩
          have c1 := hcell k hlt
          have c2 := hcell' k (by omega)
          rw [hx, hp] at c1
          rw [hy, hq] at c2
          obtain ⟨c1, b1⟩ := c1
          obtain ⟨c2, b2⟩ := c2
          have s1 : ∀ m, (convert 25 9 x).run Try.prog (w.drewN m) = .ok (.string ⟨p.toArray⟩) (w.drewN m) := fun m => conv_str (b1.drewN m)
          have s2 : ∀ m, (convert 25 9 y).run Try.prog (w.drewN m) = .ok (.string ⟨q.toArray⟩) (w.drewN m) := fun m => conv_str (b2.drewN m)
          have HP := Lib.hid hp; have HQ := Lib.hid hq; have HS := Lib.hid hsame
          clear hx hy hp hq hsame b1 b2 hcell hcell'
          by_cases hpq : p = q
          · have t : (p == q) = true := by simp [hpq]
            have HPQ := Lib.hid hpq; clear hpq
            go_wp2
            go_quiet (fail)
            go_wp2
            go_roundw
            case rel =>
              refine ⟨k + 1, n + nq, by omega, by go_num, fun i hi => ?_, rfl⟩
              by_cases h : i < k
              · exact HS.out i h
              · obtain rfl : i = k := by omega
                rw [HP.out, HQ.out, HPQ.out]
            case measure => simp [intOf]; omega
          · have t : (p == q) = false := by simp [hpq]
            have hne : Hid (decide (ps = qs) = false) := by
              unfold Hid
              rw [decide_eq_false_iff_not]
              intro h
              apply hpq
              rw [← HP.out, ← HQ.out, h]
            clear hpq
            go_wp2
            go_quiet (fail)
            go_wp2
            go_ret
            exact ⟨by rw [hne.out]; rfl, n + nq, by rw [World.drewN_drewN]⟩
        · obtain rfl : k = ps.length := by omega
          have he : Hid (decide (ps = qs) = true) := by unfold Hid; rw [decide_eq_true_iff]; exact sameTo_all HL.out hsame
          go_wp2
          go_ret
          exact ⟨by rw [he.out]; rfl, n, rfl⟩
  · obtain ⟨a, cap, rfl, _⟩ := hv
    obtain ⟨a', cap', rfl, _⟩ := hu
    have hlb : ((ps.length : Int) != (qs.length : Int)) = true := by rw [bne_iff_ne]; omega
    have hne : Hid (decide (ps = qs) = false) := by
      unfold Hid
      rw [decide_eq_false_iff_not]
      intro h
      exact hl (by rw [h])
    clear hl
    go_enter Try.func18, Try.ntmps18
    go_wp2
    go_ret
    exact ⟨by rw [hne.out]; rfl, 0, rfl⟩

/-- There are at most so many texts, of at most 300 bytes each. -/
def shortB (ps : List (List UInt8)) (m : Int) : Bool := decide (∀ i, i < ps.length → (i : Int) < m ∧ (ps[i]?.getD []).length ≤ 300)

set_option maxRecDepth 100000 in
set_option maxHeartbeats 1000000 in
theorem short_any (K : Nat) (v : Value) (ps : List (List UInt8)) (m : Int) (w : World) (hv : Txts K w v ps) :
    Calls Try.prog 21 #[v, .int .i64 m] w fun e w' => e = .returned (.bool (shortB ps m)) ∧ w = w' := by
  have hpm := hv.len_le
  unfold maxLen at hpm
  rcases hv.cases with ⟨a, cap, rfl, rfl, _⟩ | ⟨b, o, cap, us, rfl, h0, hc1, hc2, hbK, hus, hcell⟩
  · go_enter Try.func21, Try.ntmps21
    go_wp2
    go_rounds 1
    go_ret
    exact ⟨rfl, rfl⟩
  · go_enter Try.func21, Try.ntmps21
    go_wp2
    go_loop [5] (fun i => ∃ k : Nat, k ≤ ps.length ∧ i = .int .i64 k ∧ (∀ i, i < k → (i : Int) < m ∧ (ps[i]?.getD []).length ≤ 300)) (fun i => ps.length - (intOf i).toNat)
    case atStart => exact ⟨0, Nat.zero_le _, rfl, fun i hi => by omega⟩
    case round =>
      obtain ⟨k, hk, rfl, hall⟩ := hrel
      have HA := Lib.hid hall; clear hall
      by_cases hlt : k < ps.length
      · obtain ⟨x, hx⟩ : ∃ x, us[k]?.getD undef = x := ⟨_, rfl⟩
        obtain ⟨p, hp⟩ : ∃ p, ps[k]?.getD [] = p := ⟨_, rfl⟩
        have c1 := hcell k hlt
        rw [hx, hp] at c1
        obtain ⟨c1, b1⟩ := c1
        obtain ⟨xa, xc, rfl, x1, x2, _⟩ := b1
        unfold maxLen at x2
        have HP := Lib.hid hp
        clear hx hp hcell
        by_cases h1 : m ≤ k
        · have t1 : decide (m ≤ (k : Int)) = true := by simp; omega
          have hr : Hid (shortB ps m = false) := by
            unfold Hid shortB; rw [decide_eq_false_iff_not]; intro h; have := (h k hlt).1; omega
          clear h1
          go_wp2
          go_ret
          exact ⟨by rw [hr.out]; rfl, rfl⟩
        · have t1 : decide (m ≤ (k : Int)) = false := by simp; omega
          by_cases h2 : 300 < p.length
          · have t2 : decide ((300 : Int) < (p.length : Int)) = true := by simp; omega
            have hr : Hid (shortB ps m = false) := by
              unfold Hid shortB; rw [decide_eq_false_iff_not]; intro h; have := (h k hlt).2; rw [HP.out] at this; omega
            clear h1 h2
            go_wp2
            go_ret
            exact ⟨by rw [hr.out]; rfl, rfl⟩
          · have t2 : decide ((300 : Int) < (p.length : Int)) = false := by simp; omega
            have H1 := Lib.hid h1; have H2 := Lib.hid h2
            clear h1 h2
            go_wp2
            go_round
            case rel =>
              refine ⟨k + 1, by omega, by go_num, fun i hi => ?_⟩
              by_cases h : i < k
              · exact HA.out i h
              · obtain rfl : i = k := by omega
                rw [HP.out]
                exact ⟨by have := H1.out; omega, by have := H2.out; omega⟩
            case measure => simp [intOf]; omega
      · have hr : Hid (shortB ps m = true) := by
          unfold Hid shortB; rw [decide_eq_true_iff]; intro i hi; exact HA.out i (by omega)
        go_wp2
        go_ret
        exact ⟨by rw [hr.out]; rfl, rfl⟩

/-- A number brought into the range from 0 to n - 1. -/
def pickI (x n : Int) : Int := if n < 1 then 0 else x % n
theorem pickI_bd (x n : Int) (h : 1 ≤ n) : 0 ≤ pickI x n ∧ pickI x n < n := by
  unfold pickI; rw [if_neg (by omega)]
  exact ⟨Int.emod_nonneg _ (by omega), Int.emod_lt_of_pos _ (by omega)⟩

set_option maxHeartbeats 400000 in
theorem pick_any (x n : Int) (w : World) (hn : n ≤ 2 ^ 62) (hx1 : -(2 ^ 63) ≤ x) (hx2 : x ≤ 2 ^ 63 - 1) (h : 1 ≤ n) :
    Calls Try.prog 24 #[.int .i64 x, .int .i64 n] w fun e w' => e = .returned (.int .i64 (pickI x n)) ∧ w = w' := by
  have t : decide (n < (1 : Int)) = false := by simp; omega
  obtain ⟨r, hr⟩ : ∃ r, x.tmod n = r := ⟨_, rfl⟩
  have hr1 : -n < r := by rw [← hr]; have := Int.lt_tmod_of_pos x (show 0 < n by omega); omega
  have hr2 : r < n := by rw [← hr]; exact Int.tmod_lt_of_pos x (by omega)
  have hp : Hid (pickI x n = if r < 0 then r + n else r) := by
    unfold Hid pickI
    rw [if_neg (by omega)]
    have h1 : x % n = r % n := by
      have := Int.mul_tdiv_add_tmod x n
      rw [hr] at this
      rw [← this]; simp
    rw [h1]
    split
    · have h2 : r % n = (r + n) % n := by simp
      rw [h2]; exact Int.emod_eq_of_lt (by omega) (by omega)
    · exact Int.emod_eq_of_lt (by omega) (by omega)
  go_enter Try.func24, Try.ntmps24
  by_cases h0 : r < 0
  · have t0 : decide (r < (0 : Int)) = true := by simp; omega
    go_wp2
    go_ret
    exact ⟨by rw [hp.out, if_pos h0]; rfl, rfl⟩
  · have t0 : decide (r < (0 : Int)) = false := by simp; omega
    go_wp2
    go_ret
    exact ⟨by rw [hp.out, if_neg (by omega)]; rfl, rfl⟩
end Go.Proofs.Ytkdlimigepkepaa
