/- The statements' function Ints of layer 16. No conditions beyond the readings of the arguments. -/
import Derived.Test.YthooiobhlbnaoaaGreatGaInF
import Derived.Deep.Cut
namespace Go.Proofs.YthooiobhlbnaoaaGreat
open Go.RowKit
set_option linter.unusedVariables false

theorem drewN_two (w : World) (n m : Nat) : (w.drewN n).drewN m = w.drewN (n + m) := by simp [World.drewN, Nat.add_assoc]
theorem nats_len_ne {l m : List Nat} (h : l.length ≠ m.length) : (l == m) = false := beq_eq_false_iff_ne.2 fun e => h (by rw [e])
theorem nats_at_ne {l m : List Nat} {k : Nat} (h : l[k]?.getD 0 ≠ m[k]?.getD 0) : (l == m) = false := beq_eq_false_iff_ne.2 fun e => h (by rw [e])
theorem nats_all {l m : List Nat} (hl : l.length = m.length) (h : ∀ i, i < l.length → l[i]?.getD 0 = m[i]?.getD 0) : (l == m) = true := by
  rw [beq_iff_eq]
  refine List.ext_getElem hl fun i h1 h2 => ?_
  have := h i h1
  rwa [List.getElem?_eq_getElem h1, List.getElem?_eq_getElem h2] at this

set_option maxRecDepth 100000 in
set_option maxHeartbeats 1000000 in
theorem gints_any (K : Nat) (u v : Value) (l m : List Nat) (w : World) (hu : Nats K w u l) (hv : Nats K w v m) :
    Calls Tryz.prog 24 #[u, v] w fun e w' => e = .returned (.bool (l == m)) ∧ ∃ n, w' = w.drewN n := by
  obtain ⟨ua, ucap, rfl, hu1, hu2⟩ := id hu.form
  obtain ⟨va, vcap, rfl, hv1, hv2⟩ := id hv.form
  unfold maxLen at hv2 hu2
  by_cases hne : l.length = m.length
  case neg =>
    have HE := Lib.hid (nats_len_ne hne)
    have hne2 : ¬ ((l.length : Int) = (m.length : Int)) := by omega
    go_enter Tryz.func24, Tryz.ntmps24
    go_wp2_with fail
    go_ret
    exact ⟨by rw [HE.out]; rfl, 0, rfl⟩
  case pos =>
  obtain ⟨q, hq⟩ : ∃ q, l.length = q := ⟨_, rfl⟩
  have hq' : m.length = q := by rw [← hne, hq]
  rw [hq] at hu hu1 ⊢
  rw [hq'] at hv hv1 ⊢
  have HM := Lib.hid hq
  have HL := Lib.hid hq'
  clear hq hq' hne
  have hqq : ((q : Int) != (q : Int)) = false := by simp
  go_enter Tryz.func24, Tryz.ntmps24
  go_wp2_with fail
  go_loopw [13] (fun i wr => ∃ k n : Nat, k ≤ q ∧ i = .int .i64 k ∧ wr = w.drewN n ∧ Hid (∀ i, i < k → l[i]?.getD 0 = m[i]?.getD 0)) (fun i _ => q - (intOf i).toNat)
  case atStart => exact ⟨0, 0, Nat.zero_le _, rfl, rfl, Lib.hid fun i hi => absurd hi (Nat.not_lt_zero i)⟩
  case round =>
    obtain ⟨k, n, hk, rfl, rfl, HALL⟩ := hrel
    by_cases hlt : k < q
    · obtain ⟨b, o, cap, he, _, _, hbK, hc⟩ := hv.pos (by rw [HL.out]; omega)
      simp only [Value.slice.injEq] at he
      obtain ⟨rfl, _, rfl⟩ := he
      have c0 := hc k (by rw [HL.out]; exact hlt)
      obtain ⟨b', o', cap', he, _, _, hbK', hc'⟩ := hu.pos (by rw [HM.out]; omega)
      simp only [Value.slice.injEq] at he
      obtain ⟨rfl, _, rfl⟩ := he
      have c1 := hc' k (by rw [HM.out]; exact hlt)
      have HNE : Hid (l[k]?.getD 0 ≠ m[k]?.getD 0 → (l == m) = false) := Lib.hid nats_at_ne
      have HEQ : Hid (l[k]?.getD 0 = m[k]?.getD 0 → ∀ i, i < k + 1 → l[i]?.getD 0 = m[i]?.getD 0) := Lib.hid fun he i hi => by
        by_cases h : i = k
        · subst h; exact he
        · exact HALL.out i (by omega)
      obtain ⟨x, hx⟩ : ∃ x, l[k]?.getD 0 = x := ⟨_, rfl⟩
      obtain ⟨y, hy⟩ : ∃ y, m[k]?.getD 0 = y := ⟨_, rfl⟩
      rw [hx] at c1 HNE HEQ
      rw [hy] at c0 HNE HEQ
      clear hx hy hc hc'
      by_cases hct : x = y
      · have HE := Lib.hid (HEQ.out hct)
        have hb1 : ((x : Int) != (y : Int)) = false := by rw [hct]; simp
        clear hct
        go_upto_region 6 with fail
        go_quiet (fail)
        go_wp2_with fail
        exact ⟨⟨k + 1, _, by omega, by go_num, by first | rfl | exact drewN_two _ _ _, HE⟩, by simp [intOf]; omega⟩
      · have HE := Lib.hid (HNE.out hct)
        have hb1 : ((x : Int) != (y : Int)) = true := by simp; omega
        clear hct
        go_upto_region 6 with fail
        go_quiet (fail)
        go_wp2_with fail
        go_ret
        exact ⟨by rw [HE.out]; rfl, _, by first | rfl | exact drewN_two _ _ _⟩
    · obtain rfl : q = k := by omega
      have HE : Hid ((l == m) = true) := Lib.hid (nats_all (by rw [HM.out, HL.out]) (fun i hi => HALL.out i (by have := HM.out; omega)))
      go_wp2_with fail
      go_ret
      exact ⟨by rw [HE.out]; rfl, _, by first | rfl | exact drewN_two _ _ _⟩
end Go.Proofs.YthooiobhlbnaoaaGreat
