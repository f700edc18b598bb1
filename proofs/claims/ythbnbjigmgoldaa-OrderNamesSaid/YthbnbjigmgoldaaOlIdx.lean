/- The statements' functions index and Same of layer 15. No conditions beyond the readings of the arguments. -/
import Derived.Test.YthbnbjigmgoldaaOMem
import Derived.Test.YthbnbjigmgoldaaOWalk
import Derived.Deep.Cut
namespace Go.Proofs.Ythbnbjigmgoldaa
open Go.RowKit
set_option linter.unusedVariables false

/-- Where a name stands in a list, or -1. -/
def idxI (l : List Str) (s : Str) : Int := if l.contains s then (l.idxOf s : Int) else -1
theorem idxI_neg {l : List Str} {s : Str} (h : ∀ x ∈ l, x ≠ s) : idxI l s = -1 := by
  unfold idxI
  rw [if_neg (fun hc => h s (List.contains_iff_mem.1 hc) rfl)]
theorem idxI_at {l : List Str} {s : Str} {k : Nat} (hk : k < l.length) (he : l[k]?.getD [] = s) (h : ∀ x ∈ l.take k, x ≠ s) : idxI l s = k := by
  have hs : l[k] = s := by rw [List.getElem?_eq_getElem hk] at he; exact he
  have hm : s ∈ l := hs ▸ List.getElem_mem hk
  unfold idxI
  rw [if_pos (List.contains_iff_mem.2 hm)]
  have h1 : l.idxOf s = k := by
    have h2 : l = l.take k ++ l[k] :: l.drop (k + 1) := by rw [← List.drop_eq_getElem_cons hk, List.take_append_drop]
    rw [h2, List.idxOf_append, if_neg (fun hc => h s hc rfl), hs, List.idxOf_cons_self, List.length_take]
    omega
  rw [h1]
set_option maxRecDepth 100000 in
set_option maxHeartbeats 1000000 in
theorem lindex_any (K : Nat) (v : Value) (l : List Str) (s : Str) (w : World) (hv : Strs K w v l) (hs : s.length ≤ maxLen) :
    Calls Try.prog 14 #[v, S s] w fun e w' => e = .returned (.int .i64 (idxI l s)) ∧ w = w' := by
  obtain ⟨va, vcap, rfl, hv1, hv2⟩ := id hv.form
  unfold maxLen at hv2
  go_enter Try.func14, Try.ntmps14
  go_wp2_with fail
  go_loopw [9] (fun i wr => w = wr ∧ ∃ k, k ≤ l.length ∧ i = .int .i64 k ∧ ∀ x ∈ l.take k, x ≠ s) (fun i _ => l.length - (intOf i).toNat)
  case atStart => exact ⟨rfl, 0, Nat.zero_le _, rfl, fun x hx => by simp at hx⟩
  case round =>
    obtain ⟨rfl, k, hk, rfl, hall⟩ := hrel
    by_cases hlt : k < l.length
    · obtain ⟨b, o, cap, he, _, _, hbK, hc⟩ := hv.pos (by omega)
      simp only [Value.slice.injEq, true_and] at he
      obtain ⟨rfl, rfl⟩ := he
      have c0 := hc k hlt
      have hts : l.take (k + 1) = l.take k ++ [l[k]?.getD []] := by rw [List.take_succ_eq_append_getElem hlt, List.getElem?_eq_getElem hlt]; rfl
      have hxl : (l[k]?.getD []).length ≤ maxLen := hv.len
      have HAT : Hid (∀ h : l[k]?.getD [] = s, idxI l s = k) := Lib.hid fun h => idxI_at hlt h hall
      obtain ⟨x, hx⟩ : ∃ x, l[k]?.getD [] = x := ⟨_, rfl⟩
      rw [hx] at c0 hts hxl HAT
      have HTS := Lib.hid hts
      have HALL := Lib.hid hall
      obtain ⟨ct, hct⟩ : ∃ ct, (x == s) = ct := ⟨_, rfl⟩
      have HCT := Lib.hid hct
      clear hx hts hc hall
      cases ct with
      | true =>
        go_wp2_with fail
        go_ret
        exact ⟨by rw [HAT.out (by simpa using HCT.out)]; rfl, rfl⟩
      | false =>
        have hall2 : ∀ y ∈ l.take (k + 1), y ≠ s := by
          rw [HTS.out]
          intro y hy
          rcases List.mem_append.1 hy with hy | hy
          · exact HALL.out y hy
          · rw [List.mem_singleton.1 hy]; exact beq_eq_false_iff_ne.1 HCT.out
        go_wp2_with fail
        exact ⟨⟨by first | trivial | rfl, k + 1, by omega, by go_num, hall2⟩, by simp [intOf]; omega⟩
    · obtain rfl : k = l.length := by omega
      rw [List.take_length] at hall
      have HE := Lib.hid (idxI_neg hall)
      go_wp2_with fail
      go_ret
      exact ⟨by rw [HE.out]; rfl, rfl⟩

theorem drewN_two (w : World) (n m : Nat) : (w.drewN n).drewN m = w.drewN (n + m) := by simp [World.drewN, Nat.add_assoc]
theorem same_len_ne {l m : List Str} (h : l.length ≠ m.length) : (l == m) = false := beq_eq_false_iff_ne.2 fun e => h (by rw [e])
theorem same_at_ne {l m : List Str} {k : Nat} (h : l[k]?.getD [] ≠ m[k]?.getD []) : (l == m) = false := beq_eq_false_iff_ne.2 fun e => h (by rw [e])
theorem same_all {l m : List Str} (hl : l.length = m.length) (h : ∀ i, i < l.length → l[i]?.getD [] = m[i]?.getD []) : (l == m) = true := by
  rw [beq_iff_eq]
  refine List.ext_getElem hl fun i h1 h2 => ?_
  have := h i h1
  rwa [List.getElem?_eq_getElem h1, List.getElem?_eq_getElem h2] at this

set_option maxRecDepth 100000 in
set_option maxHeartbeats 1000000 in
theorem lsame_any (K : Nat) (u v : Value) (l m : List Str) (w : World) (hu : Strs K w u l) (hv : Strs K w v m) :
    Calls Try.prog 18 #[u, v] w fun e w' => e = .returned (.bool (l == m)) ∧ ∃ n, w' = w.drewN n := by
  obtain ⟨ua, ucap, rfl, hu1, hu2⟩ := id hu.form
  obtain ⟨va, vcap, rfl, hv1, hv2⟩ := id hv.form
  unfold maxLen at hv2 hu2
  by_cases hne : l.length = m.length
  case neg =>
    have HE := Lib.hid (same_len_ne hne)
    have hne2 : ¬ ((l.length : Int) = (m.length : Int)) := by omega
    go_enter Try.func18, Try.ntmps18
    go_wp2_with fail
    go_ret
    exact ⟨by rw [HE.out]; rfl, 0, rfl⟩
  case pos =>
  obtain ⟨q, hq⟩ : ∃ q, l.length = q := ⟨_, rfl⟩
  have hq' : m.length = q := by rw [← hne, hq]
  rw [hq] at hu hu1 ⊢
  rw [hq'] at hv hv1 ⊢
  have HM := Lib.hid hq
  have HL := Lib.hid hq'
  clear hq hq' hne
  have hqq : ((q : Int) != (q : Int)) = false := by simp
  go_enter Try.func18, Try.ntmps18
  go_wp2_with fail
  go_loopw [13] (fun i wr => ∃ k n : Nat, k ≤ q ∧ i = .int .i64 k ∧ wr = w.drewN n ∧ Hid (∀ i, i < k → l[i]?.getD [] = m[i]?.getD [])) (fun i _ => q - (intOf i).toNat)
  case atStart => exact ⟨0, 0, Nat.zero_le _, rfl, rfl, Lib.hid fun i hi => absurd hi (Nat.not_lt_zero i)⟩
  case round =>
    obtain ⟨k, n, hk, rfl, rfl, HALL⟩ := hrel
    by_cases hlt : k < q
    · obtain ⟨b, o, cap, he, _, _, hbK, hc⟩ := hv.pos (by rw [HL.out]; omega)
      simp only [Value.slice.injEq] at he
      obtain ⟨rfl, _, rfl⟩ := he
      have c0 := hc k (by rw [HL.out]; exact hlt)
      obtain ⟨b', o', cap', he, _, _, hbK', hc'⟩ := hu.pos (by rw [HM.out]; omega)
      simp only [Value.slice.injEq] at he
      obtain ⟨rfl, _, rfl⟩ := he
      have c1 := hc' k (by rw [HM.out]; exact hlt)
      have hxl : (l[k]?.getD []).length ≤ maxLen := hu.len
      have hyl : (m[k]?.getD []).length ≤ maxLen := hv.len
      have HNE : Hid (l[k]?.getD [] ≠ m[k]?.getD [] → (l == m) = false) := Lib.hid same_at_ne
      have HEQ : Hid (l[k]?.getD [] = m[k]?.getD [] → ∀ i, i < k + 1 → l[i]?.getD [] = m[i]?.getD []) := Lib.hid fun he i hi => by
        by_cases h : i = k
        · subst h; exact he
        · exact HALL.out i (by omega)
      obtain ⟨x, hx⟩ : ∃ x, l[k]?.getD [] = x := ⟨_, rfl⟩
      obtain ⟨y, hy⟩ : ∃ y, m[k]?.getD [] = y := ⟨_, rfl⟩
      rw [hx] at c1 hxl HNE HEQ
      rw [hy] at c0 hyl HNE HEQ
      obtain ⟨ct, hct⟩ : ∃ ct, (x == y) = ct := ⟨_, rfl⟩
      have HCT := Lib.hid hct
      clear hx hy hc hc'
      cases ct with
      | false =>
        have HE := Lib.hid (HNE.out (beq_eq_false_iff_ne.1 HCT.out))
        go_upto_region 6 with fail
        go_quiet (fail)
        go_wp2_with fail
        go_ret
        exact ⟨by rw [HE.out]; rfl, _, by first | rfl | exact drewN_two _ _ _⟩
      | true =>
        have HE := Lib.hid (HEQ.out (by simpa using HCT.out))
        go_upto_region 6 with fail
        go_quiet (fail)
        go_wp2_with fail
        exact ⟨⟨k + 1, _, by omega, by go_num, by first | rfl | exact drewN_two _ _ _, HE⟩, by simp [intOf]; omega⟩
    · obtain rfl : q = k := by omega
      have HE : Hid ((l == m) = true) := Lib.hid (same_all (by rw [HM.out, HL.out]) (fun i hi => HALL.out i (by have := HM.out; omega)))
      go_wp2_with fail
      go_ret
      exact ⟨by rw [HE.out]; rfl, _, by first | rfl | exact drewN_two _ _ _⟩
end Go.Proofs.Ythbnbjigmgoldaa
