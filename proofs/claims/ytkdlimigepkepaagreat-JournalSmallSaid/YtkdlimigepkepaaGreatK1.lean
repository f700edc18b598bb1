/- The laws' kit: marks, lent bytes, kept bytes. No conditions beyond sizes. -/
import Derived.Test.YtkdlimigepkepaaGreatQ8
namespace Go.Proofs.YtkdlimigepkepaaGreat
open Go.RowKit
set_option linter.unusedVariables false

/-- The mark for index i of slice k, as a byte. -/
def mb (k i : Nat) : UInt8 := UInt8.ofNat ((1000003 * (k + 7) + i) * 11400714819323198485 % 18446744073709551616 / 72057594037927936)

theorem cast_chain (M C P Q R : Nat) : (M : Int) * (C : Int) % (P : Int) / (Q : Int) % (R : Int) = ((M * C % P / Q % R : Nat) : Int) := by push_cast; rfl
theorem mb_eq (k i : Nat) : IntKind.u64.wrap (IntKind.u64.wrap ((1000003 * (k + 7) + i : Nat) : Int) * 11400714819323198485) / 72057594037927936 % 256 = ((mb k i).toNat : Int) := by
  unfold mb
  rw [UInt8.toNat_ofNat']
  obtain ⟨M, hM⟩ : ∃ M : Nat, 1000003 * (k + 7) + i = M := ⟨_, rfl⟩
  rw [hM]
  have e : ∀ x : Int, IntKind.u64.wrap x = x % 18446744073709551616 := fun x => rfl
  rw [e, e, Int.mul_emod, Int.emod_emod_of_dvd _ (Int.dvd_refl _), ← Int.mul_emod]
  exact cast_chain M 11400714819323198485 18446744073709551616 72057594037927936 256
/-- Marks, from the first on. -/
def marks (k m : Nat) : List UInt8 := (List.range m).map (mb k)
theorem marks_length (k m : Nat) : (marks k m).length = m := by simp [marks]
theorem marks_succ (k m : Nat) : marks k (m + 1) = marks k m ++ [mb k m] := by simp [marks, List.range_succ]
theorem marks_at (k m i : Nat) (h : i < m) : (marks k m)[i]?.getD 0 = mb k i := by simp [marks, h]

theorem mark_any (k i : Nat) (k' i' : Int) (w : World) (hk' : k' = k) (hi' : i' = i) (hk : k ≤ 2 ^ 30) (hi : i ≤ 2 ^ 30) :
    Calls Tryz.prog 45 #[.int .i64 k', .int .i64 i'] w fun e w' => e = .returned (.int .i64 ((1000003 * (k + 7) + i : Nat) : Int)) ∧ w = w' := by
  subst hk' hi'
  obtain ⟨x, hx⟩ : ∃ x : Int, 1000003 * ((k : Int) + 7) = x := ⟨_, rfl⟩
  have h1 : IntKind.i64.wrap (1000003 * ((k : Int) + 7)) = x := by rw [hx]; exact IntWalk.i64_in _ (by omega)
  have h2 : IntKind.i64.wrap (x + (i : Int)) = x + (i : Int) := IntWalk.i64_in _ (by omega)
  have hr : Hid (x + (i : Int) = ((1000003 * (k + 7) + i : Nat) : Int)) := by unfold Hid; omega
  clear hx
  go_enter Tryz.func45, Tryz.ntmps45
  go_wp2
  go_ret
  exact ⟨by rw [← hr.out]; rfl, rfl⟩

set_option maxRecDepth 100000 in
set_option maxHeartbeats 1000000 in
theorem markB_any (k i : Nat) (k' i' : Int) (w : World) (hk' : k' = k) (hi' : i' = i) (hk : k ≤ 2 ^ 30) (hi : i ≤ 2 ^ 30) :
    Calls Tryz.prog 36 #[.int .i64 k', .int .i64 i'] w fun e w' => e = .returned (.int .u8 ((mb k i).toNat : Int)) ∧ w = w' := by
  subst hk' hi'
  go_enter Tryz.func36, Tryz.ntmps36
  go_wp2_with fail
  refine (mark_any k i _ _ w rfl rfl hk hi).mono ?_
  rintro e w1 ⟨rfl, rfl⟩
  obtain ⟨m, hm⟩ : ∃ m : Int, ((1000003 * (k + 7) + i : Nat) : Int) = m := ⟨_, rfl⟩
  rw [hm]
  have HM := Lib.hid hm
  clear hm
  go_wp2_with fail
  go_ret
  exact ⟨ret_int (by rw [← HM.out]; exact mb_eq k i), rfl⟩

set_option maxRecDepth 100000 in
set_option maxHeartbeats 1000000 in
/-- LentBytes: a copy with marks behind it. -/
theorem lent_any (K : Nat) (v : Value) (l : List UInt8) (w : World) (hv : Byts K w v l) (hK : K ≤ w.heap.size) (hl21 : l.length ≤ 2 ^ 21) :
    Calls Tryz.prog 11 #[v] w fun e w' => ∃ a cap, e = .returned (.slice a l.length cap) ∧ OwnB w.heap.size w' (.slice a (l.length + 12) cap) (l ++ marks 1 12) ∧ Below w.heap.size w w' := by
  obtain ⟨i0, hi, hz0, hz1, hz2⟩ := info_parts Tryz.infoU8
  obtain ⟨va, vcap, rfl, _, _, _⟩ := id hv
  have HV := Lib.hid hv
  have hsm : ([] : List UInt8).length + l.length ≤ 2 ^ 46 := by simp; omega
  clear hv
  go_enter Tryz.func11, Tryz.ntmps11
  go_wp2_with (first
    | (at_make; refine wpList_make_own _ rfl (.const (.int .i64 0)) (.tmp 7) 22 rfl w.heap.size 5 i0 _ 1 Tryz.underlying22 hi hz0 hz1 .i64 .i64 _ (l.length + 12) rfl rfl (by omega) (by rw [hz2]; omega) (by unfold maxLen; omega) (Nat.le_refl _) ?_; intro w1 ho1 hg1; have ho1 : OwnB w.heap.size w1 (.slice (some ⟨w.heap.size, 0, none⟩) 0 (l.length + 12)) [] := ho1; have hb1 : Below w.heap.size w w1 := below_of_grown hg1 (fun r hr => nomatch hr) (Nat.le_refl _); have hv1 := HV.out.below (hb1.mono hK) (Nat.le_refl _))
    | (at_builtin; refine wpList_append_B rfl (.tmp 9) (.tmp 10) rfl rfl rfl ho1 hv1 hsm hb1.size ?_; intro v2 w2 ho2 hg2 hat2; have hb2 : Below w.heap.size w w2 := hb1.trans (below_of_grown hg2 (fun r hr => (ownsRow_cells ho1 hr).1) hb1.size)))
  rw [List.nil_append] at ho2
  clear ho1 hg1 hg2 hat2 hb1 hv1
  go_loopw [3, 4] (fun s3 s4 wr => ∃ k : Nat, k ≤ 12 ∧ s4 = .int .i64 (k : Nat) ∧ OwnB w.heap.size wr s3 (l ++ marks 1 k) ∧ Below w.heap.size w wr) (fun _ s4 _ => 12 - (intOf s4).toNat)
  case atStart => exact ⟨0, by omega, rfl, by simpa [marks] using ho2, hb2⟩
  case round =>
    obtain ⟨k, hk, rfl, ho, hb⟩ := hrel
    clear ho2 hb2
    by_cases hlt : k < 12
    · have t : decide ((k : Int) < (12 : Int)) = true := by simp; omega
      have hs := hb.size
      go_wp2_with fail
      refine (markB_any 1 k _ _ wr rfl rfl (by omega) (by omega)).mono ?_
      rintro e w3 ⟨rfl, rfl⟩
      have hone := Byts.one wr ((mb 1 k).toNat : Int) 5 (mb 1 k) rfl
      have hb1 : (l ++ marks 1 k).length + [mb 1 k].length ≤ 2 ^ 46 := by simp [marks_length]; omega
      go_wp2_with (at_builtin; refine wpList_append_B rfl (.tmp 16) (.tmp 19) rfl rfl rfl (ho.alloc _) hone hb1 (by simp; omega) ?_; intro v4 w4 ho4 hg4 hat4; have hb4 : Below w.heap.size w w4 := (hb.alloc hs _).trans (below_of_grown hg4 (fun r hr => (ownsRow_cells ho hr).1) (by simp; omega)); obtain ⟨ra, rn, rc, rfl⟩ := ownBlock_of_OwnB ho4)
      have ho5 : OwnB w.heap.size w4 (.slice ra rn rc) (l ++ marks 1 (k + 1)) := by rw [marks_succ, ← List.append_assoc]; exact ho4
      refine ⟨⟨k + 1, by omega, by go_num, ho5, hb4⟩, ?_⟩
      simp [intOf]; omega
    · obtain rfl : k = 12 := by omega
      obtain ⟨ra, rc, rfl, hr1, hr2⟩ := ho.form
      rw [List.length_append, marks_length] at hr1 ⊢
      have hr3 : l.length ≤ rc := by omega
      have hr4 : rc ≤ 2 ^ 63 - 1 := by unfold maxLen at hr2; omega
      rw [List.length_append, marks_length] at ho
      clear hr1 hr2
      go_wp2_with fail
      go_ret
      exact ⟨_, _, rfl, ho, hb⟩

set_option maxRecDepth 100000 in
set_option maxHeartbeats 1000000 in
/-- KeptBytes of what lies there as it was lent. -/
theorem kept_any (K : Nat) (a : Option Addr) (cap : Nat) (vl : Value) (d : List UInt8) (w : World) (ho : Byts K w (.slice a (d.length + 12) cap) (d ++ marks 1 12)) (hd : Byts K w vl d) (hl21 : d.length ≤ 2 ^ 21) :
    Calls Tryz.prog 28 #[.slice a d.length cap, vl] w fun e w' => e = .returned (.bool true) ∧ ∃ n, w' = w.drewN n := by
  obtain ⟨va, vcap, rfl, hv1, hv2, _, hvc⟩ := hd
  rcases ho.cases with ⟨a', cap', he, hn, _⟩ | ⟨b, o, cap', he, h0, hc1, hc2, hbK, hcell⟩
  · simp at he
  have hlen : (d ++ marks 1 12).length = d.length + 12 := by simp [marks_length]
  rw [hlen] at he h0 hc1 hcell
  simp only [Value.slice.injEq, true_and] at he
  obtain ⟨rfl, rfl⟩ := he
  have hcap : cap ≤ 2 ^ 63 - 1 := by unfold maxLen at hc2; omega
  have hvcap : vcap ≤ 2 ^ 63 - 1 := by unfold maxLen at hv2; omega
  have HC := Lib.hid hcell; have HVC := Lib.hid hvc
  clear hcell hvc ho hc2 hv2 h0
  go_enter Tryz.func28, Tryz.ntmps28
  go_wp2_with fail
  go_loopw [6] (fun s6 wr => ∃ k n : Nat, k ≤ d.length + 12 ∧ s6 = .int .i64 k ∧ wr = w.drewN n) (fun s6 _ => d.length + 12 - (intOf s6).toNat)
  case atStart => exact ⟨0, 0, Nat.zero_le _, rfl, rfl⟩
  case round =>
    obtain ⟨k, n, hk, rfl, rfl⟩ := hrel
    have HCW : Hid (∀ i, i < d.length + 12 → (w.drewN n).cell? ⟨b, o + i, none⟩ = some (B ((d ++ marks 1 12)[i]?.getD 0))) := HC.out
    have HVW : Hid (∀ i, i < d.length → ∃ b o, va = some ⟨b, o, none⟩ ∧ b < K ∧ (w.drewN n).cell? ⟨b, o + i, none⟩ = some (B (d[i]?.getD 0))) := HVC.out
    obtain ⟨W, hW⟩ : ∃ X, w.drewN n = X := ⟨_, rfl⟩
    rw [hW] at HCW HVW ⊢
    have HW := Lib.hid hW
    clear hW
    by_cases hlt : k < d.length + 12
    · have c1 := HCW.out k hlt
      have t0 : decide ((k : Int) < (d.length : Int) + 12) = true := by simp; omega
      by_cases hkd : k < d.length
      · obtain ⟨b', o', hva, hbK', c2⟩ := HVW.out k hkd
        subst hva
        have hx : (d ++ marks 1 12)[k]?.getD 0 = d[k]?.getD 0 := by rw [List.getElem?_append_left hkd]
        rw [hx] at c1
        obtain ⟨x, hx2⟩ : ∃ x : Int, ((d[k]?.getD 0).toNat : Int) = x := ⟨_, rfl⟩
        simp only [B, hx2] at c1 c2
        have hnk : ¬ d.length ≤ k := by omega
        clear hx hx2
        go_wp2_with fail
        go_quiet (fail)
        go_wp2_with fail
        go_roundw
        case rel => exact ⟨k + 1, n + nq, by omega, by go_num, by rw [← HW.out, World.drewN_drewN]⟩
        case measure => simp [intOf]; omega
      · have hx : (d ++ marks 1 12)[k]?.getD 0 = mb 1 (k - d.length) := by rw [List.getElem?_append_right (by omega)]; exact marks_at 1 12 _ (by omega)
        rw [hx] at c1
        have hm : ∀ q, Calls Tryz.prog 36 #[.int .i64 1, .int .i64 ((k : Int) - (d.length : Int))] (W.drewN q) fun e' w' => e' = .returned (.int .u8 ((mb 1 (k - d.length)).toNat : Int)) ∧ W.drewN q = w' :=
          fun q => markB_any 1 (k - d.length) _ _ _ rfl (by omega) (by omega) (by omega)
        obtain ⟨x, hx2⟩ : ∃ x : Int, ((mb 1 (k - d.length)).toNat : Int) = x := ⟨_, rfl⟩
        simp only [B, hx2] at c1
        rw [hx2] at hm
        have HM := Lib.hid hm
        have hnk : d.length ≤ k := by omega
        clear hx hx2 hm
        go_wp2_with fail
        go_quiet ((go_at_call 36; with_reducible exact quiet_eq (HM.out _)))
        go_wp2_with fail
        go_roundw
        case rel => exact ⟨k + 1, n + nq, by omega, by go_num, by rw [← HW.out, World.drewN_drewN]⟩
        case measure => simp [intOf]; omega
    · obtain rfl : k = d.length + 12 := by omega
      have t0 : decide (((d.length + 12 : Nat) : Int) < (d.length : Int) + 12) = false := by simp
      go_wp2_with fail
      go_ret
      exact ⟨rfl, n, HW.out.symm⟩
end Go.Proofs.YtkdlimigepkepaaGreat
