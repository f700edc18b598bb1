/- The statements' functions sameFile and sameAnswer of layer 36, at equal arguments. No conditions beyond the readings of the arguments. -/
import Derived.Test.YtaccaebdmndkiaaGreatDoorBOld2
namespace Go.Proofs.YtaccaebdmndkiaaGreatDoor
open Go.RowKit
set_option linter.unusedVariables false

set_option maxRecDepth 100000 in
set_option maxHeartbeats 1000000 in
theorem sameF_any (K : Nat) (n d : Int) (u v : Value) (l : List Od) (w : World) (hu : Ords K w u l) (hv : Ords K w v l) (hK : K ≤ w.heap.size) :
    Calls Tryz.prog 24 #[.agg #[.int .i64 n, .int .i64 d, u], .agg #[.int .i64 n, .int .i64 d, v]] w fun e w' => e = .returned (.bool true) ∧ Below w.heap.size w w' := by
  have hul : ∃ a cap, u = .slice a l.length cap := by obtain ⟨a, cap, rfl, _⟩ := hu; exact ⟨a, cap, rfl⟩
  obtain ⟨ua, ucap, rfl⟩ := hul
  have hvl : ∃ a cap, v = .slice a l.length cap := by obtain ⟨a, cap, rfl, _⟩ := hv; exact ⟨a, cap, rfl⟩
  obtain ⟨va, vcap, rfl⟩ := hvl
  have hb : Below w.heap.size w ((w.alloc (.cells #[.int .i64 n, .int .i64 d, .slice ua l.length ucap] 36)).alloc (.cells #[.int .i64 n, .int .i64 d, .slice va l.length vcap] 36)) := ((Below.refl _ w).alloc (Nat.le_refl _) _).alloc (by simp) _
  have h1 := sameO_any K _ _ l _ (Recs.below hu hb hK (Nat.le_refl _)) (Recs.below hv hb hK (Nat.le_refl _))
  clear hu hv
  go_enter Tryz.func24, Tryz.ntmps24
  go_wp2_with fail
  refine h1.mono ?_
  rintro e w' ⟨rfl, m, rfl⟩
  go_wp2_with fail
  go_ret
  exact ⟨rfl, hb.trans ⟨rfl, rfl, rfl, Nat.le_refl _, fun _ _ => rfl⟩⟩

set_option maxRecDepth 100000 in
set_option maxHeartbeats 1000000 in
theorem sameA_any (K : Nat) (n d : Int) (u v : Value) (l : List Rt) (w : World) (hu : Rets K w u l) (hv : Rets K w v l) (hK : K ≤ w.heap.size) :
    Calls Tryz.prog 25 #[.agg #[.int .i64 n, .int .i64 d, u], .agg #[.int .i64 n, .int .i64 d, v]] w fun e w' => e = .returned (.bool true) ∧ Below w.heap.size w w' := by
  have hul : ∃ a cap, u = .slice a l.length cap := by obtain ⟨a, cap, rfl, _⟩ := hu; exact ⟨a, cap, rfl⟩
  obtain ⟨ua, ucap, rfl⟩ := hul
  have hvl : ∃ a cap, v = .slice a l.length cap := by obtain ⟨a, cap, rfl, _⟩ := hv; exact ⟨a, cap, rfl⟩
  obtain ⟨va, vcap, rfl⟩ := hvl
  have hb : Below w.heap.size w ((w.alloc (.cells #[.int .i64 n, .int .i64 d, .slice ua l.length ucap] 41)).alloc (.cells #[.int .i64 n, .int .i64 d, .slice va l.length vcap] 41)) := ((Below.refl _ w).alloc (Nat.le_refl _) _).alloc (by simp) _
  have q1 := (Blk.new w #[.int .i64 n, .int .i64 d, .slice ua l.length ucap] 41).alloc (.cells #[.int .i64 n, .int .i64 d, .slice va l.length vcap] 41)
  have q2 := Blk.new (w.alloc (.cells #[.int .i64 n, .int .i64 d, .slice ua l.length ucap] 41)) #[.int .i64 n, .int .i64 d, .slice va l.length vcap] 41
  rw [World.size_alloc] at q2
  obtain ⟨a1, c1, he, hul1, hum, huz, huc⟩ : Rets K _ _ l := Recs.below hu hb hK (Nat.le_refl _)
  simp only [Value.slice.injEq, true_and] at he
  obtain ⟨rfl, rfl⟩ := he
  obtain ⟨a1, c1, he, hvl1, hvm, hvz, hvc⟩ : Rets K _ _ l := Recs.below hv hb hK (Nat.le_refl _)
  simp only [Value.slice.injEq, true_and] at he
  obtain ⟨rfl, rfl⟩ := he
  unfold maxLen at hum hvm
  obtain ⟨W1, hW1⟩ : ∃ W1, (w.alloc (.cells #[.int .i64 n, .int .i64 d, .slice ua l.length ucap] 41)).alloc (.cells #[.int .i64 n, .int .i64 d, .slice va l.length vcap] 41) = W1 := ⟨_, rfl⟩
  rw [hW1] at hb q1 q2 huc hvc
  have HW1 := Lib.hid hW1
  clear hW1 hu hv
  obtain ⟨d0, d1, d2⟩ := q1.three
  obtain ⟨e0, e1, e2⟩ := q2.three
  go_enter Tryz.func25, Tryz.ntmps25
  go_wp2_with fail
  rw [HW1.out]
  go_loopw [5] (fun i wr => ∃ k m : Nat, k ≤ l.length ∧ i = .int .i64 k ∧ wr = W1.drewN m) (fun i _ => l.length - (intOf i).toNat)
  case atStart => exact ⟨0, 0, Nat.zero_le _, rfl, rfl⟩
  case round =>
    obtain ⟨k, m, hk, rfl, rfl⟩ := hrel
    by_cases hlt : k < l.length
    · obtain ⟨b, o, rfl, hbb, hc⟩ := huc k hlt
      obtain ⟨b', o', rfl, hb', hc'⟩ := hvc k hlt
      obtain ⟨rt, hrt⟩ : ∃ od, l[k]?.getD Rt.z = od := ⟨_, rfl⟩
      rw [hrt] at hc hc'
      obtain ⟨ro, ry⟩ := rt
      have k0 := hc 0 (by omega)
      have k1 := hc 1 (by omega)
      have j0 := hc' 0 (by omega)
      have j1 := hc' 1 (by omega)
      simp only [Rt.fld, Nat.add_zero, ← Nat.add_assoc] at k0 k1 j0 j1
      clear hc hc' huc hvc hrt
      go_upto_region 6 with fail
      go_quiet (fail)
      go_wp2_with fail
      exact ⟨⟨k + 1, _, by omega, by go_num, rfl⟩, by simp [intOf]; omega⟩
    · obtain rfl : k = l.length := by omega
      go_wp2_with fail
      go_ret
      exact ⟨rfl, hb.trans ⟨rfl, rfl, rfl, Nat.le_refl _, fun _ _ => rfl⟩⟩
end Go.Proofs.YtaccaebdmndkiaaGreatDoor
