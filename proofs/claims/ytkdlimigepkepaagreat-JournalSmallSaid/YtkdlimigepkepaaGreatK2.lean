/- The laws' kit: no slices of a type share memory, where there are none. No conditions. -/
import Derived.Test.YtkdlimigepkepaaGreatTxt
import Derived.OwnWalk
namespace Go.Proofs.YtkdlimigepkepaaGreat
open Go.RowKit
set_option linter.unusedVariables false

theorem Tryz.infoLimbsR : (Tryz.prog.info? 137).map (fun i => (i.zero, i.size, i.bytes)) = some (some (.slice none 0 0), 1, 24) := by kernel_rfl
set_option maxRecDepth 100000 in
set_option maxHeartbeats 1000000 in
theorem flatLimbs_none (w : World) : Calls Tryz.prog 47 #[.slice none 0 0] w fun e w' => e = .returned (.bool true) ∧ Below w.heap.size w w' := by
  obtain ⟨i0, hi, hz0, hz1, hz2⟩ := info_parts Tryz.infoLimbsR
  obtain ⟨w1, hrun, ho1, hg1⟩ := run_make_full (P := Tryz.prog) w w.heap.size 82 137 i0 _ 1 Tryz.underlying82 hi hz0 hz1 .i64 .i64 0 (by omega) (by simp [maxLen]) (Nat.le_refl _)
  have hb1 : Below w.heap.size w w1 := below_of_grown hg1 (fun r hr => nomatch hr) (Nat.le_refl _)
  simp only [Int.natCast_zero] at hrun
  go_enter Tryz.func47, Tryz.ntmps47
  go_wp2
  go_rounds 1
  go_rounds 1
  go_rounds 1
  go_rounds 1
  go_rounds 1
  go_ret
  exact ⟨rfl, hb1⟩

theorem Tryz.infoIntsR : (Tryz.prog.info? 26).map (fun i => (i.zero, i.size, i.bytes)) = some (some (.slice none 0 0), 1, 24) := by kernel_rfl
set_option maxRecDepth 100000 in
set_option maxHeartbeats 1000000 in
theorem flatInts_none (w : World) : Calls Tryz.prog 48 #[.slice none 0 0] w fun e w' => e = .returned (.bool true) ∧ Below w.heap.size w w' := by
  obtain ⟨i0, hi, hz0, hz1, hz2⟩ := info_parts Tryz.infoIntsR
  obtain ⟨w1, hrun, ho1, hg1⟩ := run_make_full (P := Tryz.prog) w w.heap.size 83 26 i0 _ 1 Tryz.underlying83 hi hz0 hz1 .i64 .i64 0 (by omega) (by simp [maxLen]) (Nat.le_refl _)
  have hb1 : Below w.heap.size w w1 := below_of_grown hg1 (fun r hr => nomatch hr) (Nat.le_refl _)
  simp only [Int.natCast_zero] at hrun
  go_enter Tryz.func48, Tryz.ntmps48
  go_wp2
  go_rounds 1
  go_rounds 1
  go_rounds 1
  go_rounds 1
  go_rounds 1
  go_ret
  exact ⟨rfl, hb1⟩

theorem Tryz.infoTextsR : (Tryz.prog.info? 139).map (fun i => (i.zero, i.size, i.bytes)) = some (some (.slice none 0 0), 1, 24) := by kernel_rfl
set_option maxRecDepth 100000 in
set_option maxHeartbeats 1000000 in
theorem flatTexts_none (w : World) : Calls Tryz.prog 49 #[.slice none 0 0] w fun e w' => e = .returned (.bool true) ∧ Below w.heap.size w w' := by
  obtain ⟨i0, hi, hz0, hz1, hz2⟩ := info_parts Tryz.infoTextsR
  obtain ⟨w1, hrun, ho1, hg1⟩ := run_make_full (P := Tryz.prog) w w.heap.size 84 139 i0 _ 1 Tryz.underlying84 hi hz0 hz1 .i64 .i64 0 (by omega) (by simp [maxLen]) (Nat.le_refl _)
  have hb1 : Below w.heap.size w w1 := below_of_grown hg1 (fun r hr => nomatch hr) (Nat.le_refl _)
  simp only [Int.natCast_zero] at hrun
  go_enter Tryz.func49, Tryz.ntmps49
  go_wp2
  go_rounds 1
  go_rounds 1
  go_rounds 1
  go_rounds 1
  go_rounds 1
  go_ret
  exact ⟨rfl, hb1⟩

theorem Tryz.infoWholesR : (Tryz.prog.info? 141).map (fun i => (i.zero, i.size, i.bytes)) = some (some (.slice none 0 0), 1, 24) := by kernel_rfl
set_option maxRecDepth 100000 in
set_option maxHeartbeats 1000000 in
theorem flatWholes_none (w : World) : Calls Tryz.prog 51 #[.slice none 0 0] w fun e w' => e = .returned (.bool true) ∧ Below w.heap.size w w' := by
  obtain ⟨i0, hi, hz0, hz1, hz2⟩ := info_parts Tryz.infoWholesR
  obtain ⟨w1, hrun, ho1, hg1⟩ := run_make_full (P := Tryz.prog) w w.heap.size 85 141 i0 _ 1 Tryz.underlying85 hi hz0 hz1 .i64 .i64 0 (by omega) (by simp [maxLen]) (Nat.le_refl _)
  have hb1 : Below w.heap.size w w1 := below_of_grown hg1 (fun r hr => nomatch hr) (Nat.le_refl _)
  simp only [Int.natCast_zero] at hrun
  go_enter Tryz.func51, Tryz.ntmps51
  go_wp2
  go_rounds 1
  go_rounds 1
  go_rounds 1
  go_rounds 1
  go_rounds 1
  go_ret
  exact ⟨rfl, hb1⟩

theorem Tryz.infoFracsR : (Tryz.prog.info? 146).map (fun i => (i.zero, i.size, i.bytes)) = some (some (.slice none 0 0), 1, 24) := by kernel_rfl
set_option maxRecDepth 100000 in
set_option maxHeartbeats 1000000 in
theorem flatFracs_none (w : World) : Calls Tryz.prog 52 #[.slice none 0 0] w fun e w' => e = .returned (.bool true) ∧ Below w.heap.size w w' := by
  obtain ⟨i0, hi, hz0, hz1, hz2⟩ := info_parts Tryz.infoFracsR
  obtain ⟨w1, hrun, ho1, hg1⟩ := run_make_full (P := Tryz.prog) w w.heap.size 86 146 i0 _ 1 Tryz.underlying86 hi hz0 hz1 .i64 .i64 0 (by omega) (by simp [maxLen]) (Nat.le_refl _)
  have hb1 : Below w.heap.size w w1 := below_of_grown hg1 (fun r hr => nomatch hr) (Nat.le_refl _)
  simp only [Int.natCast_zero] at hrun
  go_enter Tryz.func52, Tryz.ntmps52
  go_wp2
  go_rounds 1
  go_rounds 1
  go_rounds 1
  go_rounds 1
  go_rounds 1
  go_ret
  exact ⟨rfl, hb1⟩

theorem Tryz.infoValuesR : (Tryz.prog.info? 151).map (fun i => (i.zero, i.size, i.bytes)) = some (some (.slice none 0 0), 1, 24) := by kernel_rfl
set_option maxRecDepth 100000 in
set_option maxHeartbeats 1000000 in
theorem flatValues_none (w : World) : Calls Tryz.prog 53 #[.slice none 0 0] w fun e w' => e = .returned (.bool true) ∧ Below w.heap.size w w' := by
  obtain ⟨i0, hi, hz0, hz1, hz2⟩ := info_parts Tryz.infoValuesR
  obtain ⟨w1, hrun, ho1, hg1⟩ := run_make_full (P := Tryz.prog) w w.heap.size 87 151 i0 _ 1 Tryz.underlying87 hi hz0 hz1 .i64 .i64 0 (by omega) (by simp [maxLen]) (Nat.le_refl _)
  have hb1 : Below w.heap.size w w1 := below_of_grown hg1 (fun r hr => nomatch hr) (Nat.le_refl _)
  simp only [Int.natCast_zero] at hrun
  go_enter Tryz.func53, Tryz.ntmps53
  go_wp2
  go_rounds 1
  go_rounds 1
  go_rounds 1
  go_rounds 1
  go_rounds 1
  go_ret
  exact ⟨rfl, hb1⟩

theorem Tryz.infoSpansR : (Tryz.prog.info? 156).map (fun i => (i.zero, i.size, i.bytes)) = some (some (.slice none 0 0), 1, 24) := by kernel_rfl
set_option maxRecDepth 100000 in
set_option maxHeartbeats 1000000 in
theorem flatSpans_none (w : World) : Calls Tryz.prog 54 #[.slice none 0 0] w fun e w' => e = .returned (.bool true) ∧ Below w.heap.size w w' := by
  obtain ⟨i0, hi, hz0, hz1, hz2⟩ := info_parts Tryz.infoSpansR
  obtain ⟨w1, hrun, ho1, hg1⟩ := run_make_full (P := Tryz.prog) w w.heap.size 88 156 i0 _ 1 Tryz.underlying88 hi hz0 hz1 .i64 .i64 0 (by omega) (by simp [maxLen]) (Nat.le_refl _)
  have hb1 : Below w.heap.size w w1 := below_of_grown hg1 (fun r hr => nomatch hr) (Nat.le_refl _)
  simp only [Int.natCast_zero] at hrun
  go_enter Tryz.func54, Tryz.ntmps54
  go_wp2
  go_rounds 1
  go_rounds 1
  go_rounds 1
  go_rounds 1
  go_rounds 1
  go_ret
  exact ⟨rfl, hb1⟩

theorem Tryz.infoStepsR : (Tryz.prog.info? 160).map (fun i => (i.zero, i.size, i.bytes)) = some (some (.slice none 0 0), 1, 24) := by kernel_rfl
set_option maxRecDepth 100000 in
set_option maxHeartbeats 1000000 in
theorem flatSteps_none (w : World) : Calls Tryz.prog 55 #[.slice none 0 0] w fun e w' => e = .returned (.bool true) ∧ Below w.heap.size w w' := by
  obtain ⟨i0, hi, hz0, hz1, hz2⟩ := info_parts Tryz.infoStepsR
  obtain ⟨w1, hrun, ho1, hg1⟩ := run_make_full (P := Tryz.prog) w w.heap.size 89 160 i0 _ 1 Tryz.underlying89 hi hz0 hz1 .i64 .i64 0 (by omega) (by simp [maxLen]) (Nat.le_refl _)
  have hb1 : Below w.heap.size w w1 := below_of_grown hg1 (fun r hr => nomatch hr) (Nat.le_refl _)
  simp only [Int.natCast_zero] at hrun
  go_enter Tryz.func55, Tryz.ntmps55
  go_wp2
  go_rounds 1
  go_rounds 1
  go_rounds 1
  go_rounds 1
  go_rounds 1
  go_ret
  exact ⟨rfl, hb1⟩

theorem Tryz.infoFactsR : (Tryz.prog.info? 165).map (fun i => (i.zero, i.size, i.bytes)) = some (some (.slice none 0 0), 1, 24) := by kernel_rfl
set_option maxRecDepth 100000 in
set_option maxHeartbeats 1000000 in
theorem flatFacts_none (w : World) : Calls Tryz.prog 56 #[.slice none 0 0] w fun e w' => e = .returned (.bool true) ∧ Below w.heap.size w w' := by
  obtain ⟨i0, hi, hz0, hz1, hz2⟩ := info_parts Tryz.infoFactsR
  obtain ⟨w1, hrun, ho1, hg1⟩ := run_make_full (P := Tryz.prog) w w.heap.size 90 165 i0 _ 1 Tryz.underlying90 hi hz0 hz1 .i64 .i64 0 (by omega) (by simp [maxLen]) (Nat.le_refl _)
  have hb1 : Below w.heap.size w w1 := below_of_grown hg1 (fun r hr => nomatch hr) (Nat.le_refl _)
  simp only [Int.natCast_zero] at hrun
  go_enter Tryz.func56, Tryz.ntmps56
  go_wp2
  go_rounds 1
  go_rounds 1
  go_rounds 1
  go_rounds 1
  go_rounds 1
  go_ret
  exact ⟨rfl, hb1⟩

theorem Tryz.infoRowsR : (Tryz.prog.info? 170).map (fun i => (i.zero, i.size, i.bytes)) = some (some (.slice none 0 0), 1, 24) := by kernel_rfl
set_option maxRecDepth 100000 in
set_option maxHeartbeats 1000000 in
theorem flatRows_none (w : World) : Calls Tryz.prog 57 #[.slice none 0 0] w fun e w' => e = .returned (.bool true) ∧ Below w.heap.size w w' := by
  obtain ⟨i0, hi, hz0, hz1, hz2⟩ := info_parts Tryz.infoRowsR
  obtain ⟨w1, hrun, ho1, hg1⟩ := run_make_full (P := Tryz.prog) w w.heap.size 91 170 i0 _ 1 Tryz.underlying91 hi hz0 hz1 .i64 .i64 0 (by omega) (by simp [maxLen]) (Nat.le_refl _)
  have hb1 : Below w.heap.size w w1 := below_of_grown hg1 (fun r hr => nomatch hr) (Nat.le_refl _)
  simp only [Int.natCast_zero] at hrun
  go_enter Tryz.func57, Tryz.ntmps57
  go_wp2
  go_rounds 1
  go_rounds 1
  go_rounds 1
  go_rounds 1
  go_rounds 1
  go_ret
  exact ⟨rfl, hb1⟩

theorem Tryz.infoTablesR : (Tryz.prog.info? 175).map (fun i => (i.zero, i.size, i.bytes)) = some (some (.slice none 0 0), 1, 24) := by kernel_rfl
set_option maxRecDepth 100000 in
set_option maxHeartbeats 1000000 in
theorem flatTables_none (w : World) : Calls Tryz.prog 58 #[.slice none 0 0] w fun e w' => e = .returned (.bool true) ∧ Below w.heap.size w w' := by
  obtain ⟨i0, hi, hz0, hz1, hz2⟩ := info_parts Tryz.infoTablesR
  obtain ⟨w1, hrun, ho1, hg1⟩ := run_make_full (P := Tryz.prog) w w.heap.size 92 175 i0 _ 1 Tryz.underlying92 hi hz0 hz1 .i64 .i64 0 (by omega) (by simp [maxLen]) (Nat.le_refl _)
  have hb1 : Below w.heap.size w w1 := below_of_grown hg1 (fun r hr => nomatch hr) (Nat.le_refl _)
  simp only [Int.natCast_zero] at hrun
  go_enter Tryz.func58, Tryz.ntmps58
  go_wp2
  go_rounds 1
  go_rounds 1
  go_rounds 1
  go_rounds 1
  go_rounds 1
  go_ret
  exact ⟨rfl, hb1⟩

theorem Tryz.infoExprsR : (Tryz.prog.info? 180).map (fun i => (i.zero, i.size, i.bytes)) = some (some (.slice none 0 0), 1, 24) := by kernel_rfl
set_option maxRecDepth 100000 in
set_option maxHeartbeats 1000000 in
theorem flatExprs_none (w : World) : Calls Tryz.prog 59 #[.slice none 0 0] w fun e w' => e = .returned (.bool true) ∧ Below w.heap.size w w' := by
  obtain ⟨i0, hi, hz0, hz1, hz2⟩ := info_parts Tryz.infoExprsR
  obtain ⟨w1, hrun, ho1, hg1⟩ := run_make_full (P := Tryz.prog) w w.heap.size 93 180 i0 _ 1 Tryz.underlying93 hi hz0 hz1 .i64 .i64 0 (by omega) (by simp [maxLen]) (Nat.le_refl _)
  have hb1 : Below w.heap.size w w1 := below_of_grown hg1 (fun r hr => nomatch hr) (Nat.le_refl _)
  simp only [Int.natCast_zero] at hrun
  go_enter Tryz.func59, Tryz.ntmps59
  go_wp2
  go_rounds 1
  go_rounds 1
  go_rounds 1
  go_rounds 1
  go_rounds 1
  go_ret
  exact ⟨rfl, hb1⟩

theorem Tryz.infoClausesR : (Tryz.prog.info? 185).map (fun i => (i.zero, i.size, i.bytes)) = some (some (.slice none 0 0), 1, 24) := by kernel_rfl
set_option maxRecDepth 100000 in
set_option maxHeartbeats 1000000 in
theorem flatClauses_none (w : World) : Calls Tryz.prog 60 #[.slice none 0 0] w fun e w' => e = .returned (.bool true) ∧ Below w.heap.size w w' := by
  obtain ⟨i0, hi, hz0, hz1, hz2⟩ := info_parts Tryz.infoClausesR
  obtain ⟨w1, hrun, ho1, hg1⟩ := run_make_full (P := Tryz.prog) w w.heap.size 94 185 i0 _ 1 Tryz.underlying94 hi hz0 hz1 .i64 .i64 0 (by omega) (by simp [maxLen]) (Nat.le_refl _)
  have hb1 : Below w.heap.size w w1 := below_of_grown hg1 (fun r hr => nomatch hr) (Nat.le_refl _)
  simp only [Int.natCast_zero] at hrun
  go_enter Tryz.func60, Tryz.ntmps60
  go_wp2
  go_rounds 1
  go_rounds 1
  go_rounds 1
  go_rounds 1
  go_rounds 1
  go_ret
  exact ⟨rfl, hb1⟩

theorem Tryz.infoDefsR : (Tryz.prog.info? 190).map (fun i => (i.zero, i.size, i.bytes)) = some (some (.slice none 0 0), 1, 24) := by kernel_rfl
set_option maxRecDepth 100000 in
set_option maxHeartbeats 1000000 in
theorem flatDefs_none (w : World) : Calls Tryz.prog 61 #[.slice none 0 0] w fun e w' => e = .returned (.bool true) ∧ Below w.heap.size w w' := by
  obtain ⟨i0, hi, hz0, hz1, hz2⟩ := info_parts Tryz.infoDefsR
  obtain ⟨w1, hrun, ho1, hg1⟩ := run_make_full (P := Tryz.prog) w w.heap.size 95 190 i0 _ 1 Tryz.underlying95 hi hz0 hz1 .i64 .i64 0 (by omega) (by simp [maxLen]) (Nat.le_refl _)
  have hb1 : Below w.heap.size w w1 := below_of_grown hg1 (fun r hr => nomatch hr) (Nat.le_refl _)
  simp only [Int.natCast_zero] at hrun
  go_enter Tryz.func61, Tryz.ntmps61
  go_wp2
  go_rounds 1
  go_rounds 1
  go_rounds 1
  go_rounds 1
  go_rounds 1
  go_ret
  exact ⟨rfl, hb1⟩

theorem Tryz.infoPlansR : (Tryz.prog.info? 194).map (fun i => (i.zero, i.size, i.bytes)) = some (some (.slice none 0 0), 1, 24) := by kernel_rfl
set_option maxRecDepth 100000 in
set_option maxHeartbeats 1000000 in
theorem flatPlans_none (w : World) : Calls Tryz.prog 62 #[.slice none 0 0] w fun e w' => e = .returned (.bool true) ∧ Below w.heap.size w w' := by
  obtain ⟨i0, hi, hz0, hz1, hz2⟩ := info_parts Tryz.infoPlansR
  obtain ⟨w1, hrun, ho1, hg1⟩ := run_make_full (P := Tryz.prog) w w.heap.size 96 194 i0 _ 1 Tryz.underlying96 hi hz0 hz1 .i64 .i64 0 (by omega) (by simp [maxLen]) (Nat.le_refl _)
  have hb1 : Below w.heap.size w w1 := below_of_grown hg1 (fun r hr => nomatch hr) (Nat.le_refl _)
  simp only [Int.natCast_zero] at hrun
  go_enter Tryz.func62, Tryz.ntmps62
  go_wp2
  go_rounds 1
  go_rounds 1
  go_rounds 1
  go_rounds 1
  go_rounds 1
  go_ret
  exact ⟨rfl, hb1⟩

theorem Tryz.infoPostingsR : (Tryz.prog.info? 199).map (fun i => (i.zero, i.size, i.bytes)) = some (some (.slice none 0 0), 1, 24) := by kernel_rfl
set_option maxRecDepth 100000 in
set_option maxHeartbeats 1000000 in
theorem flatPostings_none (w : World) : Calls Tryz.prog 63 #[.slice none 0 0] w fun e w' => e = .returned (.bool true) ∧ Below w.heap.size w w' := by
  obtain ⟨i0, hi, hz0, hz1, hz2⟩ := info_parts Tryz.infoPostingsR
  obtain ⟨w1, hrun, ho1, hg1⟩ := run_make_full (P := Tryz.prog) w w.heap.size 97 199 i0 _ 1 Tryz.underlying97 hi hz0 hz1 .i64 .i64 0 (by omega) (by simp [maxLen]) (Nat.le_refl _)
  have hb1 : Below w.heap.size w w1 := below_of_grown hg1 (fun r hr => nomatch hr) (Nat.le_refl _)
  simp only [Int.natCast_zero] at hrun
  go_enter Tryz.func63, Tryz.ntmps63
  go_wp2
  go_rounds 1
  go_rounds 1
  go_rounds 1
  go_rounds 1
  go_rounds 1
  go_ret
  exact ⟨rfl, hb1⟩

theorem Tryz.infoOrdersR : (Tryz.prog.info? 203).map (fun i => (i.zero, i.size, i.bytes)) = some (some (.slice none 0 0), 1, 24) := by kernel_rfl
set_option maxRecDepth 100000 in
set_option maxHeartbeats 1000000 in
theorem flatOrders_none (w : World) : Calls Tryz.prog 64 #[.slice none 0 0] w fun e w' => e = .returned (.bool true) ∧ Below w.heap.size w w' := by
  obtain ⟨i0, hi, hz0, hz1, hz2⟩ := info_parts Tryz.infoOrdersR
  obtain ⟨w1, hrun, ho1, hg1⟩ := run_make_full (P := Tryz.prog) w w.heap.size 98 203 i0 _ 1 Tryz.underlying98 hi hz0 hz1 .i64 .i64 0 (by omega) (by simp [maxLen]) (Nat.le_refl _)
  have hb1 : Below w.heap.size w w1 := below_of_grown hg1 (fun r hr => nomatch hr) (Nat.le_refl _)
  simp only [Int.natCast_zero] at hrun
  go_enter Tryz.func64, Tryz.ntmps64
  go_wp2
  go_rounds 1
  go_rounds 1
  go_rounds 1
  go_rounds 1
  go_rounds 1
  go_ret
  exact ⟨rfl, hb1⟩

theorem Tryz.infoEventsR : (Tryz.prog.info? 207).map (fun i => (i.zero, i.size, i.bytes)) = some (some (.slice none 0 0), 1, 24) := by kernel_rfl
set_option maxRecDepth 100000 in
set_option maxHeartbeats 1000000 in
theorem flatEvents_none (w : World) : Calls Tryz.prog 65 #[.slice none 0 0] w fun e w' => e = .returned (.bool true) ∧ Below w.heap.size w w' := by
  obtain ⟨i0, hi, hz0, hz1, hz2⟩ := info_parts Tryz.infoEventsR
  obtain ⟨w1, hrun, ho1, hg1⟩ := run_make_full (P := Tryz.prog) w w.heap.size 99 207 i0 _ 1 Tryz.underlying99 hi hz0 hz1 .i64 .i64 0 (by omega) (by simp [maxLen]) (Nat.le_refl _)
  have hb1 : Below w.heap.size w w1 := below_of_grown hg1 (fun r hr => nomatch hr) (Nat.le_refl _)
  simp only [Int.natCast_zero] at hrun
  go_enter Tryz.func65, Tryz.ntmps65
  go_wp2
  go_rounds 1
  go_rounds 1
  go_rounds 1
  go_rounds 1
  go_rounds 1
  go_ret
  exact ⟨rfl, hb1⟩

theorem Tryz.infoFilingsR : (Tryz.prog.info? 212).map (fun i => (i.zero, i.size, i.bytes)) = some (some (.slice none 0 0), 1, 24) := by kernel_rfl
set_option maxRecDepth 100000 in
set_option maxHeartbeats 1000000 in
theorem flatFilings_none (w : World) : Calls Tryz.prog 66 #[.slice none 0 0] w fun e w' => e = .returned (.bool true) ∧ Below w.heap.size w w' := by
  obtain ⟨i0, hi, hz0, hz1, hz2⟩ := info_parts Tryz.infoFilingsR
  obtain ⟨w1, hrun, ho1, hg1⟩ := run_make_full (P := Tryz.prog) w w.heap.size 100 212 i0 _ 1 Tryz.underlying100 hi hz0 hz1 .i64 .i64 0 (by omega) (by simp [maxLen]) (Nat.le_refl _)
  have hb1 : Below w.heap.size w w1 := below_of_grown hg1 (fun r hr => nomatch hr) (Nat.le_refl _)
  simp only [Int.natCast_zero] at hrun
  go_enter Tryz.func66, Tryz.ntmps66
  go_wp2
  go_rounds 1
  go_rounds 1
  go_rounds 1
  go_rounds 1
  go_rounds 1
  go_ret
  exact ⟨rfl, hb1⟩

theorem Tryz.infoCasesR : (Tryz.prog.info? 216).map (fun i => (i.zero, i.size, i.bytes)) = some (some (.slice none 0 0), 1, 24) := by kernel_rfl
set_option maxRecDepth 100000 in
set_option maxHeartbeats 1000000 in
theorem flatCases_none (w : World) : Calls Tryz.prog 67 #[.slice none 0 0] w fun e w' => e = .returned (.bool true) ∧ Below w.heap.size w w' := by
  obtain ⟨i0, hi, hz0, hz1, hz2⟩ := info_parts Tryz.infoCasesR
  obtain ⟨w1, hrun, ho1, hg1⟩ := run_make_full (P := Tryz.prog) w w.heap.size 101 216 i0 _ 1 Tryz.underlying101 hi hz0 hz1 .i64 .i64 0 (by omega) (by simp [maxLen]) (Nat.le_refl _)
  have hb1 : Below w.heap.size w w1 := below_of_grown hg1 (fun r hr => nomatch hr) (Nat.le_refl _)
  simp only [Int.natCast_zero] at hrun
  go_enter Tryz.func67, Tryz.ntmps67
  go_wp2
  go_rounds 1
  go_rounds 1
  go_rounds 1
  go_rounds 1
  go_rounds 1
  go_ret
  exact ⟨rfl, hb1⟩

theorem Tryz.infoChangesR : (Tryz.prog.info? 221).map (fun i => (i.zero, i.size, i.bytes)) = some (some (.slice none 0 0), 1, 24) := by kernel_rfl
set_option maxRecDepth 100000 in
set_option maxHeartbeats 1000000 in
theorem flatChanges_none (w : World) : Calls Tryz.prog 68 #[.slice none 0 0] w fun e w' => e = .returned (.bool true) ∧ Below w.heap.size w w' := by
  obtain ⟨i0, hi, hz0, hz1, hz2⟩ := info_parts Tryz.infoChangesR
  obtain ⟨w1, hrun, ho1, hg1⟩ := run_make_full (P := Tryz.prog) w w.heap.size 102 221 i0 _ 1 Tryz.underlying102 hi hz0 hz1 .i64 .i64 0 (by omega) (by simp [maxLen]) (Nat.le_refl _)
  have hb1 : Below w.heap.size w w1 := below_of_grown hg1 (fun r hr => nomatch hr) (Nat.le_refl _)
  simp only [Int.natCast_zero] at hrun
  go_enter Tryz.func68, Tryz.ntmps68
  go_wp2
  go_rounds 1
  go_rounds 1
  go_rounds 1
  go_rounds 1
  go_rounds 1
  go_ret
  exact ⟨rfl, hb1⟩

theorem Tryz.infoDeltasR : (Tryz.prog.info? 226).map (fun i => (i.zero, i.size, i.bytes)) = some (some (.slice none 0 0), 1, 24) := by kernel_rfl
set_option maxRecDepth 100000 in
set_option maxHeartbeats 1000000 in
theorem flatDeltas_none (w : World) : Calls Tryz.prog 69 #[.slice none 0 0] w fun e w' => e = .returned (.bool true) ∧ Below w.heap.size w w' := by
  obtain ⟨i0, hi, hz0, hz1, hz2⟩ := info_parts Tryz.infoDeltasR
  obtain ⟨w1, hrun, ho1, hg1⟩ := run_make_full (P := Tryz.prog) w w.heap.size 103 226 i0 _ 1 Tryz.underlying103 hi hz0 hz1 .i64 .i64 0 (by omega) (by simp [maxLen]) (Nat.le_refl _)
  have hb1 : Below w.heap.size w w1 := below_of_grown hg1 (fun r hr => nomatch hr) (Nat.le_refl _)
  simp only [Int.natCast_zero] at hrun
  go_enter Tryz.func69, Tryz.ntmps69
  go_wp2
  go_rounds 1
  go_rounds 1
  go_rounds 1
  go_rounds 1
  go_rounds 1
  go_ret
  exact ⟨rfl, hb1⟩
end Go.Proofs.YtkdlimigepkepaaGreat
