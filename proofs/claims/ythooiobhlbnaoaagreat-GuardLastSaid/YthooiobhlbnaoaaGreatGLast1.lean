/- GuardLast: the closure covers. No conditions beyond the readings of the arguments. -/
import Derived.Test.YthooiobhlbnaoaaGreatGaInF
import Derived.Deep.Cut
namespace Go.Proofs.YthooiobhlbnaoaaGreat
open Go.RowKit
set_option linter.unusedVariables false

theorem lastF_any (K : Nat) (c : Cv) (nm : Str) (d kn : Int) (bn bd bk : Nat) (w : World) (hc : c.nm.length ≤ maxLen) (hnm : nm.length ≤ maxLen) (h1 : w.cell? ⟨bn, 0, none⟩ = some (S nm)) (h2 : w.cell? ⟨bd, 0, none⟩ = some (.int .i64 d)) (h3 : w.cell? ⟨bk, 0, none⟩ = some (.int .i64 kn)) :
    Calls Tryz.prog 40 #[.agg c.cl.toArray, .pointer (some ⟨bn, 0, none⟩), .pointer (some ⟨bd, 0, none⟩), .pointer (some ⟨bk, 0, none⟩)] w fun e w' => e = .returned (.bool (cov (gcOf c) nm d kn)) ∧ Below w.heap.size w w' := by
  obtain ⟨B0, hB0⟩ : ∃ B0, w.heap.size = B0 := ⟨_, rfl⟩
  rw [hB0]
  obtain ⟨W1, hW1⟩ : ∃ W1, w.alloc (.cells c.cl.toArray 89) = W1 := ⟨_, rfl⟩
  have hb1 : Below B0 w W1 := hW1 ▸ (Below.refl B0 w).alloc (by omega) _
  have q1 : Blk W1 B0 c.cl.toArray 89 := by rw [← hW1, ← hB0]; exact Blk.new w _ _
  have n0 : W1.cell? ⟨B0, 0, none⟩ = some (S c.nm) := q1.at (by rw [List.getElem?_toArray]; exact c.cl_at (by omega))
  have n2 : W1.cell? ⟨B0, 2, none⟩ = some (.int .i64 c.fr) := q1.at (by rw [List.getElem?_toArray]; exact c.cl_at (by omega))
  have n3 : W1.cell? ⟨B0, 3, none⟩ = some (.int .i64 c.to) := q1.at (by rw [List.getElem?_toArray]; exact c.cl_at (by omega))
  have n4 : W1.cell? ⟨B0, 4, none⟩ = some (.int .i64 c.kn) := q1.at (by rw [List.getElem?_toArray]; exact c.cl_at (by omega))
  have g1 : W1.cell? ⟨bn, 0, none⟩ = some (S nm) := (hb1.cell (by rw [← hB0]; exact World.block_lt_of_cell? _ _ h1)).trans h1
  have g2 : W1.cell? ⟨bd, 0, none⟩ = some (.int .i64 d) := (hb1.cell (by rw [← hB0]; exact World.block_lt_of_cell? _ _ h2)).trans h2
  have g3 : W1.cell? ⟨bk, 0, none⟩ = some (.int .i64 kn) := (hb1.cell (by rw [← hB0]; exact World.block_lt_of_cell? _ _ h3)).trans h3
  have HB := Lib.hid hB0
  have HW := Lib.hid hW1
  clear hB0 hW1 q1 h1 h2 h3
  obtain ⟨r, hr⟩ : ∃ r, cov (gcOf c) nm d kn = r := ⟨_, rfl⟩
  have HR := Lib.hid hr
  rw [hr]
  clear hr
  have HF : Hid (¬ ((c.nm == nm) = true ∧ (c.fr ≤ d ∧ d < c.to) ∧ c.kn ≤ kn) → r = false) := Lib.hid fun hn => by
    rw [← HR.out]
    unfold cov gcOf
    simp only [Bool.and_eq_false_iff, decide_eq_false_iff_not]
    by_cases h1 : (c.nm == nm) = true
    · simp only [h1, true_and] at hn
      omega
    · exact .inl (.inl (.inl (by simpa using h1)))
  have HT : Hid ((c.nm == nm) = true → c.fr ≤ d → d < c.to → r = decide (c.kn ≤ kn)) := Lib.hid fun h1 h2 h3 => by
    rw [← HR.out]
    unfold cov gcOf
    simp only [h1, h2, h3, decide_true, Bool.true_and]
  obtain ⟨ct, hct⟩ : ∃ ct, (c.nm == nm) = ct := ⟨_, rfl⟩
  have HCT := Lib.hid hct
  cases ct with
  | false =>
    have HE := Lib.hid (HF.out fun hh => by have := hh.1; rw [HCT.out] at this; cases this)
    go_enter Tryz.func40, Tryz.ntmps40
    go_upto_region 1 with fail
    simp only [HB.out]
    rw [HW.out]
    go_wp2_with fail
    go_ret
    exact ⟨by rw [HE.out]; rfl, hb1⟩
  | true =>
    go_enter Tryz.func40, Tryz.ntmps40
    go_upto_region 1 with fail
    simp only [HB.out]
    rw [HW.out]
    go_wp2_with fail
    all_goals go_ret
    all_goals
      refine ⟨?_, hb1⟩
      first
        | (rw [HF.out fun hh => by have := hh.2; omega]; rfl)
        | (rw [HT.out HCT.out (by omega) (by omega)]; rfl)
end Go.Proofs.YthooiobhlbnaoaaGreat
