/- The reference of layer 37: Valid, Form. No conditions beyond sizes. -/
import Derived.Test.YtkdlimigepkepaaGreatQ1
import Derived.Test.YtkdlimigepkepaaGreatJ10
namespace Go.Proofs.YtkdlimigepkepaaGreat
open Go.RowKit
set_option linter.unusedVariables false

set_option maxRecDepth 100000 in
theorem valid_ref (a : Option Addr) (n cap : Nat) (p : Int) (w : World) (hm : n ≤ maxLen) :
    Calls Tryz.prog 27 #[.agg #[.slice a n cap, .int .i64 p]] w fun e w' => e = .returned (.bool (validB n p)) ∧ Below w.heap.size w w' := by
  unfold maxLen at hm
  by_cases h1 : n ≤ 1048576
  · have t1 : decide ((n : Int) ≤ (1048576 : Int)) = true := by simp; omega
    have hr : Hid (validB n p = decide ((-1 : Int) ≤ p)) := by unfold Hid validB; simp [h1]
    clear h1 hm
    go_enter Tryz.func27, Tryz.ntmps27
    go_wp2_with fail
    go_ret
    exact ⟨by rw [hr.out]; rfl, (Below.refl _ w).alloc (Nat.le_refl _) _⟩
  · have t1 : decide ((n : Int) ≤ (1048576 : Int)) = false := by simp; omega
    have hr : Hid (validB n p = false) := by unfold Hid validB; simp [h1]
    clear h1 hm
    go_enter Tryz.func27, Tryz.ntmps27
    go_wp2_with fail
    go_ret
    exact ⟨by rw [hr.out]; rfl, (Below.refl _ w).alloc (Nat.le_refl _) _⟩

set_option maxRecDepth 100000 in
set_option maxHeartbeats 1000000 in
theorem form_ref (K : Nat) (v : Value) (p : List UInt8) (n : Nat) (n' : Int) (w : World) (hv : Byts K w v p) (hK : K ≤ w.heap.size) (hn' : n' = n) (h1 : 1 ≤ n) (h2 : n ≤ 65536) (h3 : p.length ≤ 4096) :
    Calls Tryz.prog 4 #[.int .i64 n', v] w fun e w' => ∃ v', e = .returned (.tuple #[v', .int .i64 0]) ∧ OwnB w.heap.size w' v' (formOf n p) ∧ Below w.heap.size w w' := by
  subst hn'
  obtain ⟨va, cap, rfl, hl1, hl2, _, _⟩ := id hv
  have hl2' : cap ≤ 2 ^ 63 - 1 := by unfold maxLen at hl2; omega
  have t1 : decide ((n : Int) < (1 : Int)) = false := by simp; omega
  have t2 : decide ((65536 : Int) < (n : Int)) = false := by simp; omega
  have t3 : decide ((4096 : Int) < (p.length : Int)) = false := by simp; omega
  have H2 := Lib.hid h2; have H3 := Lib.hid h3; have HV := Lib.hid hv
  clear h2 h3 hl2 hv h1
  go_enter Tryz.func4, Tryz.ntmps4
  go_wp2_with fail
  refine (spread_ref 4 n _ _ w rfl rfl (by omega) (by have := H2.out; omega)).mono ?_
  rintro e w1 ⟨v1, rfl, ho1, hb1⟩
  obtain ⟨ra, rn, rc, rfl⟩ := ownBlock_of_OwnB ho1
  go_wp2_with fail
  refine (spread_ref 2 p.length _ _ w1 rfl rfl (by omega) (by have := H3.out; omega)).mono ?_
  rintro e w2 ⟨v2, rfl, ho2, hb2⟩
  obtain ⟨sa, sn, sc, rfl⟩ := ownBlock_of_OwnB ho2
  have ho12 := ho1.below hb2 (Nat.le_refl _)
  have hq2 : Below w.heap.size w w2 := hb1.trans (hb2.mono hb1.size)
  have hsm : (le 4 n).length + (le 2 p.length).length ≤ 2 ^ 46 := by rw [le_length, le_length]; omega
  have hby2 := ho2.byts
  have hs2 := hq2.size
  have hsm2 : (le 4 n ++ le 2 p.length).length + p.length ≤ 2 ^ 46 := by rw [List.length_append, le_length, le_length]; have := H3.out; omega
  have hb12 : ∀ r, (Value.slice ra rn rc).ownBlock = some r → w.heap.size ≤ r := fun r hr => (ownsRow_cells ho12 hr).1
  go_wp2_with (first
    | (at_builtin; refine wpList_append_B rfl (.tmp 19) (.tmp 22) rfl rfl rfl ho12 hby2 hsm hs2 ?_; intro v3 w3 ho3 hg3 hat3; have hq3 : Below w.heap.size w w3 := hq2.trans (below_of_grown hg3 hb12 hs2); have hp3 := HV.out.below (hq3.mono hK) (Nat.le_refl _); have hs3 := hq3.size; have hb13 : ∀ r, v3.ownBlock = some r → w.heap.size ≤ r := fun r hr => (ownsRow_cells ho3 hr).1)
    | (at_builtin; refine wpList_append_B rfl (.tmp 23) (.tmp 24) rfl rfl rfl ho3 hp3 hsm2 hs3 ?_; intro v4 w4 ho4 hg4 hat4; have hq4 : Below w.heap.size w w4 := hq3.trans (below_of_grown hg4 hb13 hs3); obtain ⟨qa, qn, qc, rfl⟩ := ownBlock_of_OwnB ho4))
  have hhd : Hid (le 4 n ++ le 2 p.length ++ p = formHead n p) := rfl
  rw [hhd.out] at ho4
  have hlh : (formHead n p).length ≤ 2 ^ 21 := by unfold formHead; rw [List.length_append, List.length_append, le_length, le_length]; have := H3.out; omega
  have hs4 := hq4.size
  refine (check_ref w4.heap.size _ (formHead n p) w4 ho4.byts hlh).mono ?_
  rintro e w5 ⟨rfl, rfl⟩
  have hcm := chkM_bd (formHead n p)
  obtain ⟨C, hC⟩ : ∃ C : Nat, chkM (formHead n p) = C := ⟨(chkM (formHead n p)).toNat, by omega⟩
  have hC2 : Hid (C = chk (formHead n p) % 4294967296) := by unfold Hid chkM at *; omega
  have hC3 : C ≤ 2 ^ 32 - 1 := by omega
  rw [hC]
  clear hcm hC
  go_wp2_with fail
  refine (spread_ref 4 C _ _ w4 rfl rfl (by omega) hC3).mono ?_
  rintro e w6 ⟨v6, rfl, ho6, hb6⟩
  obtain ⟨xa, xn, xc, rfl⟩ := ownBlock_of_OwnB ho6
  have ho46 := ho4.below hb6 (Nat.le_refl _)
  have hq6 : Below w.heap.size w w6 := hq4.trans (hb6.mono hs4)
  have hs6 := hq6.size
  have hby6 := ho6.byts
  have hsm3 : (formHead n p).length + (le 4 C).length ≤ 2 ^ 46 := by rw [le_length]; omega
  have hb14 : ∀ r, (Value.slice qa qn qc).ownBlock = some r → w.heap.size ≤ r := fun r hr => (ownsRow_cells ho46 hr).1
  go_wp2_with (at_builtin; refine wpList_append_B rfl (.tmp 26) (.tmp 29) rfl rfl rfl ho46 hby6 hsm3 hs6 ?_; intro v7 w7 ho7 hg7 hat7; have hq7 : Below w.heap.size w w7 := hq6.trans (below_of_grown hg7 hb14 hs6); obtain ⟨ya, yn, yc, rfl⟩ := ownBlock_of_OwnB ho7)
  have hfo : formHead n p ++ le 4 C = formOf n p := by unfold formOf; rw [hC2.out]
  rw [hfo] at ho7
  go_ret2
  exact ⟨_, rfl, ho7, hq7⟩
end Go.Proofs.YtkdlimigepkepaaGreat
