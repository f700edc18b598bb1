/- GuardForce: the walk. No conditions beyond the readings of the arguments. Printed by tools/gen_glforce.py. -/
import Derived.Test.YthooiobhlbnaoaaGreatGlAwk
import Derived.Test.YthooiobhlbnaoaaGreatGaInF
namespace Go.Proofs.YthooiobhlbnaoaaGreat
open Go.RowKit
set_option linter.unusedVariables false

set_option maxRecDepth 100000 in
set_option maxHeartbeats 1000000 in
theorem glforce_any (K : Nat) (pn : ByteArray) (da ta : Option Addr) (dn dm tn tm : Nat) (vc : Value) (cs : List Gc) (nm : Str) (d kn : Int) (w : World) (h : Gls K w vc cs) (hnm : nm.length ≤ maxLen) (hK : K ≤ w.heap.size) :
    Calls Tryz.prog 8 #[.agg #[.string pn, .slice da dn dm, .slice ta tn tm, vc], S nm, .int .i64 d, .int .i64 kn] w fun e w' => e = .returned (.bool true) ∧ Below w.heap.size w w' := by
  obtain ⟨ca, cm, rfl, _, hcm⟩ := id h.form
  unfold maxLen at hcm
  have HH := Lib.hid h
  obtain ⟨n, hn⟩ : ∃ n, cs.length = n := ⟨_, rfl⟩
  have HN := Lib.hid hn
  rw [hn] at HH ⊢
  obtain ⟨W1, hW1⟩ : ∃ W1, w.alloc (.cells #[.string pn, .slice da dn dm, .slice ta tn tm, .slice ca n cm] 85) = W1 := ⟨_, rfl⟩
  have b1 : Below w.heap.size w W1 := by rw [← hW1]; exact (Below.refl _ _).alloc (Nat.le_refl _) _
  have q1 : Blk W1 w.heap.size #[.string pn, .slice da dn dm, .slice ta tn tm, .slice ca n cm] 85 := by rw [← hW1]; exact Blk.new w _ _
  have hs1 := b1.size
  obtain ⟨B, hB⟩ : ∃ B, w.heap.size = B := ⟨_, rfl⟩
  have HB := Lib.hid hB
  have HW := Lib.hid hW1
  rw [hB] at hK b1 q1 hs1 ⊢
  obtain ⟨c0, c1, c2, c3⟩ := q1.four
  have q1l := q1.lt
  clear h hn hB hW1
  by_cases h60 : 60 < n
  · have e60 : decide ((60 : Int) < (n : Int)) = true := by simp; omega
    have haw := glawake_any W1
    go_enter Tryz.func8, Tryz.ntmps8
    go_upto_region 1 with fail
    simp only [HB.out]
    rw [HW.out]
    go_wp2_with fail
    refine haw.mono ?_
    rintro e w2 ⟨rfl, hb2⟩
    go_wp2_with fail
    go_ret
    exact ⟨rfl, b1.trans (hb2.mono hs1)⟩
  · have e60 : decide ((60 : Int) < (n : Int)) = false := by simp; omega
    have hlen : cs.length ≤ 2 ^ 38 := by rw [HN.out]; omega
    have hin : ∀ W, Below W1.heap.size W1 W → Calls Tryz.prog 38 #[.agg #[.string pn, .slice da dn dm, .slice ta tn tm, .slice ca n cm], S nm, .int .i64 d, .int .i64 kn] W fun e w' => ∃ v, e = .returned v ∧ OwnN W.heap.size w' v (forceL cs nm d kn) ∧ Below W.heap.size W w' := fun W hb => inforce_any K pn _ _ _ cs nm d kn W ((HH.out.below b1 (by omega) (Nat.le_refl _)).below hb (by omega) (Nat.le_refl _)) rfl rfl (by have := hb.size; omega) hlen hnm
    have hrn : ∀ W, Below W1.heap.size W1 W → Calls Tryz.prog 39 #[.agg #[.string pn, .slice da dn dm, .slice ta tn tm, .slice ca n cm], S nm, .int .i64 d, .int .i64 kn] W fun e w' => ∃ v, e = .returned v ∧ OwnN W.heap.size w' v (forceL cs nm d kn) ∧ Below W.heap.size W w' := fun W hb => rinforce_any K pn _ _ _ cs nm d kn W ((HH.out.below b1 (by omega) (Nat.le_refl _)).below hb (by omega) (Nat.le_refl _)) rfl rfl (by have := hb.size; omega) hlen hnm
    have HIN := Lib.hid hin
    have HRN := Lib.hid hrn
    obtain ⟨L, hL⟩ : ∃ L, forceL cs nm d kn = L := ⟨_, rfl⟩
    rw [hL] at HIN HRN
    clear hin hrn hlen
    go_enter Tryz.func8, Tryz.ntmps8
    go_upto_region 1 with fail
    simp only [HB.out]
    rw [HW.out]
    go_upto_region 3 with fail
    refine region_plain (fun W' => Below W1.heap.size W1 W') [] (by kernel_rfl) ?_
    have qS : (fun W' => Below W1.heap.size W1 W') W1.drew := below_quiet (Below.refl _ _)
    refine wpAnyD_take (i := 0) (v := .agg #[.string pn, .slice da dn dm, .slice ta tn tm, .slice ca n cm]) rfl (by kernel_rfl) (by kernel_rfl) (by kernel_rfl) (by kernel_rfl) (by kernel_rfl) (fun _ _ _ h => h) (.inl ⟨by kernel_rfl, fun W' hS => by obtain ⟨c0, c1, c2, c3⟩ := (q1.below hS q1l).four; go_simp⟩) qS ?_
    refine wpAnyD_take (i := 1) (v := S nm) rfl (by kernel_rfl) (by kernel_rfl) (by kernel_rfl) (by kernel_rfl) (by kernel_rfl) (fun _ _ _ h => h) (.inl ⟨by kernel_rfl, fun W' hS => by go_simp⟩) qS ?_
    refine wpAnyD_take (i := 2) (v := .int .i64 d) rfl (by kernel_rfl) (by kernel_rfl) (by kernel_rfl) (by kernel_rfl) (by kernel_rfl) (fun _ _ _ h => h) (.inl ⟨by kernel_rfl, fun W' hS => by go_simp⟩) qS ?_
    refine wpAnyD_take (i := 3) (v := .int .i64 kn) rfl (by kernel_rfl) (by kernel_rfl) (by kernel_rfl) (by kernel_rfl) (by kernel_rfl) (fun _ _ _ h => h) (.inl ⟨by kernel_rfl, fun W' hS => by go_simp⟩) qS ?_
    refine wpAnyD_take (i := 5) (v := .agg #[.string pn, .slice da dn dm, .slice ta tn tm, .slice ca n cm]) rfl (by kernel_rfl) (by kernel_rfl) (by kernel_rfl) (by kernel_rfl) (by kernel_rfl) (fun _ _ _ h => h) (.inl ⟨by kernel_rfl, fun W' hS => by obtain ⟨c0, c1, c2, c3⟩ := (q1.below hS q1l).four; go_simp⟩) qS ?_
    refine wpAnyD_take (i := 6) (v := S nm) rfl (by kernel_rfl) (by kernel_rfl) (by kernel_rfl) (by kernel_rfl) (by kernel_rfl) (fun _ _ _ h => h) (.inl ⟨by kernel_rfl, fun W' hS => by go_simp⟩) qS ?_
    refine wpAnyD_take (i := 7) (v := .int .i64 d) rfl (by kernel_rfl) (by kernel_rfl) (by kernel_rfl) (by kernel_rfl) (by kernel_rfl) (fun _ _ _ h => h) (.inl ⟨by kernel_rfl, fun W' hS => by go_simp⟩) qS ?_
    refine wpAnyD_take (i := 8) (v := .int .i64 kn) rfl (by kernel_rfl) (by kernel_rfl) (by kernel_rfl) (by kernel_rfl) (by kernel_rfl) (fun _ _ _ h => h) (.inl ⟨by kernel_rfl, fun W' hS => by go_simp⟩) qS ?_
    refine wpAnyD_one (i := 4) (by kernel_rfl) rfl (by kernel_rfl) ?_
    go_simp
    refine (HIN.out _ qS).mono ?_
    rintro e w3 ⟨v3, rfl, ho3, hb3⟩
    have qS3 : Below W1.heap.size W1 w3 := qS.trans (hb3.mono qS.size)
    obtain ⟨a3, c3', rfl, _⟩ := ho3.nats.form
    have hn3 := ho3.nats
    clear ho3
    refine ⟨qS3, ?_⟩
    refine wpAnyD_one (i := 9) (by kernel_rfl) rfl (by kernel_rfl) ?_
    go_simp
    refine (HRN.out _ qS3).mono ?_
    rintro e w4 ⟨v4, rfl, ho4, hb4⟩
    have qS4 : Below W1.heap.size W1 w4 := qS3.trans (hb4.mono qS3.size)
    obtain ⟨a4, c4, rfl, _⟩ := ho4.nats.form
    have hn4 := ho4.nats
    have hn34 := hn3.below hb4 (Nat.le_refl _) hb4.size
    clear ho4 hn3
    refine ⟨qS4, ?_⟩
    refine wpAnyD_one (i := 10) (by kernel_rfl) rfl (by kernel_rfl) ?_
    go_simp
    refine (gints_any w4.heap.size _ _ L L w4 hn34 hn4).mono ?_
    rintro e w5 ⟨rfl, k5, rfl⟩
    have qS5 : Below W1.heap.size W1 (w4.drewN k5) := below_drewN2 qS4 _
    have hLL : (L == L) = true := by simp
    rw [hLL]
    obtain ⟨w5, hw5⟩ : ∃ W, w4.drewN k5 = W := ⟨_, rfl⟩
    rw [hw5] at qS5 ⊢
    clear hw5 hLL hn34 hn4
    refine ⟨qS5, ?_⟩
    refine wpAnyD_take (i := 11) (v := .bool true) rfl (by kernel_rfl) (by kernel_rfl) (by kernel_rfl) (by kernel_rfl) (by kernel_rfl) (fun _ _ _ h => h) (.inl ⟨by kernel_rfl, fun W' hS => by go_simp⟩) qS5 ?_
    refine wpAnyD_one (i := 12) (by kernel_rfl) rfl (by kernel_rfl) ?_
    go_simp
    refine (glawake_any w5).mono ?_
    rintro e w6 ⟨rfl, hb6⟩
    have qS6 : Below W1.heap.size W1 w6 := qS5.trans (hb6.mono qS5.size)
    refine ⟨qS6, ?_⟩
    refine wpAnyD_take (i := 13) (v := .bool true) rfl (by kernel_rfl) (by kernel_rfl) (by kernel_rfl) (by kernel_rfl) (by kernel_rfl) (fun _ _ _ h => h) (.inl ⟨by kernel_rfl, fun W' hS => by go_simp⟩) qS6 ?_
    refine wpAnyD_one (i := 14) (by kernel_rfl) rfl (by kernel_rfl) ?_
    go_simp
    refine wpAnyD_done (by kernel_rfl) ?_ _
    have b6 : Below B w w6 := b1.trans (qS6.mono hs1)
    clear c0 c1 c2 c3
    go_wp2_with fail
    go_ret
    exact ⟨rfl, b6⟩
end Go.Proofs.YthooiobhlbnaoaaGreat
