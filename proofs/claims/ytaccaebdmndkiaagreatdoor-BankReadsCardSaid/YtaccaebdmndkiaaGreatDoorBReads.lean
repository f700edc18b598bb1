/- The statements' function reads of layer 36: any text is read by the program as by the reference. No conditions beyond those stated. -/
import Derived.Test.YtaccaebdmndkiaaGreatDoorBRReadA
import Derived.Test.YtaccaebdmndkiaaGreatDoorBSame
import Derived.Test.YtaccaebdmndkiaaGreatDoorBAwake
namespace Go.Proofs.YtaccaebdmndkiaaGreatDoor
open Go.RowKit
set_option linter.unusedVariables false

set_option maxRecDepth 100000 in
set_option maxHeartbeats 4000000 in
theorem reads_any (s : ByteArray) (w : World) (hs : s.size ≤ 2 ^ 40) (hT : Tabs w.heap.size w) (hM : MaxI w.heap.size w) :
    Calls Tryz.prog 6 #[.string s] w fun e w' => e = .returned (.bool true) ∧ Below w.heap.size w w' := by
  obtain ⟨l, hl⟩ : ∃ l, s.data.toList = l := ⟨_, rfl⟩
  have hrl : (readA l).1.rts.length ≤ 8796093021952 := by
    by_cases h : (readA l).2 = 0
    · obtain ⟨h1, h2⟩ := readA_ok h
      have := okA_parts h1
      omega
    · rw [readA_err h]; simp [An.z]
  have h1 := readF_any s w hs hT hM
  have h2 := fun W => rreadF_any s W
  have h3 := fun W hT hM => readA_any s W hs hT hM
  have h4 := fun W => rreadA_any s W
  rw [hl] at h1
  simp only [hl] at h2 h3 h4
  obtain ⟨⟨fn, fd, fo⟩, e1, hf⟩ : ∃ f e1, readF l = (f, e1) := ⟨_, _, rfl⟩
  obtain ⟨⟨an, ad, rs⟩, e2, hfa⟩ : ∃ f e1, readA l = (f, e1) := ⟨_, _, rfl⟩
  rw [hf] at h1
  rw [hfa] at hrl
  simp only [hf] at h2
  simp only [hfa] at h3 h4
  dsimp only at h1 hrl
  have HRL := Lib.hid hrl
  have H2 := Lib.hid h2
  have H3 := Lib.hid h3
  have H4 := Lib.hid h4
  clear hl hf hfa hrl h2 h3 h4
  go_enter Tryz.func6, Tryz.ntmps6
  go_wp2_with fail
  refine h1.mono ?_
  rintro e w1 ⟨x1, rfl, hx1, hb1⟩
  have hl1 : ∃ p c, x1 = .slice p fo.length c := by obtain ⟨p, c, h, _⟩ := hx1; exact ⟨p, c, h⟩
  obtain ⟨p1, c1, rfl⟩ := hl1
  clear h1
  have hbx1 : Below w1.heap.size w1 (w1.alloc (.cells #[.int .i64 fn, .int .i64 fd, .slice p1 fo.length c1] 27)) := (Below.refl _ _).alloc (Nat.le_refl _) _
  have q1 := Blk.new w1 #[.int .i64 fn, .int .i64 fd, .slice p1 fo.length c1] 27
  obtain ⟨W1, hW1⟩ : ∃ W1, w1.alloc (.cells #[.int .i64 fn, .int .i64 fd, .slice p1 fo.length c1] 27) = W1 := ⟨_, rfl⟩
  rw [hW1] at hbx1 q1
  have HW1 := Lib.hid hW1
  clear hW1
  have g1 : Below w.heap.size w W1 := hb1.trans (hbx1.mono hb1.size)
  have hx1 : Ords W1.heap.size W1 (.slice p1 fo.length c1) fo := Recs.below hx1 hbx1 (Nat.le_refl _) hbx1.size
  have B1 := g1
  clear hbx1
  have h2 := H2.out W1
  go_wp2_with fail
  rw [HW1.out]
  refine h2.mono ?_
  rintro e w2 ⟨x2, rfl, hx2, hb2⟩
  have hl2 : ∃ p c, x2 = .slice p fo.length c := by obtain ⟨p, c, h, _⟩ := hx2; exact ⟨p, c, h⟩
  obtain ⟨p2, c2, rfl⟩ := hl2
  clear h2
  have hbx2 : Below w2.heap.size w2 (w2.alloc (.cells #[.int .i64 fn, .int .i64 fd, .slice p2 fo.length c2] 36)) := (Below.refl _ _).alloc (Nat.le_refl _) _
  have q2 := Blk.new w2 #[.int .i64 fn, .int .i64 fd, .slice p2 fo.length c2] 36
  obtain ⟨W2, hW2⟩ : ∃ W2, w2.alloc (.cells #[.int .i64 fn, .int .i64 fd, .slice p2 fo.length c2] 36) = W2 := ⟨_, rfl⟩
  rw [hW2] at hbx2 q2
  have HW2 := Lib.hid hW2
  clear hW2
  have g2 : Below W1.heap.size W1 W2 := hb2.trans (hbx2.mono hb2.size)
  have hx2 : Ords W2.heap.size W2 (.slice p2 fo.length c2) fo := Recs.below hx2 hbx2 (Nat.le_refl _) hbx2.size
  have q1 := q1.below g2 q1.lt
  have hx1 : Ords W2.heap.size W2 (.slice p1 fo.length c1) fo := Recs.below hx1 g2 (Nat.le_refl _) g2.size
  have B2 := B1.trans (g2.mono B1.size)
  clear hbx2
  have h3 := H3.out W2 (hT.up B2 B2.size) (hM.up B2 B2.size)
  go_wp2_with fail
  rw [HW2.out]
  refine h3.mono ?_
  rintro e w3 ⟨x3, rfl, hx3, hb3⟩
  have hl3 : ∃ p c, x3 = .slice p rs.length c := by obtain ⟨p, c, h, _⟩ := hx3; exact ⟨p, c, h⟩
  obtain ⟨p3, c3, rfl⟩ := hl3
  clear h3
  have hbx3 : Below w3.heap.size w3 (w3.alloc (.cells #[.int .i64 an, .int .i64 ad, .slice p3 rs.length c3] 30)) := (Below.refl _ _).alloc (Nat.le_refl _) _
  have q3 := Blk.new w3 #[.int .i64 an, .int .i64 ad, .slice p3 rs.length c3] 30
  obtain ⟨W3, hW3⟩ : ∃ W3, w3.alloc (.cells #[.int .i64 an, .int .i64 ad, .slice p3 rs.length c3] 30) = W3 := ⟨_, rfl⟩
  rw [hW3] at hbx3 q3
  have HW3 := Lib.hid hW3
  clear hW3
  have g3 : Below W2.heap.size W2 W3 := hb3.trans (hbx3.mono hb3.size)
  have hx3 : Rets W3.heap.size W3 (.slice p3 rs.length c3) rs := Recs.below hx3 hbx3 (Nat.le_refl _) hbx3.size
  have q1 := q1.below g3 q1.lt
  have hx1 : Ords W3.heap.size W3 (.slice p1 fo.length c1) fo := Recs.below hx1 g3 (Nat.le_refl _) g3.size
  have q2 := q2.below g3 q2.lt
  have hx2 : Ords W3.heap.size W3 (.slice p2 fo.length c2) fo := Recs.below hx2 g3 (Nat.le_refl _) g3.size
  have B3 := B2.trans (g3.mono B2.size)
  clear hbx3
  have h4 := H4.out W3
  go_wp2_with fail
  rw [HW3.out]
  refine h4.mono ?_
  rintro e w4 ⟨x4, rfl, hx4, hb4⟩
  have hl4 : ∃ p c, x4 = .slice p rs.length c := by obtain ⟨p, c, h, _⟩ := hx4; exact ⟨p, c, h⟩
  obtain ⟨p4, c4, rfl⟩ := hl4
  clear h4
  have hbx4 : Below w4.heap.size w4 (w4.alloc (.cells #[.int .i64 an, .int .i64 ad, .slice p4 rs.length c4] 41)) := (Below.refl _ _).alloc (Nat.le_refl _) _
  have q4 := Blk.new w4 #[.int .i64 an, .int .i64 ad, .slice p4 rs.length c4] 41
  obtain ⟨W4, hW4⟩ : ∃ W4, w4.alloc (.cells #[.int .i64 an, .int .i64 ad, .slice p4 rs.length c4] 41) = W4 := ⟨_, rfl⟩
  rw [hW4] at hbx4 q4
  have HW4 := Lib.hid hW4
  clear hW4
  have g4 : Below W3.heap.size W3 W4 := hb4.trans (hbx4.mono hb4.size)
  have hx4 : Rets W4.heap.size W4 (.slice p4 rs.length c4) rs := Recs.below hx4 hbx4 (Nat.le_refl _) hbx4.size
  have q1 := q1.below g4 q1.lt
  have hx1 : Ords W4.heap.size W4 (.slice p1 fo.length c1) fo := Recs.below hx1 g4 (Nat.le_refl _) g4.size
  have q2 := q2.below g4 q2.lt
  have hx2 : Ords W4.heap.size W4 (.slice p2 fo.length c2) fo := Recs.below hx2 g4 (Nat.le_refl _) g4.size
  have q3 := q3.below g4 q3.lt
  have hx3 : Rets W4.heap.size W4 (.slice p3 rs.length c3) rs := Recs.below hx3 g4 (Nat.le_refl _) g4.size
  have B4 := B3.trans (g4.mono B3.size)
  clear hbx4
  go_wp2_with fail
  rw [HW4.out]
  refine wp_onlyN ?_
  refine region_plain (fun W' => Below W4.heap.size W4 W') [] (by kernel_rfl) ?_
  have qQ : (fun W' => Below W4.heap.size W4 W') W4.drew := ⟨rfl, rfl, rfl, Nat.le_refl _, fun _ _ => rfl⟩
  refine wpAnyD_take (i := 0) (v := _) rfl (by kernel_rfl) (by kernel_rfl) (by kernel_rfl) (by kernel_rfl) (by kernel_rfl) (fun _ _ _ h => h) (.inl ⟨by kernel_rfl, fun W' hS => by go_simp <;> rfl⟩) qQ ?_
  refine wpAnyD_take (i := 1) (v := _) rfl (by kernel_rfl) (by kernel_rfl) (by kernel_rfl) (by kernel_rfl) (by kernel_rfl) (fun _ _ _ h => h) (.inl ⟨by kernel_rfl, fun W' hS => by go_simp <;> rfl⟩) qQ ?_
  refine wpAnyD_take (i := 2) (v := _) rfl (by kernel_rfl) (by kernel_rfl) (by kernel_rfl) (by kernel_rfl) (by kernel_rfl) (fun _ _ _ h => h) (.inl ⟨by kernel_rfl, fun W' hS => by go_simp <;> rfl⟩) qQ ?_
  refine wpAnyD_take (i := 3) (v := _) rfl (by kernel_rfl) (by kernel_rfl) (by kernel_rfl) (by kernel_rfl) (by kernel_rfl) (fun _ _ _ h => h) (.inl ⟨by kernel_rfl, fun W' hS => by go_simp <;> rfl⟩) qQ ?_
  refine wpAnyD_take (i := 4) (v := _) rfl (by kernel_rfl) (by kernel_rfl) (by kernel_rfl) (by kernel_rfl) (by kernel_rfl) (fun _ _ _ h => h) (.inl ⟨by kernel_rfl, fun W' hS => by go_simp <;> rfl⟩) qQ ?_
  refine wpAnyD_take (i := 5) (v := _) rfl (by kernel_rfl) (by kernel_rfl) (by kernel_rfl) (by kernel_rfl) (by kernel_rfl) (fun _ _ _ h => h) (.inl ⟨by kernel_rfl, fun W' hS => by go_simp <;> rfl⟩) qQ ?_
  refine wpAnyD_take (i := 6) (v := _) rfl (by kernel_rfl) (by kernel_rfl) (by kernel_rfl) (by kernel_rfl) (by kernel_rfl) (fun _ _ _ h => h) (.inl ⟨by kernel_rfl, fun W' hS => by go_simp <;> rfl⟩) qQ ?_
  refine wpAnyD_take (i := 7) (v := _) rfl (by kernel_rfl) (by kernel_rfl) (by kernel_rfl) (by kernel_rfl) (by kernel_rfl) (fun _ _ _ h => h) (.inl ⟨by kernel_rfl, fun W' hS => by go_simp <;> rfl⟩) qQ ?_
  refine wpAnyD_take (i := 8) (v := _) rfl (by kernel_rfl) (by kernel_rfl) (by kernel_rfl) (by kernel_rfl) (by kernel_rfl) (fun _ _ _ h => h) (.inl ⟨by kernel_rfl, fun W' hS => by go_simp <;> rfl⟩) qQ ?_
  refine wpAnyD_take (i := 9) (v := _) rfl (by kernel_rfl) (by kernel_rfl) (by kernel_rfl) (by kernel_rfl) (by kernel_rfl) (fun _ _ _ h => h) (.inl ⟨by kernel_rfl, fun W' hS => by obtain ⟨c0, c1, c2⟩ := (q1.below hS q1.lt).three; go_simp <;> rfl⟩) qQ ?_
  refine wpAnyD_take (i := 11) (v := _) rfl (by kernel_rfl) (by kernel_rfl) (by kernel_rfl) (by kernel_rfl) (by kernel_rfl) (fun _ _ _ h => h) (.inl ⟨by kernel_rfl, fun W' hS => by obtain ⟨c0, c1, c2⟩ := (q2.below hS q2.lt).three; go_simp <;> rfl⟩) qQ ?_
  have hp := plainF_any fn fd p1 fo.length c1 W4.drew
  refine wpAnyD_one (i := 10) (by kernel_rfl) rfl (by kernel_rfl) ?_
  go_simp
  refine hp.mono ?_
  rintro e t1 ⟨rfl, k1⟩
  have S1 : Below W4.heap.size W4 t1 := qQ.trans k1
  have hsf := sameF_any W4.heap.size fn fd (.slice p1 fo.length c1) (.slice p2 fo.length c2) fo t1 (Recs.below hx1 S1 (Nat.le_refl _) (Nat.le_refl _)) (Recs.below hx2 S1 (Nat.le_refl _) (Nat.le_refl _)) S1.size
  go_simp
  refine wpAnyD_one (i := 12) (by kernel_rfl) rfl (by kernel_rfl) ?_
  go_simp
  refine hsf.mono ?_
  rintro e t2 ⟨rfl, k2⟩
  have S2 : Below W4.heap.size W4 t2 := S1.trans (k2.mono S1.size)
  go_simp
  refine wpAnyD_take (i := 13) (v := _) rfl (by kernel_rfl) (by kernel_rfl) (by kernel_rfl) (by kernel_rfl) (by kernel_rfl) (fun _ _ _ h => h) (.inl ⟨by kernel_rfl, fun W' hS => by go_simp <;> rfl⟩) S2 ?_
  refine wpAnyD_take (i := 14) (v := _) rfl (by kernel_rfl) (by kernel_rfl) (by kernel_rfl) (by kernel_rfl) (by kernel_rfl) (fun _ _ _ h => h) (.inl ⟨by kernel_rfl, fun W' hS => by go_simp <;> rfl⟩) S2 ?_
  refine wpAnyD_take (i := 15) (v := _) rfl (by kernel_rfl) (by kernel_rfl) (by kernel_rfl) (by kernel_rfl) (by kernel_rfl) (fun _ _ _ h => h) (.inl ⟨by kernel_rfl, fun W' hS => by obtain ⟨c0, c1, c2⟩ := (q3.below hS q3.lt).three; go_simp <;> rfl⟩) S2 ?_
  refine wpAnyD_take (i := 17) (v := _) rfl (by kernel_rfl) (by kernel_rfl) (by kernel_rfl) (by kernel_rfl) (by kernel_rfl) (fun _ _ _ h => h) (.inl ⟨by kernel_rfl, fun W' hS => by obtain ⟨c0, c1, c2⟩ := (q4.below hS q4.lt).three; go_simp <;> rfl⟩) S2 ?_
  have ho := old_any W4.heap.size an ad rs (.slice p3 rs.length c3) t2 (Recs.below hx3 S2 (Nat.le_refl _) (Nat.le_refl _)) S2.size HRL.out
  refine wpAnyD_one (i := 16) (by kernel_rfl) rfl (by kernel_rfl) ?_
  go_simp
  refine ho.mono ?_
  rintro e t3 ⟨a5, c5, rfl, hw5, k3⟩
  have S3 : Below W4.heap.size W4 t3 := S2.trans (k3.mono S2.size)
  have hr5 : Rets t3.heap.size t3 (.slice a5 rs.length c5) rs := hw5.rets
  have hsa := sameA_any t3.heap.size an ad (.slice a5 rs.length c5) (.slice p4 rs.length c4) rs t3 hr5 (Recs.below hx4 S3 (Nat.le_refl _) S3.size) (Nat.le_refl _)
  go_simp
  refine wpAnyD_one (i := 18) (by kernel_rfl) rfl (by kernel_rfl) ?_
  go_simp
  refine hsa.mono ?_
  rintro e t4 ⟨rfl, k4⟩
  have S4 : Below W4.heap.size W4 t4 := S3.trans (k4.mono S3.size)
  go_simp
  refine wpAnyD_take (i := 19) (v := _) rfl (by kernel_rfl) (by kernel_rfl) (by kernel_rfl) (by kernel_rfl) (by kernel_rfl) (fun _ _ _ h => h) (.inl ⟨by kernel_rfl, fun W' hS => by go_simp <;> rfl⟩) S4 ?_
  refine wpAnyD_take (i := 20) (v := _) rfl (by kernel_rfl) (by kernel_rfl) (by kernel_rfl) (by kernel_rfl) (by kernel_rfl) (fun _ _ _ h => h) (.inl ⟨by kernel_rfl, fun W' hS => by go_simp <;> rfl⟩) S4 ?_
  refine wpAnyD_done (by kernel_rfl) ?_ _
  refine onlyN_mk ?_
  go_simp
  go_wp2_with fail
  go_ret
  exact ⟨rfl, B4.trans (S4.mono B4.size)⟩
end Go.Proofs.YtaccaebdmndkiaaGreatDoor
