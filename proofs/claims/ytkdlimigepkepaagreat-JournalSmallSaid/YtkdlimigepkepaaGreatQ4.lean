/- The reference of layer 37: Cut, Restore's parts. No conditions beyond sizes. -/
import Derived.Test.YtkdlimigepkepaaGreatQ3
namespace Go.Proofs.YtkdlimigepkepaaGreat
open Go.RowKit
set_option linter.unusedVariables false

set_option maxRecDepth 100000 in
set_option maxHeartbeats 4000000 in
theorem cut_ref (K : Nat) (v : Value) (s : St) (n : Int) (w : World) (hv : Byts K w v s.data) (hK : K ≤ w.heap.size) (hp : s.power ≤ 2 ^ 63 - 1) :
    Calls Tryz.prog 16 #[.agg #[v, .int .i64 s.power], .int .i64 n] w fun e w' => ∃ v', e = .returned (.tuple #[.agg #[v', .int .i64 (cutS s n).1.power], .int .i64 (cutS s n).2]) ∧ OwnB w.heap.size w' v' (cutS s n).1.data ∧ Below w.heap.size w w' := by
  obtain ⟨data, p⟩ := s
  simp only at hv hp ⊢
  obtain ⟨va, cap, rfl, hl1, hl2, hz, _⟩ := id hv
  have HV := Lib.hid hv; have HL1 := Lib.hid hl1; have HL2 := Lib.hid hl2; have HZ := Lib.hid hz; have HP := Lib.hid hp
  clear hv hl1 hl2 hz hp
  go_enter Tryz.func16, Tryz.ntmps16
  go_wp2_with fail
  refine (valid_ref va data.length cap p _ (by have := HL1.out; have := HL2.out; unfold maxLen at *; omega)).mono ?_
  rintro e w1 ⟨rfl, hb1⟩
  have q1 : Blk w1 w.heap.size #[.slice va data.length cap, .int .i64 p] 39 := ((Blk.new w _ _).alloc _).below hb1 (by simp; omega)
  have r1 : Blk w1 (w.heap.size + 1) #[.slice none 0 0, .int .i64 0] 39 := by
    have := Blk.new (w.alloc (.cells #[.slice va data.length cap, .int .i64 p] 39)) #[.slice none 0 0, .int .i64 0] 39
    rw [World.size_alloc] at this
    exact this.below hb1 (by simp)
  obtain ⟨c0, c1, f0, f1⟩ := q1.two
  obtain ⟨d0, d1, g0, g1⟩ := r1.two
  have hz1 : w.heap.size + 1 < w1.heap.size := r1.lt
  have hz0 : w.heap.size < w1.heap.size := q1.lt
  have hz : K ≤ w1.heap.size := by omega
  have hq1 : Below w.heap.size w w1 := (((Below.refl _ w).alloc (Nat.le_refl _) _).alloc (by simp) _).trans (hb1.mono (by simp; omega))
  by_cases hbad : validB data.length p = false ∨ n < 0 ∨ (data.length : Int) < n
  · have hr : Hid (cutS ⟨data, p⟩ n = (zSt, 2)) := by unfold Hid cutS; rw [if_pos hbad]
    have fin : ∀ X : Value, X = .int .i64 2 → True := fun _ _ => trivial
    clear fin
    cases hvb : validB data.length p with
    | false =>
      clear hbad hvb
      go_wp2_with fail
      rw [hr.out]
      refine bodyPost_ret (v := .tuple #[.agg #[.slice none 0 0, .int .i64 0], .int .i64 2]) (by simp [results, Tryz.results16, go_sem, d0, d1]) rfl ⟨_, rfl, OwnB.nil _ _, ?_⟩
      exact (hq1.setCell (by simp) _).setCell (by simp) _
    | true =>
      have h2 := hbad.resolve_left (by rw [hvb]; simp)
      by_cases h3 : n < 0
      · have t : decide (n < (0 : Int)) = true := by simp; omega
        clear hbad hvb h2 h3
        go_wp2_with fail
        rw [hr.out]
        refine bodyPost_ret (v := .tuple #[.agg #[.slice none 0 0, .int .i64 0], .int .i64 2]) (by simp [results, Tryz.results16, go_sem, d0, d1]) rfl ⟨_, rfl, OwnB.nil _ _, ?_⟩
        exact (hq1.setCell (by simp) _).setCell (by simp) _
      · have t : decide (n < (0 : Int)) = false := by simp; omega
        have t2 : decide ((data.length : Int) < n) = true := by simp; omega
        clear hbad hvb h2 h3
        go_wp2_with fail
        rw [hr.out]
        refine bodyPost_ret (v := .tuple #[.agg #[.slice none 0 0, .int .i64 0], .int .i64 2]) (by simp [results, Tryz.results16, go_sem, d0, d1]) rfl ⟨_, rfl, OwnB.nil _ _, ?_⟩
        exact (hq1.setCell (by simp) _).setCell (by simp) _
  · have hr1 := Lib.hid hbad
    have hvb : validB data.length p = true := by cases h : validB data.length p <;> simp_all
    have hn0 : 0 ≤ n := by omega
    have hnl : n ≤ data.length := by omega
    have hlen : data.length ≤ 2 ^ 20 := by unfold validB at hvb; simp at hvb; omega
    have hp1 : -1 ≤ p := by unfold validB at hvb; simp at hvb; omega
    rw [hvb]
    clear hbad hvb
    obtain ⟨N, rfl⟩ : ∃ N : Nat, n = N := ⟨n.toNat, by omega⟩
    have hN : N ≤ data.length := by omega
    have hcN : N ≤ cap := by have := HL1.out; omega
    have t0 : ¬ data.length < N := by omega
    clear hn0 hnl
    by_cases hlt : N < data.length
    · by_cases h0 : p = 0
      · have t1 : (p == (0 : Int)) = true := by simp [h0]
        have hr : Hid (cutS ⟨data, p⟩ N = (zSt, 370)) := by unfold Hid cutS; rw [if_neg hr1.out, if_neg (by simp only; omega), if_pos h0]
        clear h0
        go_wp2_with fail
        rw [hr.out]
        refine bodyPost_ret (v := .tuple #[.agg #[.slice none 0 0, .int .i64 0], .int .i64 370]) (by simp [results, Tryz.results16, go_sem, d0, d1]) rfl ⟨_, rfl, OwnB.nil _ _, ?_⟩
        exact (hq1.setCell (by simp) _).setCell (by simp) _
      · have t1 : (p == (0 : Int)) = false := by simp [h0]
        by_cases hp0 : 0 < p
        · have t2 : decide ((0 : Int) < p) = true := by simp; omega
          have hr : Hid (cutS ⟨data, p⟩ N = (⟨data.take N, p - 1⟩, 0)) := by unfold Hid cutS; simp only; rw [if_neg hr1.out, if_neg (by omega), if_neg h0, if_pos hp0]; rfl
          have hwp : IntKind.i64.wrap (p - 1) = p - 1 := IntWalk.i64_in _ (by have := HP.out; omega)
          clear h0 hp1
          have hq8 : Blk (w1.setCell ⟨w.heap.size, 1, none⟩ (.int .i64 (p - 1))) w.heap.size #[.slice va data.length cap, .int .i64 (p - 1)] 39 := q1.set (i := 1) (.int .i64 (p - 1))
          have hr8 : Blk (w1.setCell ⟨w.heap.size, 1, none⟩ (.int .i64 (p - 1))) (w.heap.size + 1) #[.slice none 0 0, .int .i64 0] 39 := r1.other (b' := w.heap.size) (i := 1) (by omega) (.int .i64 (p - 1))
          have hb8 : Below w.heap.size w (w1.setCell ⟨w.heap.size, 1, none⟩ (.int .i64 (p - 1))) := hq1.setCell (p := ⟨w.heap.size, 1, none⟩) (Nat.le_refl _) (.int .i64 (p - 1))
          have hs8 : (w1.setCell ⟨w.heap.size, 1, none⟩ (.int .i64 (p - 1))).heap.size = w1.heap.size := by simp
          have hoe := ownB_empty' (base := w.heap.size + 2) (w1.setCell ⟨w.heap.size, 1, none⟩ (.int .i64 (p - 1))) (by rw [hs8]; omega)
          rw [hs8] at hoe
          have hk8 : Below (w1.setCell ⟨w.heap.size, 1, none⟩ (.int .i64 (p - 1))).heap.size (w1.setCell ⟨w.heap.size, 1, none⟩ (.int .i64 (p - 1))) ((w1.setCell ⟨w.heap.size, 1, none⟩ (.int .i64 (p - 1))).alloc (.cells #[] 5)) := (Below.refl _ _).alloc (Nat.le_refl _) _
          have hby8 := (HV.out.below (hb8.mono hK) (Nat.le_refl _)).take N hN
          have hby9 := hby8.below (hk8.mono (by rw [hs8]; omega)) (Nat.le_refl _)
          have hq9 := hq8.alloc (.cells #[] 5)
          have hr9 := hr8.alloc (.cells #[] 5)
          have hb9 := hb8.alloc (by rw [hs8]; omega) (.cells #[] 5)
          have hs9 : w.heap.size + 2 ≤ ((w1.setCell ⟨w.heap.size, 1, none⟩ (.int .i64 (p - 1))).alloc (.cells #[] 5)).heap.size := by rw [World.size_alloc, hs8]; omega
          have hsm : ([] : List UInt8).length + (data.take N).length ≤ 2 ^ 46 := by simp; omega
          have hwl := hz1
          clear hq8 hr8 hb8 hk8 hby8 hs8 c0 c1 f0 f1 d0 d1 g0 g1
          obtain ⟨c0, c1, f0, f1⟩ := q1.two
          go_wp2_with (at_builtin; refine wpList_append_B rfl (.tmp 37) (.tmp 41) rfl rfl rfl hoe hby9 hsm hs9 ?_; intro v8 w8 ho8 hg8 hat8; have hg8 : World.grownBy _ w8 (Value.slice (some ⟨w1.heap.size, 0, none⟩) 0 0).ownBlock := hg8; have hne8 : ∀ b, b < w.heap.size + 2 → some b ≠ (Value.slice (some ⟨w1.heap.size, 0, none⟩) 0 0).ownBlock := fun b hb e => (by simp [Value.ownBlock] at e; omega); have q8 := hq9.kept hg8 (hne8 _ (by omega)); have r8 := hr9.kept hg8 (hne8 _ (by omega)); clear c0 c1 f0 f1; obtain ⟨c0, c1, f0, f1⟩ := q8.two; obtain ⟨d0, d1, g0, g1⟩ := r8.two; obtain ⟨ra, rn, rc, rfl⟩ := ownBlock_of_OwnB ho8; have hwl8 : w.heap.size + 1 < w8.heap.size := r8.lt)
          rw [hr.out]
          simp only [List.nil_append] at ho8
          have hbl8 : Below w.heap.size w w8 := hb9.trans (below_of_grown hg8 (fun r hr => by simp [Value.ownBlock] at hr; omega) (by omega))
          refine bodyPost_ret (v := .tuple #[.agg #[.slice ra rn rc, .int .i64 (p - 1)], .int .i64 0]) (by simp [results, Tryz.results16, go_sem, d0, d1]) rfl ⟨_, rfl, ?_, ?_⟩
          · exact OwnB.mono (ho8.above (B := w.heap.size + 2) ((((Above.refl _ w8).set (by omega) _ _).set (by omega) _ _).set (by omega) _ _) (Nat.le_refl _)) (by omega)
          · exact ((hbl8.setCell (by simp) _).setCell (by simp) _).setCell (by simp) _
        · have t2 : decide ((0 : Int) < p) = false := by simp; omega
          have hr : Hid (cutS ⟨data, p⟩ N = (⟨data.take N, p⟩, 0)) := by unfold Hid cutS; simp only; rw [if_neg hr1.out, if_neg (by omega), if_neg h0, if_neg hp0]; rfl
          clear h0 hp1
          have hq8 : Blk (w1) w.heap.size #[.slice va data.length cap, .int .i64 (p)] 39 := q1
          have hr8 : Blk (w1) (w.heap.size + 1) #[.slice none 0 0, .int .i64 0] 39 := r1
          have hb8 : Below w.heap.size w (w1) := hq1
          have hs8 : (w1).heap.size = w1.heap.size := rfl
          have hoe := ownB_empty' (base := w.heap.size + 2) (w1) (by rw [hs8]; omega)
          rw [hs8] at hoe
          have hk8 : Below (w1).heap.size (w1) ((w1).alloc (.cells #[] 5)) := (Below.refl _ _).alloc (Nat.le_refl _) _
          have hby8 := (HV.out.below (hb8.mono hK) (Nat.le_refl _)).take N hN
          have hby9 := hby8.below (hk8.mono (by rw [hs8]; omega)) (Nat.le_refl _)
          have hq9 := hq8.alloc (.cells #[] 5)
          have hr9 := hr8.alloc (.cells #[] 5)
          have hb9 := hb8.alloc (by rw [hs8]; omega) (.cells #[] 5)
          have hs9 : w.heap.size + 2 ≤ ((w1).alloc (.cells #[] 5)).heap.size := by rw [World.size_alloc, hs8]; omega
          have hsm : ([] : List UInt8).length + (data.take N).length ≤ 2 ^ 46 := by simp; omega
          have hwl := hz1
          clear hq8 hr8 hb8 hk8 hby8 hs8 c0 c1 f0 f1 d0 d1 g0 g1
          obtain ⟨c0, c1, f0, f1⟩ := q1.two
          go_wp2_with (at_builtin; refine wpList_append_B rfl (.tmp 37) (.tmp 41) rfl rfl rfl hoe hby9 hsm hs9 ?_; intro v8 w8 ho8 hg8 hat8; have hg8 : World.grownBy _ w8 (Value.slice (some ⟨w1.heap.size, 0, none⟩) 0 0).ownBlock := hg8; have hne8 : ∀ b, b < w.heap.size + 2 → some b ≠ (Value.slice (some ⟨w1.heap.size, 0, none⟩) 0 0).ownBlock := fun b hb e => (by simp [Value.ownBlock] at e; omega); have q8 := hq9.kept hg8 (hne8 _ (by omega)); have r8 := hr9.kept hg8 (hne8 _ (by omega)); clear c0 c1 f0 f1; obtain ⟨c0, c1, f0, f1⟩ := q8.two; obtain ⟨d0, d1, g0, g1⟩ := r8.two; obtain ⟨ra, rn, rc, rfl⟩ := ownBlock_of_OwnB ho8; have hwl8 : w.heap.size + 1 < w8.heap.size := r8.lt)
          rw [hr.out]
          simp only [List.nil_append] at ho8
          have hbl8 : Below w.heap.size w w8 := hb9.trans (below_of_grown hg8 (fun r hr => by simp [Value.ownBlock] at hr; omega) (by omega))
          refine bodyPost_ret (v := .tuple #[.agg #[.slice ra rn rc, .int .i64 (p)], .int .i64 0]) (by simp [results, Tryz.results16, go_sem, d0, d1]) rfl ⟨_, rfl, ?_, ?_⟩
          · exact OwnB.mono (ho8.above (B := w.heap.size + 2) ((((Above.refl _ w8).set (by omega) _ _).set (by omega) _ _).set (by omega) _ _) (Nat.le_refl _)) (by omega)
          · exact ((hbl8.setCell (by simp) _).setCell (by simp) _).setCell (by simp) _
    · have hr : Hid (cutS ⟨data, p⟩ N = (⟨data.take N, p⟩, 0)) := by
        unfold Hid cutS; simp only; rw [if_neg hr1.out, if_pos (by omega), List.take_of_length_le (by omega)]
      have hq8 : Blk (w1) w.heap.size #[.slice va data.length cap, .int .i64 (p)] 39 := q1
      have hr8 : Blk (w1) (w.heap.size + 1) #[.slice none 0 0, .int .i64 0] 39 := r1
      have hb8 : Below w.heap.size w (w1) := hq1
      have hs8 : (w1).heap.size = w1.heap.size := rfl
      have hoe := ownB_empty' (base := w.heap.size + 2) (w1) (by rw [hs8]; omega)
      rw [hs8] at hoe
      have hk8 : Below (w1).heap.size (w1) ((w1).alloc (.cells #[] 5)) := (Below.refl _ _).alloc (Nat.le_refl _) _
      have hby8 := (HV.out.below (hb8.mono hK) (Nat.le_refl _)).take N hN
      have hby9 := hby8.below (hk8.mono (by rw [hs8]; omega)) (Nat.le_refl _)
      have hq9 := hq8.alloc (.cells #[] 5)
      have hr9 := hr8.alloc (.cells #[] 5)
      have hb9 := hb8.alloc (by rw [hs8]; omega) (.cells #[] 5)
      have hs9 : w.heap.size + 2 ≤ ((w1).alloc (.cells #[] 5)).heap.size := by rw [World.size_alloc, hs8]; omega
      have hsm : ([] : List UInt8).length + (data.take N).length ≤ 2 ^ 46 := by simp; omega
      have hwl := hz1
      clear hq8 hr8 hb8 hk8 hby8 hs8 c0 c1 f0 f1 d0 d1 g0 g1
      obtain ⟨c0, c1, f0, f1⟩ := q1.two
      go_wp2_with (at_builtin; refine wpList_append_B rfl (.tmp 37) (.tmp 41) rfl rfl rfl hoe hby9 hsm hs9 ?_; intro v8 w8 ho8 hg8 hat8; have hg8 : World.grownBy _ w8 (Value.slice (some ⟨w1.heap.size, 0, none⟩) 0 0).ownBlock := hg8; have hne8 : ∀ b, b < w.heap.size + 2 → some b ≠ (Value.slice (some ⟨w1.heap.size, 0, none⟩) 0 0).ownBlock := fun b hb e => (by simp [Value.ownBlock] at e; omega); have q8 := hq9.kept hg8 (hne8 _ (by omega)); have r8 := hr9.kept hg8 (hne8 _ (by omega)); clear c0 c1 f0 f1; obtain ⟨c0, c1, f0, f1⟩ := q8.two; obtain ⟨d0, d1, g0, g1⟩ := r8.two; obtain ⟨ra, rn, rc, rfl⟩ := ownBlock_of_OwnB ho8; have hwl8 : w.heap.size + 1 < w8.heap.size := r8.lt)
      rw [hr.out]
      simp only [List.nil_append] at ho8
      have hbl8 : Below w.heap.size w w8 := hb9.trans (below_of_grown hg8 (fun r hr => by simp [Value.ownBlock] at hr; omega) (by omega))
      refine bodyPost_ret (v := .tuple #[.agg #[.slice ra rn rc, .int .i64 (p)], .int .i64 0]) (by simp [results, Tryz.results16, go_sem, d0, d1]) rfl ⟨_, rfl, ?_, ?_⟩
      · exact OwnB.mono (ho8.above (B := w.heap.size + 2) ((((Above.refl _ w8).set (by omega) _ _).set (by omega) _ _).set (by omega) _ _) (Nat.le_refl _)) (by omega)
      · exact ((hbl8.setCell (by simp) _).setCell (by simp) _).setCell (by simp) _
end Go.Proofs.YtkdlimigepkepaaGreat
