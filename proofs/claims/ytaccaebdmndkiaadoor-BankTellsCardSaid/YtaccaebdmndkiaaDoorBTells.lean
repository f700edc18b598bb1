/- BankTells: the statement's own walk. No conditions beyond the readings of the arguments. -/
import Derived.Test.YtaccaebdmndkiaaDoorBWri
namespace Go.Proofs.YtaccaebdmndkiaaDoor
open Go.RowKit
set_option linter.unusedVariables false

set_option maxRecDepth 100000 in
set_option maxHeartbeats 4000000 in
theorem tells_walk (K : Nat) (n d : Int) (l : List Od) (v : Value) (an ad : Int) (rs : List Rt) (u : Value) (w : World) (hv : Ords K w v l) (hu : Rets K w u rs) (hK : K ≤ w.heap.size) (hT : Tabs w.heap.size w) (hrl : rs.length ≤ 8796093021952) :
    Calls Tryd.prog 3 #[.agg #[.int .i64 n, .int .i64 d, v], .agg #[.int .i64 an, .int .i64 ad, u]] w fun e w' => e = .returned (.bool true) ∧ Below w.heap.size w w' := by
  have hvl : ∃ a cap, v = .slice a l.length cap := by obtain ⟨a, cap, rfl, _⟩ := hv; exact ⟨a, cap, rfl⟩
  obtain ⟨va, vcap, rfl⟩ := hvl
  have hul : ∃ a cap, u = .slice a rs.length cap := by obtain ⟨a, cap, rfl, _⟩ := hu; exact ⟨a, cap, rfl⟩
  obtain ⟨ua, ucap, rfl⟩ := hul
  have hb1 : Below w.heap.size w ((w.alloc (.cells #[.int .i64 n, .int .i64 d, .slice va l.length vcap] 24)).alloc (.cells #[.int .i64 an, .int .i64 ad, .slice ua rs.length ucap] 27)) := ((Below.refl _ w).alloc (Nat.le_refl _) _).alloc (by simp) _
  have q1 := (Blk.new w #[.int .i64 n, .int .i64 d, .slice va l.length vcap] 24).alloc (.cells #[.int .i64 an, .int .i64 ad, .slice ua rs.length ucap] 27)
  have q2 := Blk.new (w.alloc (.cells #[.int .i64 n, .int .i64 d, .slice va l.length vcap] 24)) #[.int .i64 an, .int .i64 ad, .slice ua rs.length ucap] 27
  rw [World.size_alloc] at q2
  obtain ⟨W1, hW1⟩ : ∃ W1, (w.alloc (.cells #[.int .i64 n, .int .i64 d, .slice va l.length vcap] 24)).alloc (.cells #[.int .i64 an, .int .i64 ad, .slice ua rs.length ucap] 27) = W1 := ⟨_, rfl⟩
  rw [hW1] at hb1 q1 q2
  have HW1 := Lib.hid hW1
  clear hW1
  have hs1 := q2.lt
  have hT1 := hT.up hb1 hb1.size
  have hv1 : Ords W1.heap.size W1 (.slice va l.length vcap) l := Recs.below hv hb1 hK (Nat.le_trans hK hb1.size)
  have hu1 : Rets W1.heap.size W1 (.slice ua rs.length ucap) rs := Recs.below hu hb1 hK (Nat.le_trans hK hb1.size)
  clear hv hu hT
  obtain ⟨d0, d1, d2⟩ := q1.three
  obtain ⟨e0, e1, e2⟩ := q2.three
  by_cases hsm : l.length ≤ 100 ∧ rs.length ≤ 100
  · obtain ⟨hl1, hr1⟩ := hsm
    have g1 : decide ((100 : Int) < (l.length : Int)) = false := decide_eq_false (by omega)
    have g2 : decide ((100 : Int) < (rs.length : Int)) = false := decide_eq_false (by omega)
    have hc := writes_any W1.heap.size n d l _ an ad rs _ W1 hv1 hu1 (Nat.le_refl _) hT1 (by omega)
    go_enter Tryd.func3, Tryd.ntmps3
    go_wp2_with fail
    rw [HW1.out]
    refine hc.mono ?_
    rintro e w2 ⟨rfl, hb2⟩
    have hbq := hb1.trans (hb2.mono hb1.size)
    have ha := awake_any w2 (hT1.up hb2 hb2.size)
    clear hc d0 d1 d2 e0 e1 e2
    go_wp2_with fail
    refine ha.mono ?_
    rintro e w3 ⟨rfl, hb3⟩
    go_wp2_with fail
    go_ret
    exact ⟨rfl, hbq.trans (hb3.mono hbq.size)⟩
  · have hfin : ∃ x y : Bool, decide ((100 : Int) < (l.length : Int)) = x ∧ decide ((100 : Int) < (rs.length : Int)) = y ∧ (x || y) = true := by
      refine ⟨_, _, rfl, rfl, ?_⟩
      rw [Bool.or_eq_true, decide_eq_true_eq, decide_eq_true_eq]
      omega
    obtain ⟨x, y, hx, hy, hxy⟩ := hfin
    have HREST : Hid True := Lib.hid trivial
    clear hsm
    go_enter Tryd.func3, Tryd.ntmps3
    cases x with
    | true =>
      go_upto_region 2 with fail
      rw [HW1.out]
      refine region_plain (fun W => Blk W w.heap.size #[.int .i64 n, .int .i64 d, .slice va l.length vcap] 24 ∧ Blk W (w.heap.size + 1) #[.int .i64 an, .int .i64 ad, .slice ua rs.length ucap] 27) [] (by kernel_rfl) ?_
      have q0 : Blk W1.drew w.heap.size #[.int .i64 n, .int .i64 d, .slice va l.length vcap] 24 ∧ Blk W1.drew (w.heap.size + 1) #[.int .i64 an, .int .i64 ad, .slice ua rs.length ucap] 27 := ⟨q1, q2⟩
      have h1 : Below W1.heap.size W1 W1.drew := (Below.refl _ W1).drew
      refine wpAnyD_take (i := 0) (v := .agg #[.int .i64 n, .int .i64 d, .slice va l.length vcap]) rfl (by kernel_rfl) (by kernel_rfl) (by kernel_rfl) (by kernel_rfl) (by kernel_rfl) (fun _ _ _ h => h) (.inl ⟨by kernel_rfl, fun W' hS => by obtain ⟨c0, c1, c2⟩ := hS.1.three; go_simp⟩) q0 ?_
      refine wpAnyD_take (i := 2) (v := .agg #[.int .i64 n, .int .i64 d, .slice va l.length vcap]) rfl (by kernel_rfl) (by kernel_rfl) (by kernel_rfl) (by kernel_rfl) (by kernel_rfl) (fun _ _ _ h => h) (.inl ⟨by kernel_rfl, fun W' hS => by obtain ⟨c0, c1, c2⟩ := hS.1.three; go_simp⟩) q0 ?_
      obtain ⟨X1, hX1⟩ : ∃ X, W1.drew = X := ⟨_, rfl⟩
      rw [hX1] at q0 h1 ⊢
      clear hX1
      refine wpAnyD_one (i := 1) (by kernel_rfl) rfl (by kernel_rfl) ?_
      go_simp
      refine (valid_any W1.heap.size _ n d l X1 (Recs.below hv1 h1 (Nat.le_refl _) (Nat.le_refl _)) h1.size).mono ?_
      rintro e w2 ⟨rfl, hb⟩
      have h2 : Below W1.heap.size W1 w2 := h1.trans (hb.mono h1.size)
      have q0 : Blk w2 w.heap.size #[.int .i64 n, .int .i64 d, .slice va l.length vcap] 24 ∧ Blk w2 (w.heap.size + 1) #[.int .i64 an, .int .i64 ad, .slice ua rs.length ucap] 27 := ⟨q1.below h2 (by omega), q2.below h2 hs1⟩
      refine ⟨q0, ?_⟩
      refine wpAnyD_one (i := 3) (by kernel_rfl) rfl (by kernel_rfl) ?_
      go_simp
      refine (plainF_any n d va l.length vcap w2).mono ?_
      rintro e w3 ⟨rfl, hb⟩
      have h3 : Below W1.heap.size W1 w3 := h2.trans (hb.mono h2.size)
      have q0 : Blk w3 w.heap.size #[.int .i64 n, .int .i64 d, .slice va l.length vcap] 24 ∧ Blk w3 (w.heap.size + 1) #[.int .i64 an, .int .i64 ad, .slice ua rs.length ucap] 27 := ⟨q1.below h3 (by omega), q2.below h3 hs1⟩
      refine ⟨q0, ?_⟩
      refine wpAnyD_one (i := 4) (by kernel_rfl) rfl (by kernel_rfl) ?_
      go_simp
      refine (rvalid_any W1.heap.size n d _ l w3 (Recs.below hv1 h3 (Nat.le_refl _) (Nat.le_refl _)) h3.size).mono ?_
      rintro e w4 ⟨rfl, hb⟩
      have h4 : Below W1.heap.size W1 w4 := h3.trans (hb.mono h3.size)
      have q0 : Blk w4 w.heap.size #[.int .i64 n, .int .i64 d, .slice va l.length vcap] 24 ∧ Blk w4 (w.heap.size + 1) #[.int .i64 an, .int .i64 ad, .slice ua rs.length ucap] 27 := ⟨q1.below h4 (by omega), q2.below h4 hs1⟩
      refine ⟨q0, ?_⟩
      obtain ⟨vb, hvb⟩ : ∃ b, okF ⟨n, d, l⟩ = b := ⟨_, rfl⟩
      rw [hvb]
      refine wpAnyD_take (i := 5) (v := .bool true) rfl (by kernel_rfl) (by kernel_rfl) (by kernel_rfl) (by kernel_rfl) (by kernel_rfl) (fun _ _ _ h => h) (.inl ⟨by kernel_rfl, fun W' hS => by go_simp⟩) q0 ?_
      refine wpAnyD_take (i := 6) (v := .bool true) rfl (by kernel_rfl) (by kernel_rfl) (by kernel_rfl) (by kernel_rfl) (by kernel_rfl) (fun _ _ _ h => h) (.inl ⟨by kernel_rfl, fun W' hS => by go_simp⟩) q0 ?_
      refine wpAnyD_take (i := 7) (v := .agg #[.int .i64 an, .int .i64 ad, .slice ua rs.length ucap]) rfl (by kernel_rfl) (by kernel_rfl) (by kernel_rfl) (by kernel_rfl) (by kernel_rfl) (fun _ _ _ h => h) (.inl ⟨by kernel_rfl, fun W' hS => by obtain ⟨c0, c1, c2⟩ := hS.2.three; go_simp⟩) q0 ?_
      refine wpAnyD_take (i := 9) (v := .agg #[.int .i64 an, .int .i64 ad, .slice ua rs.length ucap]) rfl (by kernel_rfl) (by kernel_rfl) (by kernel_rfl) (by kernel_rfl) (by kernel_rfl) (fun _ _ _ h => h) (.inl ⟨by kernel_rfl, fun W' hS => by obtain ⟨c0, c1, c2⟩ := hS.2.three; go_simp⟩) q0 ?_
      refine wpAnyD_one (i := 8) (by kernel_rfl) rfl (by kernel_rfl) ?_
      go_simp
      refine (right_any W1.heap.size _ an ad rs w4 (Recs.below hu1 h4 (Nat.le_refl _) (Nat.le_refl _)) h4.size).mono ?_
      rintro e w5 ⟨rfl, hb⟩
      have h5 : Below W1.heap.size W1 w5 := h4.trans (hb.mono h4.size)
      have q0 : Blk w5 w.heap.size #[.int .i64 n, .int .i64 d, .slice va l.length vcap] 24 ∧ Blk w5 (w.heap.size + 1) #[.int .i64 an, .int .i64 ad, .slice ua rs.length ucap] 27 := ⟨q1.below h5 (by omega), q2.below h5 hs1⟩
      refine ⟨q0, ?_⟩
      refine wpAnyD_one (i := 10) (by kernel_rfl) rfl (by kernel_rfl) ?_
      go_simp
      refine (old_any W1.heap.size an ad rs _ w5 (Recs.below hu1 h5 (Nat.le_refl _) (Nat.le_refl _)) h5.size hrl).mono ?_
      rintro e w6 ⟨oa, oc, rfl, hO, hb⟩
      have h6 : Below W1.heap.size W1 w6 := h5.trans (hb.mono h5.size)
      have q0 : Blk w6 w.heap.size #[.int .i64 n, .int .i64 d, .slice va l.length vcap] 24 ∧ Blk w6 (w.heap.size + 1) #[.int .i64 an, .int .i64 ad, .slice ua rs.length ucap] 27 := ⟨q1.below h6 (by omega), q2.below h6 hs1⟩
      refine ⟨q0, ?_⟩
      refine wpAnyD_one (i := 11) (by kernel_rfl) rfl (by kernel_rfl) ?_
      go_simp
      refine (rright_any w6.heap.size an ad _ rs w6 hO.rets (Nat.le_refl _)).mono ?_
      rintro e w7 ⟨rfl, hb⟩
      have h7 : Below W1.heap.size W1 w7 := h6.trans (hb.mono h6.size)
      have q0 : Blk w7 w.heap.size #[.int .i64 n, .int .i64 d, .slice va l.length vcap] 24 ∧ Blk w7 (w.heap.size + 1) #[.int .i64 an, .int .i64 ad, .slice ua rs.length ucap] 27 := ⟨q1.below h7 (by omega), q2.below h7 hs1⟩
      refine ⟨q0, ?_⟩
      obtain ⟨rb, hrb⟩ : ∃ b, okA ⟨an, ad, rs⟩ = b := ⟨_, rfl⟩
      rw [hrb]
      refine wpAnyD_take (i := 12) (v := .bool true) rfl (by kernel_rfl) (by kernel_rfl) (by kernel_rfl) (by kernel_rfl) (by kernel_rfl) (fun _ _ _ h => h) (.inl ⟨by kernel_rfl, fun W' hS => by go_simp⟩) q0 ?_
      refine wpAnyD_take (i := 13) (v := .bool true) rfl (by kernel_rfl) (by kernel_rfl) (by kernel_rfl) (by kernel_rfl) (by kernel_rfl) (fun _ _ _ h => h) (.inl ⟨by kernel_rfl, fun W' hS => by go_simp⟩) q0 ?_
      refine wpAnyD_take (i := 14) (v := .bool true) rfl (by kernel_rfl) (by kernel_rfl) (by kernel_rfl) (by kernel_rfl) (by kernel_rfl) (fun _ _ _ h => h) (.inl ⟨by kernel_rfl, fun W' hS => by go_simp⟩) q0 ?_
      refine wpAnyD_one (i := 15) (by kernel_rfl) rfl (by kernel_rfl) ?_
      go_simp
      refine (awake_any w7 (hT1.up h7 h7.size)).mono ?_
      rintro e w8 ⟨rfl, hb⟩
      have h8 : Below W1.heap.size W1 w8 := h7.trans (hb.mono h7.size)
      have q0 : Blk w8 w.heap.size #[.int .i64 n, .int .i64 d, .slice va l.length vcap] 24 ∧ Blk w8 (w.heap.size + 1) #[.int .i64 an, .int .i64 ad, .slice ua rs.length ucap] 27 := ⟨q1.below h8 (by omega), q2.below h8 hs1⟩
      refine ⟨q0, ?_⟩
      refine wpAnyD_take (i := 16) (v := .bool true) rfl (by kernel_rfl) (by kernel_rfl) (by kernel_rfl) (by kernel_rfl) (by kernel_rfl) (fun _ _ _ h => h) (.inl ⟨by kernel_rfl, fun W' hS => by go_simp⟩) q0 ?_
      refine wpAnyD_take (i := 17) (v := .bool true) rfl (by kernel_rfl) (by kernel_rfl) (by kernel_rfl) (by kernel_rfl) (by kernel_rfl) (fun _ _ _ h => h) (.inl ⟨by kernel_rfl, fun W' hS => by go_simp⟩) q0 ?_
      refine wpAnyD_done (by kernel_rfl) ?_ _
      go_wp2_with fail
      go_ret
      exact ⟨rfl, hb1.trans (h8.mono hb1.size)⟩
    | false =>
      obtain rfl : y = true := by simpa using hxy
      go_upto_region 2 with fail
      rw [HW1.out]
      refine region_plain (fun W => Blk W w.heap.size #[.int .i64 n, .int .i64 d, .slice va l.length vcap] 24 ∧ Blk W (w.heap.size + 1) #[.int .i64 an, .int .i64 ad, .slice ua rs.length ucap] 27) [] (by kernel_rfl) ?_
      have q0 : Blk W1.drew w.heap.size #[.int .i64 n, .int .i64 d, .slice va l.length vcap] 24 ∧ Blk W1.drew (w.heap.size + 1) #[.int .i64 an, .int .i64 ad, .slice ua rs.length ucap] 27 := ⟨q1, q2⟩
      have h1 : Below W1.heap.size W1 W1.drew := (Below.refl _ W1).drew
      refine wpAnyD_take (i := 0) (v := .agg #[.int .i64 n, .int .i64 d, .slice va l.length vcap]) rfl (by kernel_rfl) (by kernel_rfl) (by kernel_rfl) (by kernel_rfl) (by kernel_rfl) (fun _ _ _ h => h) (.inl ⟨by kernel_rfl, fun W' hS => by obtain ⟨c0, c1, c2⟩ := hS.1.three; go_simp⟩) q0 ?_
      refine wpAnyD_take (i := 2) (v := .agg #[.int .i64 n, .int .i64 d, .slice va l.length vcap]) rfl (by kernel_rfl) (by kernel_rfl) (by kernel_rfl) (by kernel_rfl) (by kernel_rfl) (fun _ _ _ h => h) (.inl ⟨by kernel_rfl, fun W' hS => by obtain ⟨c0, c1, c2⟩ := hS.1.three; go_simp⟩) q0 ?_
      obtain ⟨X1, hX1⟩ : ∃ X, W1.drew = X := ⟨_, rfl⟩
      rw [hX1] at q0 h1 ⊢
      clear hX1
      refine wpAnyD_one (i := 1) (by kernel_rfl) rfl (by kernel_rfl) ?_
      go_simp
      refine (valid_any W1.heap.size _ n d l X1 (Recs.below hv1 h1 (Nat.le_refl _) (Nat.le_refl _)) h1.size).mono ?_
      rintro e w2 ⟨rfl, hb⟩
      have h2 : Below W1.heap.size W1 w2 := h1.trans (hb.mono h1.size)
      have q0 : Blk w2 w.heap.size #[.int .i64 n, .int .i64 d, .slice va l.length vcap] 24 ∧ Blk w2 (w.heap.size + 1) #[.int .i64 an, .int .i64 ad, .slice ua rs.length ucap] 27 := ⟨q1.below h2 (by omega), q2.below h2 hs1⟩
      refine ⟨q0, ?_⟩
      refine wpAnyD_one (i := 3) (by kernel_rfl) rfl (by kernel_rfl) ?_
      go_simp
      refine (plainF_any n d va l.length vcap w2).mono ?_
      rintro e w3 ⟨rfl, hb⟩
      have h3 : Below W1.heap.size W1 w3 := h2.trans (hb.mono h2.size)
      have q0 : Blk w3 w.heap.size #[.int .i64 n, .int .i64 d, .slice va l.length vcap] 24 ∧ Blk w3 (w.heap.size + 1) #[.int .i64 an, .int .i64 ad, .slice ua rs.length ucap] 27 := ⟨q1.below h3 (by omega), q2.below h3 hs1⟩
      refine ⟨q0, ?_⟩
      refine wpAnyD_one (i := 4) (by kernel_rfl) rfl (by kernel_rfl) ?_
      go_simp
      refine (rvalid_any W1.heap.size n d _ l w3 (Recs.below hv1 h3 (Nat.le_refl _) (Nat.le_refl _)) h3.size).mono ?_
      rintro e w4 ⟨rfl, hb⟩
      have h4 : Below W1.heap.size W1 w4 := h3.trans (hb.mono h3.size)
      have q0 : Blk w4 w.heap.size #[.int .i64 n, .int .i64 d, .slice va l.length vcap] 24 ∧ Blk w4 (w.heap.size + 1) #[.int .i64 an, .int .i64 ad, .slice ua rs.length ucap] 27 := ⟨q1.below h4 (by omega), q2.below h4 hs1⟩
      refine ⟨q0, ?_⟩
      obtain ⟨vb, hvb⟩ : ∃ b, okF ⟨n, d, l⟩ = b := ⟨_, rfl⟩
      rw [hvb]
      refine wpAnyD_take (i := 5) (v := .bool true) rfl (by kernel_rfl) (by kernel_rfl) (by kernel_rfl) (by kernel_rfl) (by kernel_rfl) (fun _ _ _ h => h) (.inl ⟨by kernel_rfl, fun W' hS => by go_simp⟩) q0 ?_
      refine wpAnyD_take (i := 6) (v := .bool true) rfl (by kernel_rfl) (by kernel_rfl) (by kernel_rfl) (by kernel_rfl) (by kernel_rfl) (fun _ _ _ h => h) (.inl ⟨by kernel_rfl, fun W' hS => by go_simp⟩) q0 ?_
      refine wpAnyD_take (i := 7) (v := .agg #[.int .i64 an, .int .i64 ad, .slice ua rs.length ucap]) rfl (by kernel_rfl) (by kernel_rfl) (by kernel_rfl) (by kernel_rfl) (by kernel_rfl) (fun _ _ _ h => h) (.inl ⟨by kernel_rfl, fun W' hS => by obtain ⟨c0, c1, c2⟩ := hS.2.three; go_simp⟩) q0 ?_
      refine wpAnyD_take (i := 9) (v := .agg #[.int .i64 an, .int .i64 ad, .slice ua rs.length ucap]) rfl (by kernel_rfl) (by kernel_rfl) (by kernel_rfl) (by kernel_rfl) (by kernel_rfl) (fun _ _ _ h => h) (.inl ⟨by kernel_rfl, fun W' hS => by obtain ⟨c0, c1, c2⟩ := hS.2.three; go_simp⟩) q0 ?_
      refine wpAnyD_one (i := 8) (by kernel_rfl) rfl (by kernel_rfl) ?_
      go_simp
      refine (right_any W1.heap.size _ an ad rs w4 (Recs.below hu1 h4 (Nat.le_refl _) (Nat.le_refl _)) h4.size).mono ?_
      rintro e w5 ⟨rfl, hb⟩
      have h5 : Below W1.heap.size W1 w5 := h4.trans (hb.mono h4.size)
      have q0 : Blk w5 w.heap.size #[.int .i64 n, .int .i64 d, .slice va l.length vcap] 24 ∧ Blk w5 (w.heap.size + 1) #[.int .i64 an, .int .i64 ad, .slice ua rs.length ucap] 27 := ⟨q1.below h5 (by omega), q2.below h5 hs1⟩
      refine ⟨q0, ?_⟩
      refine wpAnyD_one (i := 10) (by kernel_rfl) rfl (by kernel_rfl) ?_
      go_simp
      refine (old_any W1.heap.size an ad rs _ w5 (Recs.below hu1 h5 (Nat.le_refl _) (Nat.le_refl _)) h5.size hrl).mono ?_
      rintro e w6 ⟨oa, oc, rfl, hO, hb⟩
      have h6 : Below W1.heap.size W1 w6 := h5.trans (hb.mono h5.size)
      have q0 : Blk w6 w.heap.size #[.int .i64 n, .int .i64 d, .slice va l.length vcap] 24 ∧ Blk w6 (w.heap.size + 1) #[.int .i64 an, .int .i64 ad, .slice ua rs.length ucap] 27 := ⟨q1.below h6 (by omega), q2.below h6 hs1⟩
      refine ⟨q0, ?_⟩
      refine wpAnyD_one (i := 11) (by kernel_rfl) rfl (by kernel_rfl) ?_
      go_simp
      refine (rright_any w6.heap.size an ad _ rs w6 hO.rets (Nat.le_refl _)).mono ?_
      rintro e w7 ⟨rfl, hb⟩
      have h7 : Below W1.heap.size W1 w7 := h6.trans (hb.mono h6.size)
      have q0 : Blk w7 w.heap.size #[.int .i64 n, .int .i64 d, .slice va l.length vcap] 24 ∧ Blk w7 (w.heap.size + 1) #[.int .i64 an, .int .i64 ad, .slice ua rs.length ucap] 27 := ⟨q1.below h7 (by omega), q2.below h7 hs1⟩
      refine ⟨q0, ?_⟩
      obtain ⟨rb, hrb⟩ : ∃ b, okA ⟨an, ad, rs⟩ = b := ⟨_, rfl⟩
      rw [hrb]
      refine wpAnyD_take (i := 12) (v := .bool true) rfl (by kernel_rfl) (by kernel_rfl) (by kernel_rfl) (by kernel_rfl) (by kernel_rfl) (fun _ _ _ h => h) (.inl ⟨by kernel_rfl, fun W' hS => by go_simp⟩) q0 ?_
      refine wpAnyD_take (i := 13) (v := .bool true) rfl (by kernel_rfl) (by kernel_rfl) (by kernel_rfl) (by kernel_rfl) (by kernel_rfl) (fun _ _ _ h => h) (.inl ⟨by kernel_rfl, fun W' hS => by go_simp⟩) q0 ?_
      refine wpAnyD_take (i := 14) (v := .bool true) rfl (by kernel_rfl) (by kernel_rfl) (by kernel_rfl) (by kernel_rfl) (by kernel_rfl) (fun _ _ _ h => h) (.inl ⟨by kernel_rfl, fun W' hS => by go_simp⟩) q0 ?_
      refine wpAnyD_one (i := 15) (by kernel_rfl) rfl (by kernel_rfl) ?_
      go_simp
      refine (awake_any w7 (hT1.up h7 h7.size)).mono ?_
      rintro e w8 ⟨rfl, hb⟩
      have h8 : Below W1.heap.size W1 w8 := h7.trans (hb.mono h7.size)
      have q0 : Blk w8 w.heap.size #[.int .i64 n, .int .i64 d, .slice va l.length vcap] 24 ∧ Blk w8 (w.heap.size + 1) #[.int .i64 an, .int .i64 ad, .slice ua rs.length ucap] 27 := ⟨q1.below h8 (by omega), q2.below h8 hs1⟩
      refine ⟨q0, ?_⟩
      refine wpAnyD_take (i := 16) (v := .bool true) rfl (by kernel_rfl) (by kernel_rfl) (by kernel_rfl) (by kernel_rfl) (by kernel_rfl) (fun _ _ _ h => h) (.inl ⟨by kernel_rfl, fun W' hS => by go_simp⟩) q0 ?_
      refine wpAnyD_take (i := 17) (v := .bool true) rfl (by kernel_rfl) (by kernel_rfl) (by kernel_rfl) (by kernel_rfl) (by kernel_rfl) (fun _ _ _ h => h) (.inl ⟨by kernel_rfl, fun W' hS => by go_simp⟩) q0 ?_
      refine wpAnyD_done (by kernel_rfl) ?_ _
      go_wp2_with fail
      go_ret
      exact ⟨rfl, hb1.trans (h8.mono hb1.size)⟩
end Go.Proofs.YtaccaebdmndkiaaDoor
