/- Contracts and plain laws, several texts in one (GlM1, GlM2, GlM3, GlM4, GlM5, GlM6, GlM7). No conditions beyond those stated. -/
import Derived.Test.YthooiobhlbnaoaaGreatGlKt
import Derived.Test.YthooiobhlbnaoaaGreatGlMd
import Derived.Laws.IdiomStrings
import Derived.Test.YthooiobhlbnaoaaGreatGlAwk
import Derived.Deep.CutRange
namespace Go.Proofs.YthooiobhlbnaoaaGreat
open Go.RowKit
set_option linter.unusedVariables false

set_option maxRecDepth 100000 in
set_option maxHeartbeats 1000000 in
theorem gkindof_any (k : Nat) (w : World) (hk : k < 256) : Calls Tryz.prog 85 #[.int .u8 k] w fun e w' => e = .returned (.int .u8 (kindN k)) ∧ Below w.heap.size w w' := by
  have e : kindN k = 1 + ((k % 12 % 6 : Nat) : Int) := rfl
  rw [e]
  go_enter Tryz.func85, Tryz.ntmps85
  go_wp2_with fail
  go_ret
  refine ⟨?_, Below.refl _ _⟩
  show Ending.returned (Value.int .u8 (1 + (k : Int) % 6)) = _
  congr 2
  omega
theorem conv_sub (k : Nat) (w : World) : (convert 68 9 (.slice (some ⟨w.heap.size, 0, none⟩) 2 2)).run Tryz.prog (w.alloc (.cells #[.int .u8 115, .int .u8 (48 + (k : Int) % 12)] 5)) = .ok (S [115, UInt8.ofNat (48 + k % 12)]) (w.alloc (.cells #[.int .u8 115, .int .u8 (48 + (k : Int) % 12)] 5)) := by
  have hk : k % 12 < 12 := Nat.mod_lt _ (by omega)
  have e : ((UInt8.ofNat (48 + k % 12)).toNat : Int) = 48 + (k : Int) % 12 := by rw [UInt8.toNat_ofNat']; omega
  refine run_convert_bytes_back _ 68 9 5 ⟨w.heap.size, 0, none⟩ 2 [115, UInt8.ofNat (48 + k % 12)] Tryz.underlying68 Tryz.underlying5 Tryz.underlying9 fun j hj => ?_
  match j, hj with
  | 0, _ => exact (Blk.new w #[Value.int .u8 115, Value.int .u8 (48 + (k : Int) % 12)] 5).at rfl
  | 1, _ =>
    have := (Blk.new w #[Value.int .u8 115, Value.int .u8 (48 + (k : Int) % 12)] 5).at (i := 1) rfl
    show _ = some (Value.int .u8 ((UInt8.ofNat (48 + k % 12)).toNat : Int))
    rw [e]; exact this
/-- The cells of a reference at today. -/
abbrev refX (nm : Str) (b : Nat) : Xv := ⟨5, nm, 0, false, ⟨none, 0, 0⟩, false, ⟨none, 0, 0⟩, 0, ⟨some ⟨b, 0, none⟩, 1, 1⟩⟩
theorem refX_is {K b : Nat} {nm : Str} {w : World} (h : Blk w b todX.cells 32) (hb : b < K) (hn : nm.length ≤ maxLen) : ExG K w (.mk 5 nm v0 [.mk 2 [] v0 []]) (refX nm b) := by
  have hv : ∀ K w, VlX K w v0 (⟨0, false, .slice none 0 0, false, .slice none 0 0, 0⟩ : Vv) := fun K w => ⟨rfl, rfl, rfl, rfl, Lm.nil _ _, Lm.nil _ _⟩
  rw [ExG]
  refine ⟨rfl, rfl, hn, hv _ _, fun _ => todX, RowsV.mk_cells (Nat.le_refl _) (by simp [maxLen]) hb fun i hi j hj => ?_, ?_, trivial⟩
  · have hi0 : i = 0 := by have : i < 1 := hi; omega
    subst hi0
    have := h.at (i := j) (x := todX.cell j) (by
      have : j = 0 ∨ j = 1 ∨ j = 2 ∨ j = 3 ∨ j = 4 ∨ j = 5 ∨ j = 6 ∨ j = 7 ∨ j = 8 := by omega
      rcases this with rfl | rfl | rfl | rfl | rfl | rfl | rfl | rfl | rfl <;> rfl)
    simpa using this
  · rw [ExG]
    exact ⟨rfl, rfl, by simp, hv _ _, fun _ => todX, RowsV.nil _ _ (by simp [maxLen]) (fun _ => rfl), trivial⟩
set_option maxRecDepth 100000 in
set_option maxHeartbeats 1000000 in
theorem gref2_any (nm : Str) (w : World) : Calls Tryz.prog 41 #[S nm] w fun e w' => ∃ b, e = .returned (⟨5, nm, 0, false, ⟨none, 0, 0⟩, false, ⟨none, 0, 0⟩, 0, ⟨some ⟨b, 0, none⟩, 1, 1⟩⟩ : Xv).agg ∧ Blk w' b todX.cells 32 ∧ w.heap.size < b ∧ Below w.heap.size w w' := by
  obtain ⟨W1, hW1⟩ : ∃ W1, (w.alloc (.cells xz.cells 32)).alloc (.cells todX.cells 32) = W1 := ⟨_, rfl⟩
  have b1 : Below w.heap.size w W1 := by rw [← hW1]; exact ((Below.refl _ _).alloc (Nat.le_refl _) _).alloc (by simp) _
  have q1 : Blk W1 w.heap.size xz.cells 32 := by rw [← hW1]; exact (Blk.new w _ _).alloc _
  have q2 : Blk W1 (w.heap.size + 1) todX.cells 32 := by
    rw [← hW1]
    have := Blk.new (w.alloc (.cells xz.cells 32)) todX.cells 32
    rwa [World.size_alloc] at this
  obtain ⟨B, hB⟩ : ∃ B, w.heap.size = B := ⟨_, rfl⟩
  have HB := Lib.hid hB
  have HW : Hid ((w.alloc (.cells #[.int .u8 0, .string ⟨#[]⟩, .int .u8 0, .bool false, .slice none 0 0, .bool false, .slice none 0 0, .int .i64 0, .slice none 0 0] 32)).alloc (.cells #[.int .u8 2, .string ⟨#[]⟩, .int .u8 0, .bool false, .slice none 0 0, .bool false, .slice none 0 0, .int .i64 0, .slice none 0 0] 32) = W1) := Lib.hid hW1
  rw [hB] at b1 q1 q2 ⊢
  have h1c : ∀ u ∈ (⟨5, nm, 0, false, ⟨none, 0, 0⟩, false, ⟨none, 0, 0⟩, 0, ⟨some ⟨B + 1, 0, none⟩, 1, 1⟩⟩ : Xv).cells, u.oneCell' = true := by simp [Value.oneCell']
  clear hB hW1
  go_enter Tryz.func41, Tryz.ntmps41
  go_upto_region 1 with fail
  go_wp2_with (simp only [HB.out]; rw [HW.out]; refine wpList_store_blk rfl 32 32 (.tmp 2) (.tmp 6) rfl (⟨5, nm, 0, false, ⟨none, 0, 0⟩, false, ⟨none, 0, 0⟩, 0, ⟨some ⟨B + 1, 0, none⟩, 1, 1⟩⟩ : Xv).cells _ B q1 infoExN rfl h1c rfl rfl ?_; intro W2 t1 t2 t3 t4)
  refine bodyPost_ret (results_blk rfl _ _ B _ _ t1 rfl Tryz.underlying32 rfl infoExN) rfl ?_
  exact ⟨B + 1, rfl, q2.kept t3 (by simp), by omega, b1.trans (t2 B (Nat.le_refl _))⟩
set_option maxRecDepth 100000 in
set_option maxHeartbeats 1000000 in
theorem gsubject_any (k : Nat) (w : World) (hk : k < 256) : Calls Tryz.prog 120 #[.int .u8 k] w fun e w' => ∃ x : Xv, e = .returned x.agg ∧ ExG w'.heap.size w' (subG k) x ∧ Below w.heap.size w w' := by
  obtain ⟨W1, hW1⟩ : ∃ W1, w.alloc (.cells xz.cells 32) = W1 := ⟨_, rfl⟩
  have b1 : Below w.heap.size w W1 := by rw [← hW1]; exact (Below.refl _ _).alloc (Nat.le_refl _) _
  have q1 : Blk W1 w.heap.size xz.cells 32 := by rw [← hW1]; exact Blk.new w _ _
  have s1 : W1.heap.size = w.heap.size + 1 := by rw [← hW1]; simp
  obtain ⟨W2, hW2⟩ : ∃ W2, W1.alloc (.cells #[.int .u8 115, .int .u8 (48 + (k : Int) % 12)] 5) = W2 := ⟨_, rfl⟩
  have b2 : Below W1.heap.size W1 W2 := by rw [← hW2]; exact (Below.refl _ _).alloc (Nat.le_refl _) _
  have hcv := conv_sub k W1
  rw [hW2] at hcv
  obtain ⟨nm, hnm⟩ : ∃ nm : Str, [115, UInt8.ofNat (48 + k % 12)] = nm := ⟨_, rfl⟩
  rw [hnm] at hcv
  have hr := gref2_any nm W2
  obtain ⟨B, hB⟩ : ∃ B, w.heap.size = B := ⟨_, rfl⟩
  have HB := Lib.hid hB
  have HW1 : Hid (w.alloc (.cells #[.int .u8 0, .string ⟨#[]⟩, .int .u8 0, .bool false, .slice none 0 0, .bool false, .slice none 0 0, .int .i64 0, .slice none 0 0] 32) = W1) := Lib.hid hW1
  have HW2 := Lib.hid hW2
  have HNM := Lib.hid hnm
  rw [hB] at b1 q1 s1 ⊢
  rw [s1] at hcv
  clear hB hW1 hW2 hnm
  go_enter Tryz.func120, Tryz.ntmps120
  go_upto_region 1 with fail
  simp only [HB.out]
  rw [HW1.out]
  go_wp2_with fail
  rw [HW2.out, hcv]
  go_wp2_with fail
  refine hr.mono ?_
  rintro e w3 ⟨b, rfl, q3, hbn, b3⟩
  have hlt := q3.lt
  have q13 := (q1.below b2 (by omega)).below b3 (by have := b2.size; omega)
  have h1c : ∀ u ∈ (refX nm b).cells, u.oneCell' = true := by simp [Value.oneCell']
  clear hr
  go_wp2_with (refine wpList_store_blk rfl 32 32 (.tmp 2) (.tmp 8) rfl (refX nm b).cells _ B q13 infoExN rfl h1c rfl rfl ?_; intro W4 t1 t2 t3 t4)
  refine bodyPost_ret (results_blk rfl _ _ B _ _ t1 rfl Tryz.underlying32 rfl infoExN) rfl ?_
  have s2 := b2.size
  have s3 := b3.size
  have hx := refX_is (nm := nm) (K := W4.heap.size) (q3.kept t3 (by simp; omega)) (Nat.lt_of_lt_of_le hlt t3.size) (by rw [← HNM.out]; simp [maxLen])
  rw [← HNM.out] at hx ⊢
  exact ⟨_, rfl, hx, b1.trans ((b2.mono (by omega)).trans ((b3.mono (by omega)).trans (t2 B (Nat.le_refl _))))⟩
end Go.Proofs.YthooiobhlbnaoaaGreat
namespace Go.Proofs.YthooiobhlbnaoaaGreat
open Go.RowKit
set_option linter.unusedVariables false

set_option maxRecDepth 100000 in
set_option maxHeartbeats 2000000 in
theorem gvalw_any (kd n : Int) (hk : kd = 1 ∨ kd = 4 ∨ kd = 5 ∨ kd = 6) (w : World) : Calls Tryz.prog 43 #[.int .u8 kd, .int .i64 n] w fun e w' => e = .returned (wholeX kd n).agg ∧ Below w.heap.size w w' := by
  rcases hk with rfl | rfl | rfl | rfl
  · have b1 : Below w.heap.size w (w.alloc (.cells (wholeX 1 n).cells 30)) := (Below.refl _ _).alloc (Nat.le_refl _) _
    have h1c : ∀ u ∈ (wholeX 1 n).cells, u.oneCell' = true := by simp [Value.oneCell']
    go_enter Tryz.func43, Tryz.ntmps43
    go_upto_region 3 with fail
    go_wp2_with (refine wpList_store_new rfl 30 (.tmp 4) (.tmp 17) rfl (wholeX 1 n).cells _ infoValN rfl h1c w.heap.size rfl rfl rfl ?_)
    refine bodyPost_ret (results_blk rfl _ _ w.heap.size _ _ (Blk.new w _ _) rfl Tryz.underlying30 rfl infoValN) rfl ?_
    exact ⟨rfl, b1⟩
  · have b1 : Below w.heap.size w (w.alloc (.cells (wholeX 4 n).cells 30)) := (Below.refl _ _).alloc (Nat.le_refl _) _
    have h1c : ∀ u ∈ (wholeX 4 n).cells, u.oneCell' = true := by simp [Value.oneCell']
    go_enter Tryz.func43, Tryz.ntmps43
    go_upto_region 3 with fail
    go_wp2_with (refine wpList_store_new rfl 30 (.tmp 4) (.tmp 17) rfl (wholeX 4 n).cells _ infoValN rfl h1c w.heap.size rfl rfl rfl ?_)
    refine bodyPost_ret (results_blk rfl _ _ w.heap.size _ _ (Blk.new w _ _) rfl Tryz.underlying30 rfl infoValN) rfl ?_
    exact ⟨rfl, b1⟩
  · have b1 : Below w.heap.size w (w.alloc (.cells (wholeX 5 n).cells 30)) := (Below.refl _ _).alloc (Nat.le_refl _) _
    have h1c : ∀ u ∈ (wholeX 5 n).cells, u.oneCell' = true := by simp [Value.oneCell']
    go_enter Tryz.func43, Tryz.ntmps43
    go_upto_region 3 with fail
    go_wp2_with (refine wpList_store_new rfl 30 (.tmp 4) (.tmp 17) rfl (wholeX 5 n).cells _ infoValN rfl h1c w.heap.size rfl rfl rfl ?_)
    refine bodyPost_ret (results_blk rfl _ _ w.heap.size _ _ (Blk.new w _ _) rfl Tryz.underlying30 rfl infoValN) rfl ?_
    exact ⟨rfl, b1⟩
  · have b1 : Below w.heap.size w (w.alloc (.cells (wholeX 6 n).cells 30)) := (Below.refl _ _).alloc (Nat.le_refl _) _
    have h1c : ∀ u ∈ (wholeX 6 n).cells, u.oneCell' = true := by simp [Value.oneCell']
    go_enter Tryz.func43, Tryz.ntmps43
    go_upto_region 3 with fail
    go_wp2_with (refine wpList_store_new rfl 30 (.tmp 4) (.tmp 17) rfl (wholeX 6 n).cells _ infoValN rfl h1c w.heap.size rfl rfl rfl ?_)
    refine bodyPost_ret (results_blk rfl _ _ w.heap.size _ _ (Blk.new w _ _) rfl Tryz.underlying30 rfl infoValN) rfl ?_
    exact ⟨rfl, b1⟩
set_option maxRecDepth 100000 in
set_option maxHeartbeats 2000000 in
theorem gvalf_any (kd : Int) (hkd : kd = 2 ∨ kd = 3) (n : Nat) (w : World) (hn : n < 65536) : Calls Tryz.prog 43 #[.int .u8 kd, .int .i64 n] w fun e w' => ∃ x : Vv, e = .returned x.agg ∧ VlX w'.heap.size w' ⟨kd, false, if n = 0 then [] else [n], false, [1], 0⟩ x ∧ NewV w.heap.size x.s1 ∧ NewV w.heap.size x.s2 ∧ Below w.heap.size w w' := by
  obtain ⟨W1, hW1⟩ : ∃ W1, w.alloc (.cells vv0.cells 30) = W1 := ⟨_, rfl⟩
  have b1 : Below w.heap.size w W1 := by rw [← hW1]; exact (Below.refl _ _).alloc (Nat.le_refl _) _
  have q1 : Blk W1 w.heap.size vv0.cells 30 := by rw [← hW1]; exact Blk.new w _ _
  have s1 : W1.heap.size = w.heap.size + 1 := by rw [← hW1]; simp
  have hc : Calls Tryz.prog 44 #[.int .i64 n, .int .i64 1] W1 fun e w' => ∃ au nu mu av mv, e = .returned (Fv (.slice au nu mu) (.slice av 1 mv)) ∧ (∀ r, r < W1.heap.size → ∀ w'', w'.grownBy w'' (some r) → Lm w''.heap.size w'' (.slice au nu mu) (if n = 0 then [] else [n]) ∧ Lm w''.heap.size w'' (.slice av 1 mv) [1]) ∧ NewV W1.heap.size (.slice au nu mu) ∧ NewV W1.heap.size (.slice av 1 mv) ∧ Below W1.heap.size W1 w' := by
    by_cases h0 : n = 0
    · subst h0
      refine (kfrac0_any W1).mono ?_
      rintro e w' ⟨v, rfl, ⟨a, c, rfl⟩, hl, hb, hn⟩
      exact ⟨none, 0, 0, a, c, rfl, fun r hr w'' hg => ⟨Lm.nil _ _, lm_put hl hn hr hg hg.size⟩, NewV.nil _ _ _, hn, hb⟩
    · refine (kfrac1_any n W1 (by omega) hn).mono ?_
      rintro e w' ⟨u, v, rfl, ⟨a, c, rfl⟩, ⟨a', c', rfl⟩, hl, hl', hb, hn, hn'⟩
      exact ⟨a, 1, c, a', c', rfl, fun r hr w'' hg => ⟨by rw [if_neg h0]; exact lm_put hl hn hr hg hg.size, lm_put hl' hn' hr hg hg.size⟩, hn, hn', hb⟩
  obtain ⟨L, hL⟩ : ∃ L, (if n = 0 then [] else [n]) = L := ⟨_, rfl⟩
  rw [hL] at hc ⊢
  obtain ⟨B, hB⟩ : ∃ B, w.heap.size = B := ⟨_, rfl⟩
  have HB := Lib.hid hB
  have HW := Lib.hid hW1
  rw [hB] at b1 q1 s1 ⊢
  dsimp only [Vv.cells, vv0] at HW
  clear hB hW1 hL
  rcases hkd with rfl | rfl
  · go_enter Tryz.func43, Tryz.ntmps43
    go_upto_region 1 with fail
    simp only [HB.out]
    rw [HW.out]
    go_wp2_with fail
    refine hc.mono ?_
    rintro e w2 ⟨au, nu, mu, av, mv, rfl, hk, hn1, hn2, hb2⟩
    have q2 := q1.below hb2 (by omega)
    have HK := Lib.hid hk
    have h1c : ∀ u ∈ (⟨2, false, .slice au nu mu, false, .slice av 1 mv, 0⟩ : Vv).cells, u.oneCell' = true := by simp [Value.oneCell']
    clear hc hk
    go_wp2_with (refine wpList_store_blk rfl 30 30 (.tmp 4) (.tmp 14) rfl (⟨2, false, .slice au nu mu, false, .slice av 1 mv, 0⟩ : Vv).cells _ B q2 infoValN rfl h1c rfl rfl ?_; intro W2 t1 t2 t3 t4)
    refine bodyPost_ret (results_blk rfl _ _ B _ _ t1 rfl Tryz.underlying30 rfl infoValN) rfl ?_
    obtain ⟨h1, h2⟩ := HK.out B (by omega) W2 t3
    exact ⟨⟨2, false, .slice au nu mu, false, .slice av 1 mv, 0⟩, rfl, ⟨rfl, rfl, rfl, rfl, h1, h2⟩, hn1.mono (by omega), hn2.mono (by omega), b1.trans ((hb2.mono (by omega)).trans (t2 B (Nat.le_refl _)))⟩
  · go_enter Tryz.func43, Tryz.ntmps43
    go_upto_region 1 with fail
    simp only [HB.out]
    rw [HW.out]
    go_wp2_with fail
    refine hc.mono ?_
    rintro e w2 ⟨au, nu, mu, av, mv, rfl, hk, hn1, hn2, hb2⟩
    have q2 := q1.below hb2 (by omega)
    have HK := Lib.hid hk
    have h1c : ∀ u ∈ (⟨3, false, .slice au nu mu, false, .slice av 1 mv, 0⟩ : Vv).cells, u.oneCell' = true := by simp [Value.oneCell']
    clear hc hk
    go_wp2_with (refine wpList_store_blk rfl 30 30 (.tmp 4) (.tmp 14) rfl (⟨3, false, .slice au nu mu, false, .slice av 1 mv, 0⟩ : Vv).cells _ B q2 infoValN rfl h1c rfl rfl ?_; intro W2 t1 t2 t3 t4)
    refine bodyPost_ret (results_blk rfl _ _ B _ _ t1 rfl Tryz.underlying30 rfl infoValN) rfl ?_
    obtain ⟨h1, h2⟩ := HK.out B (by omega) W2 t3
    exact ⟨⟨3, false, .slice au nu mu, false, .slice av 1 mv, 0⟩, rfl, ⟨rfl, rfl, rfl, rfl, h1, h2⟩, hn1.mono (by omega), hn2.mono (by omega), b1.trans ((hb2.mono (by omega)).trans (t2 B (Nat.le_refl _)))⟩
/-- The law's value. -/
theorem gvalue_any (kd : Int) (hk : 1 ≤ kd ∧ kd ≤ 6) (n : Nat) (hn : n < 65536) (w : World) : Calls Tryz.prog 43 #[.int .u8 kd, .int .i64 n] w fun e w' => ∃ x : Vv, e = .returned x.agg ∧ VlX w'.heap.size w' (wV kd n) x ∧ Below w.heap.size w w' := by
  unfold wV
  by_cases h : kd = 2 ∨ kd = 3
  · rw [if_pos h]
    refine (gvalf_any kd h n w hn).mono ?_
    rintro e w' ⟨x, rfl, hx, _, _, hb⟩
    exact ⟨x, rfl, hx, hb⟩
  · rw [if_neg h]
    refine (gvalw_any kd n (by omega) w).mono ?_
    rintro e w' ⟨rfl, hb⟩
    exact ⟨_, rfl, wholeX_is _ _ _ _, hb⟩
/-- The law's con. -/
theorem gconw_any (K : Nat) (v : Vq) (x : Vv) (w : World) (hx : VlX K w v x) (hK : K ≤ w.heap.size) : Calls Tryz.prog 42 #[x.agg] w fun e w' => ∃ X : Xv, e = .returned X.agg ∧ ExG w'.heap.size w' (conV v) X ∧ Below w.heap.size w w' := by
  obtain ⟨a1, m1, hv1, _⟩ := hx.n.form
  obtain ⟨a2, m2, hv2, _⟩ := hx.d.form
  obtain ⟨kd, f1, s1, f2, s2, i⟩ := x
  dsimp only at hv1 hv2
  subst hv1 hv2
  refine (gcon_any kd f1 f2 ⟨a1, _, m1⟩ ⟨a2, _, m2⟩ i w).mono ?_
  rintro e w' ⟨rfl, hb⟩
  refine ⟨_, rfl, ?_, hb⟩
  unfold conV
  rw [ExG]
  exact ⟨rfl, rfl, by simp, hx.below hb hK (by have := hb.size; omega), fun _ => todX, RowsV.nil _ _ (by simp [maxLen]) (fun _ => rfl), trivial⟩
end Go.Proofs.YthooiobhlbnaoaaGreat
namespace Go.Proofs.YthooiobhlbnaoaaGreat
open Go.RowKit
set_option linter.unusedVariables false

/-- The blocks of V from L on are kept. -/
structure NewW (L : Nat) (V W : World) : Prop where
  size : V.heap.size ≤ W.heap.size
  block : ∀ k, L ≤ k → k < V.heap.size → W.heap[k]? = V.heap[k]?
theorem NewW.refl (L : Nat) (V : World) : NewW L V V := ⟨Nat.le_refl _, fun _ _ _ => rfl⟩
theorem NewW.trans {L : Nat} {V W X : World} (h : NewW L V W) (h' : NewW L W X) : NewW L V X := ⟨Nat.le_trans h.size h'.size, fun k h1 h2 => (h'.block k h1 (Nat.lt_of_lt_of_le h2 h.size)).trans (h.block k h1 h2)⟩
theorem NewW.mono {L L' : Nat} {V W : World} (h : NewW L V W) (hl : L ≤ L') : NewW L' V W := ⟨h.size, fun k h1 h2 => h.block k (Nat.le_trans hl h1) h2⟩
theorem NewW.of {L : Nat} {V W : World} (h : Below V.heap.size V W) : NewW L V W := ⟨h.size, fun k _ h2 => h.block k h2⟩
theorem NewW.put {L r : Nat} {V W : World} (h : V.grownBy W (some r)) (hr : r < L) : NewW L V W := ⟨h.size, fun k h1 h2 => h.block k h2 (fun e => by simp at e; omega)⟩
theorem NewW.cell {L : Nat} {V W : World} (h : NewW L V W) {a : Addr} {v : Value} (ha : L ≤ a.block) (hc : V.cell? a = some v) : W.cell? a = some v := by
  have hlt := World.block_lt_of_cell? _ _ hc
  unfold World.cell? at hc ⊢
  rw [h.block a.block ha hlt]; exact hc
theorem NewW.blk {L b t : Nat} {V W : World} {cs : Array Value} (h : NewW L V W) (hb : L ≤ b) (hq : Blk V b cs t) : Blk W b cs t := (h.block b hb hq.lt).trans hq
/-- An expression that lies in new blocks. -/
def ExN (L : Nat) (V : World) (e : Gx) (x : Xv) : Prop := ∀ W, NewW L V W → ExG W.heap.size W e x
def VlN (L : Nat) (V : World) (v : Vq) (x : Vv) : Prop := ∀ W, NewW L V W → VlX W.heap.size W v x
theorem ExN.now {L : Nat} {V : World} {e : Gx} {x : Xv} (h : ExN L V e x) : ExG V.heap.size V e x := h V (NewW.refl _ _)
theorem ExN.move {L : Nat} {V W : World} {e : Gx} {x : Xv} (h : ExN L V e x) (hw : NewW L V W) : ExN L W e x := fun X hx => h X (hw.trans hx)
theorem ExN.mono {L L' : Nat} {V : World} {e : Gx} {x : Xv} (h : ExN L V e x) (hl : L' ≤ L) : ExN L' V e x := fun X hx => h X (hx.mono hl)
theorem VlN.move {L : Nat} {V W : World} {v : Vq} {x : Vv} (h : VlN L V v x) (hw : NewW L V W) : VlN L W v x := fun X hx => h X (hw.trans hx)
theorem lm_newW {K L : Nat} {V W : World} {v : Value} {l : List Nat} (h : Lm K V v l) (hv : NewV L v) (hw : NewW L V W) (hK : K ≤ V.heap.size) : Lm W.heap.size W v l := by
  obtain ⟨a, cap, rfl, hn, hm, hz, hc⟩ := h.1
  have hs := hw.size
  refine ⟨⟨a, cap, rfl, hn, hm, hz, fun i hi => ?_⟩, h.2⟩
  obtain ⟨b, o, he, hbK, hcell⟩ := hc i hi
  subst he
  exact ⟨b, o, rfl, by omega, fun j hj => hw.cell (hv b o _ _ rfl) (hcell j hj)⟩
theorem exn_two {L V b} {o : Int} {e1 e2 : Gx} {x y : Xv} (hq : Blk V b (cells2 x y) 32) (hb : L ≤ b) (h1 : ExN L V e1 x) (h2 : ExN L V e2 y) : ExN L V (.mk o [] v0 [e1, e2]) (opX o ⟨some ⟨b, 0, none⟩, 2, 2⟩) := fun W hw => exg_two (hw.blk hb hq) (hw.blk hb hq).lt (h1 W hw) (h2 W hw) rfl
theorem exn_one {L V b} {o : Int} {e1 : Gx} {x : Xv} (hq : Blk V b x.cells 32) (hb : L ≤ b) (h1 : ExN L V e1 x) : ExN L V (.mk o [] v0 [e1]) (opX o ⟨some ⟨b, 0, none⟩, 1, 1⟩) := fun W hw => exg_one (hw.blk hb hq) (hw.blk hb hq).lt (h1 W hw) (by simp [maxLen])
/-- Three expressions' cells. -/
abbrev cells3 (x y z : Xv) : Array Value := #[.int .u8 x.op, S x.nm, .int .u8 x.kd, .bool x.b3, .slice x.s4.a x.s4.n x.s4.m, .bool x.b5, .slice x.s6.a x.s6.n x.s6.m, .int .i64 x.i7, .slice x.s8.a x.s8.n x.s8.m, .int .u8 y.op, S y.nm, .int .u8 y.kd, .bool y.b3, .slice y.s4.a y.s4.n y.s4.m, .bool y.b5, .slice y.s6.a y.s6.n y.s6.m, .int .i64 y.i7, .slice y.s8.a y.s8.n y.s8.m,
  .int .u8 z.op, S z.nm, .int .u8 z.kd, .bool z.b3, .slice z.s4.a z.s4.n z.s4.m, .bool z.b5, .slice z.s6.a z.s6.n z.s6.m, .int .i64 z.i7, .slice z.s8.a z.s8.n z.s8.m]
def g3x (x y z : Xv) (i : Nat) : Xv := if i = 0 then x else if i = 1 then y else z
theorem exn_three {L V b} {o : Int} {e1 e2 e3 : Gx} {x y z : Xv} (hq : Blk V b (cells3 x y z) 32) (hb : L ≤ b) (h1 : ExN L V e1 x) (h2 : ExN L V e2 y) (h3 : ExN L V e3 z) : ExN L V (.mk o [] v0 [e1, e2, e3]) (opX o ⟨some ⟨b, 0, none⟩, 3, 3⟩) := fun W hw => by
  have hq' := hw.blk hb hq
  refine ExG.make rfl rfl (by simp [Gx.nm, maxLen]) (vv0_is _ W) (g3x x y z) (rows_ex hq' hq'.lt _ (fun i hi j hj => ?_) (by simp [maxLen])) fun j a ha => ?_
  · rcases i with _ | _ | _ | i
    · rcases j with _ | _ | _ | _ | _ | _ | _ | _ | _ | j <;> first | rfl | omega
    · rcases j with _ | _ | _ | _ | _ | _ | _ | _ | _ | j <;> first | rfl | omega
    · rcases j with _ | _ | _ | _ | _ | _ | _ | _ | _ | j <;> first | rfl | omega
    · have hi3 : i + 1 + 1 + 1 < 3 := hi
      omega
  · rcases j with _ | _ | _ | j
    · cases ha; exact h1 W hw
    · cases ha; exact h2 W hw
    · cases ha; exact h3 W hw
    · cases ha
theorem exn_con {L : Nat} {V : World} {v : Vq} {kd : Int} {f1 f2 : Bool} {s1 s2 : Sl} {i : Int} (h : VlN L V v ⟨kd, f1, s1.val, f2, s2.val, i⟩) : ExN L V (conV v) (conX kd f1 s1 f2 s2 i) := fun W hw => ExG.make rfl rfl (by simp [Gx.nm, conV, maxLen]) (h W hw) (fun _ => xz) (RowsV.nil none 0 (Nat.zero_le _) (fun _ => rfl)) fun j a ha => by cases ha

/-- The law's value. -/
theorem gvalueN_any (kd : Int) (hk : 1 ≤ kd ∧ kd ≤ 6) (n : Nat) (hn : n < 65536) (w : World) : Calls Tryz.prog 43 #[.int .u8 kd, .int .i64 n] w fun e w' => ∃ (k i : Int) (f1 f2 : Bool) (s1 s2 : Sl), e = .returned (⟨k, f1, s1.val, f2, s2.val, i⟩ : Vv).agg ∧ VlN w.heap.size w' (wV kd n) ⟨k, f1, s1.val, f2, s2.val, i⟩ ∧ Below w.heap.size w w' := by
  unfold wV
  by_cases h : kd = 2 ∨ kd = 3
  · rw [if_pos h]
    refine (gvalf_any kd h n w hn).mono ?_
    rintro e w' ⟨x, rfl, hx, h1, h2, hb⟩
    obtain ⟨a1, m1, hv1, _⟩ := hx.n.form
    obtain ⟨a2, m2, hv2, _⟩ := hx.d.form
    obtain ⟨k, f1, s1, f2, s2, i⟩ := x
    dsimp only at hv1 hv2
    subst hv1 hv2
    exact ⟨k, i, f1, f2, ⟨a1, _, m1⟩, ⟨a2, _, m2⟩, rfl, fun W hw => ⟨hx.kd, hx.b1, hx.b2, hx.i, lm_newW hx.n h1 hw (Nat.le_refl _), lm_newW hx.d h2 hw (Nat.le_refl _)⟩, hb⟩
  · rw [if_neg h]
    refine (gvalw_any kd n (by omega) w).mono ?_
    rintro e w' ⟨rfl, hb⟩
    exact ⟨kd, n, false, false, ⟨none, 0, 0⟩, ⟨none, 0, 0⟩, rfl, fun W hw => wholeX_is _ _ _ _, hb⟩
theorem refX_new {L b : Nat} {nm : Str} {V : World} (h : Blk V b todX.cells 32) (hb : L ≤ b) (hn : nm.length ≤ maxLen) : ExN L V (.mk 5 nm v0 [.mk 2 [] v0 []]) (refX nm b) := fun W hw => refX_is (hw.blk hb h) (hw.blk hb h).lt hn

/-! ### the numbers -/
/-- A row of bytes. -/
def U8s (K : Nat) (w : World) (v : Value) (l : List Nat) : Prop := RowsV 1 (fun i _ => .int .u8 ((l[i]?.getD 0 : Nat) : Int)) K w v l.length
theorem U8s.below {K K' B : Nat} {w w' : World} {v : Value} {l : List Nat} (h : U8s K w v l) (hb : Below B w w') (hB : K ≤ B) (hK : K ≤ K') : U8s K' w' v l := RowsV.below h hb hB hK
theorem U8s.grow {K K' : Nat} {w : World} {v : Value} {l : List Nat} (h : U8s K w v l) (hK : K ≤ K') : U8s K' w v l := RowsV.below h (Below.refl K w) (Nat.le_refl _) hK
theorem U8s.nil (K : Nat) (w : World) : U8s K w (.slice none 0 0) [] := RowsV.nil none 0 (Nat.zero_le _) (fun _ => rfl)
theorem U8s.head {K : Nat} {w : World} {v : Value} {x : Nat} {r : List Nat} (h : U8s K w v (x :: r)) : ∃ b o cap, v = .slice (some ⟨b, o, none⟩) (r.length + 1) cap ∧ r.length + 1 ≤ cap ∧ cap ≤ maxLen ∧ b < K ∧ w.cell? ⟨b, o, none⟩ = some (.int .u8 (x : Int)) ∧ U8s K w (.slice (if cap = 1 then some ⟨b, o, none⟩ else some ⟨b, o + 1, none⟩) r.length (cap - 1)) r := by
  obtain ⟨b, o, cap, hv, h1, h2, h3, h4⟩ := RowsV.pos h (by simp)
  have hl : (x :: r).length = r.length + 1 := rfl
  rw [hl] at hv h1 h4
  refine ⟨b, o, cap, hv, h1, h2, h3, ?_, ?_⟩
  · have := h4 0 (by omega) 0 (by omega)
    simp only [Nat.zero_mul, Nat.add_zero] at this
    rw [this]; rfl
  · by_cases hc : cap = 1
    · rw [if_pos hc]
      have h0 : r.length = 0 := by omega
      unfold U8s
      rw [h0]
      exact RowsV.nil _ _ (by omega) (fun e => by cases e)
    · rw [if_neg hc]
      refine RowsV.mk_cells (by omega) (by omega) h3 fun i hi j hj => ?_
      obtain rfl : j = 0 := by omega
      have := h4 (i + 1) (by omega) 0 (by omega)
      rw [show o + ((i + 1) * 1 + 0) = o + 1 + (i * 1 + 0) by omega] at this
      rw [this]; rfl
end Go.Proofs.YthooiobhlbnaoaaGreat
namespace Go.Proofs.YthooiobhlbnaoaaGreat
open Go.RowKit
set_option linter.unusedVariables false

set_option maxRecDepth 100000 in
set_option maxHeartbeats 1000000 in
theorem gsubjectN_any (k : Nat) (w : World) (hk : k < 256) : Calls Tryz.prog 120 #[.int .u8 k] w fun e w' => ∃ x : Xv, e = .returned x.agg ∧ ExN w.heap.size w' (subG k) x ∧ Below w.heap.size w w' := by
  obtain ⟨W1, hW1⟩ : ∃ W1, w.alloc (.cells xz.cells 32) = W1 := ⟨_, rfl⟩
  have b1 : Below w.heap.size w W1 := by rw [← hW1]; exact (Below.refl _ _).alloc (Nat.le_refl _) _
  have q1 : Blk W1 w.heap.size xz.cells 32 := by rw [← hW1]; exact Blk.new w _ _
  have s1 : W1.heap.size = w.heap.size + 1 := by rw [← hW1]; simp
  obtain ⟨W2, hW2⟩ : ∃ W2, W1.alloc (.cells #[.int .u8 115, .int .u8 (48 + (k : Int) % 12)] 5) = W2 := ⟨_, rfl⟩
  have b2 : Below W1.heap.size W1 W2 := by rw [← hW2]; exact (Below.refl _ _).alloc (Nat.le_refl _) _
  have hcv := conv_sub k W1
  rw [hW2] at hcv
  obtain ⟨nm, hnm⟩ : ∃ nm : Str, [115, UInt8.ofNat (48 + k % 12)] = nm := ⟨_, rfl⟩
  rw [hnm] at hcv
  have hr := gref2_any nm W2
  obtain ⟨B, hB⟩ : ∃ B, w.heap.size = B := ⟨_, rfl⟩
  have HB := Lib.hid hB
  have HW1 : Hid (w.alloc (.cells #[.int .u8 0, .string ⟨#[]⟩, .int .u8 0, .bool false, .slice none 0 0, .bool false, .slice none 0 0, .int .i64 0, .slice none 0 0] 32) = W1) := Lib.hid hW1
  have HW2 := Lib.hid hW2
  have HNM := Lib.hid hnm
  rw [hB] at b1 q1 s1 ⊢
  rw [s1] at hcv
  clear hB hW1 hW2 hnm
  go_enter Tryz.func120, Tryz.ntmps120
  go_upto_region 1 with fail
  simp only [HB.out]
  rw [HW1.out]
  go_wp2_with fail
  rw [HW2.out, hcv]
  go_wp2_with fail
  refine hr.mono ?_
  rintro e w3 ⟨b, rfl, q3, hbn, b3⟩
  have hlt := q3.lt
  have q13 := (q1.below b2 (by omega)).below b3 (by have := b2.size; omega)
  have h1c : ∀ u ∈ (refX nm b).cells, u.oneCell' = true := by simp [Value.oneCell']
  clear hr
  go_wp2_with (refine wpList_store_blk rfl 32 32 (.tmp 2) (.tmp 8) rfl (refX nm b).cells _ B q13 infoExN rfl h1c rfl rfl ?_; intro W4 t1 t2 t3 t4)
  refine bodyPost_ret (results_blk rfl _ _ B _ _ t1 rfl Tryz.underlying32 rfl infoExN) rfl ?_
  have s2 := b2.size
  have s3 := b3.size
  have hx := refX_new (nm := nm) (L := B) (q3.kept t3 (by simp; omega)) (by omega) (by rw [← HNM.out]; simp [maxLen])
  rw [← HNM.out] at hx ⊢
  exact ⟨_, rfl, hx, b1.trans ((b2.mono (by omega)).trans ((b3.mono (by omega)).trans (t2 B (Nat.le_refl _))))⟩
/-- A struct and a value that a function hands back. -/
theorem results_blk2 {fn : Func} {t s : Tmp} {ty : TypeId} (h : fn.results = #[.cell t ty, .tmp s]) (tmps : Array Value) (w : World) (b : Nat) (cs : Array Value) (d : TypeDesc) (hc : Blk w b cs ty) (ht : tmps.getD t undef = .pointer (some ⟨b, 0, none⟩))
    (hu : Tryz.prog.underlying ty = some d) (hd : d.isRow = true) (hi : (Tryz.prog.info? ty).map (fun i => i.size) = some cs.size) : (results fn tmps).run Tryz.prog w = .ok (.tuple #[.agg cs, tmps.getD s undef]) w := by
  have hl := run_loadVar_mid (P := Tryz.prog) w b 0 ty cs.toList d hc.range hu hd (by rw [hi]; simp)
  have ht' : tmps[t]?.getD undef = .pointer (some ⟨b, 0, none⟩) := by simpa using ht
  simp [results, h, ht', asAddr, hl]
end Go.Proofs.YthooiobhlbnaoaaGreat
namespace Go.Proofs.YthooiobhlbnaoaaGreat
open Go.RowKit
set_option linter.unusedVariables false

theorem leafM_sub (x : Nat) (r : List Nat) : ∀ y ∈ (leafM x r).2, y ∈ r := by
  unfold leafM
  split
  · exact fun y h => h
  · exact fun y h => List.mem_of_mem_tail h
theorem madeM_sub : ∀ (d : Nat) (l : List Nat), ∀ y ∈ (madeM d l).2, y ∈ l
  | d, [] => by cases d <;> (intro y h; cases h)
  | 0, x :: r => fun y h => List.mem_cons_of_mem _ (leafM_sub x r y h)
  | d + 1, x :: r => by
    intro y h
    refine List.mem_cons_of_mem _ ?_
    rw [madeM] at h
    split at h
    · split at h
      · exact madeM_sub d r y h
      · split at h
        · exact madeM_sub d r y (madeM_sub d _ y (madeM_sub d _ y h))
        · exact madeM_sub d r y (madeM_sub d _ y h)
    · exact leafM_sub x r y h
theorem partsG_pos (e : Gx) : 1 ≤ e.parts := by cases e; rw [Gx.parts]; omega

set_option maxRecDepth 100000 in
set_option maxHeartbeats 1000000 in
theorem gmade_nil (K d : Nat) (v : Value) (w : World) (hu : U8s K w v []) : Calls Tryz.prog 84 #[v, .int .i64 d] w fun e w' => ∃ X v', e = .returned (.tuple #[X.agg, v']) ∧ ExN w.heap.size w' truG X ∧ U8s K w' v' [] ∧ Below w.heap.size w w' := by
  obtain ⟨a, cap, rfl, _⟩ := RowsV.form hu
  obtain ⟨W1, hW1⟩ : ∃ W1, w.alloc (.cells xz.cells 32) = W1 := ⟨_, rfl⟩
  have b1 : Below w.heap.size w W1 := by rw [← hW1]; exact (Below.refl _ _).alloc (Nat.le_refl _) _
  have q1 : Blk W1 w.heap.size xz.cells 32 := by rw [← hW1]; exact Blk.new w _ _
  have s1 : W1.heap.size = w.heap.size + 1 := by rw [← hW1]; simp
  obtain ⟨B, hB⟩ : ∃ B, w.heap.size = B := ⟨_, rfl⟩
  have HB := Lib.hid hB
  have HW1 : Hid (w.alloc (.cells #[.int .u8 0, .string ⟨#[]⟩, .int .u8 0, .bool false, .slice none 0 0, .bool false, .slice none 0 0, .int .i64 0, .slice none 0 0] 32) = W1) := Lib.hid hW1
  rw [hB] at b1 q1 s1 ⊢
  have hcon := gcon_any 1 false false ⟨none, 0, 0⟩ ⟨none, 0, 0⟩ 1 W1
  have h1c : ∀ u ∈ (conX 1 false ⟨none, 0, 0⟩ false ⟨none, 0, 0⟩ 1).cells, u.oneCell' = true := by simp [Value.oneCell']
  clear hB hW1 hu
  go_enter Tryz.func84, Tryz.ntmps84
  go_upto_region 1 with fail
  simp only [HB.out]
  rw [HW1.out]
  go_wp2_with fail
  refine hcon.mono ?_
  rintro e w2 ⟨rfl, hb2⟩
  have q2 := q1.below hb2 (by omega)
  clear hcon
  go_wp2_with (refine wpList_store_blk rfl 32 32 (.tmp 4) (.tmp 19) rfl (conX 1 false ⟨none, 0, 0⟩ false ⟨none, 0, 0⟩ 1).cells _ B q2 infoExN rfl h1c rfl rfl ?_; intro W2 t1 t2 t3 t4)
  refine bodyPost_ret (results_blk2 rfl _ _ B _ _ t1 rfl Tryz.underlying32 rfl infoExN) rfl ?_
  exact ⟨_, _, rfl, exn_con (v := wholeV 1 1) fun W hw => wholeX_is _ _ _ _, U8s.nil _ _, b1.trans ((hb2.mono (by omega)).trans (t2 B (Nat.le_refl _)))⟩

set_option maxRecDepth 100000 in
set_option maxHeartbeats 1000000 in
theorem gmade_leaf (K d x : Nat) (r : List Nat) (v : Value) (w : World) (hu : U8s K w v (x :: r)) (hx : ∀ y ∈ x :: r, y < 256) (hK : K ≤ w.heap.size) (hlen : r.length ≤ 2 ^ 40) (hd : d = 0 ∨ x % 3 ≠ 0) (hd6 : d ≤ 6) : Calls Tryz.prog 84 #[v, .int .i64 d] w fun e w' => ∃ X v', e = .returned (.tuple #[X.agg, v']) ∧ ExN w.heap.size w' (leafM x r).1 X ∧ U8s K w' v' (leafM x r).2 ∧ Below w.heap.size w w' := by
  obtain ⟨Rs, hRs⟩ : ∃ Rs, leafM x r = Rs := ⟨_, rfl⟩
  have HLM := Lib.hid hRs
  rw [hRs]
  clear hRs
  obtain ⟨b, o, cap, rfl, hc1, hc2, hbK, hcell, hrest⟩ := hu.head
  unfold maxLen at hc2
  obtain ⟨W1, hW1⟩ : ∃ W1, w.alloc (.cells xz.cells 32) = W1 := ⟨_, rfl⟩
  have b1 : Below w.heap.size w W1 := by rw [← hW1]; exact (Below.refl _ _).alloc (Nat.le_refl _) _
  have q1 : Blk W1 w.heap.size xz.cells 32 := by rw [← hW1]; exact Blk.new w _ _
  have s1 : W1.heap.size = w.heap.size + 1 := by rw [← hW1]; simp
  obtain ⟨B, hB⟩ : ∃ B, w.heap.size = B := ⟨_, rfl⟩
  have HB := Lib.hid hB
  have HW1 : Hid (w.alloc (.cells #[.int .u8 0, .string ⟨#[]⟩, .int .u8 0, .bool false, .slice none 0 0, .bool false, .slice none 0 0, .int .i64 0, .slice none 0 0] 32) = W1) := Lib.hid hW1
  rw [hB] at b1 q1 s1 hK ⊢
  have n0 : W1.cell? ⟨b, o, none⟩ = some (.int .u8 (x : Int)) := (b1.cell (p := ⟨b, o, none⟩) (by show b < B; omega)).trans hcell
  have hu1 := hrest.below (K' := K) b1 hK (Nat.le_refl _)
  have hx0 : x < 256 := hx x (List.mem_cons_self ..)
  have hxr : ∀ y ∈ r, y < 256 := fun y h => hx y (List.mem_cons_of_mem _ h)
  have hin : (0 : Int) < (r.length : Int) + 1 := by omega
  clear hB hW1 hu hcell hrest hx
  go_enter Tryz.func84, Tryz.ntmps84
  go_upto_region 1 with fail
  simp only [HB.out]
  rw [HW1.out]
  go_upto_region 3 with fail
  go_quiet (fail)
  generalize (if cap = 1 then some (⟨b, o, none⟩ : Addr) else some ⟨b, o + 1, none⟩) = ra at hu1 ⊢
  generalize cap - 1 = c1 at hu1 ⊢
  generalize hWq : W1.drewN _ = Wq
  have qq : Blk Wq B xz.cells 32 := by rw [← hWq]; exact q1
  have bq : Below B w Wq := by rw [← hWq]; exact below_drewN2 b1 _
  have uq : U8s K Wq (.slice ra r.length c1) r := by rw [← hWq]; exact hu1
  have sq : Wq.heap.size = B + 1 := by rw [← hWq]; exact s1
  have HUQ := Lib.hid uq
  have HBQ := Lib.hid bq
  clear q1 b1 hu1 s1 hWq n0 HW1 uq bq
  go_upto_region 4 with fail
  go_cut [31] from 25 to 31 (fun s wx => s = .bool false ∧ Wq = wx)
  case first =>
    by_cases h0 : d = 0
    · subst h0
      go_wp2_with fail
      all_goals go_meet
      all_goals exact ⟨rfl, rfl⟩
    · have hd1 : (0 : Int) < (d : Int) := by omega
      have h3 : ¬ (x : Int) % 3 = 0 := by omega
      have h4 : ((x : Int) % 3 == 0) = false := by simpa using h3
      go_wp2_with fail
      all_goals go_meet
      all_goals exact ⟨rfl, rfl⟩
  case rest =>
  obtain ⟨rfl, rfl⟩ := hcut
  obtain ⟨k, hk⟩ : ∃ k, x / 3 = k := ⟨_, rfl⟩
  have hki : (x : Int) / 3 = (k : Int) := by omega
  have hk256 : k < 256 := by omega
  have hsub := gsubjectN_any k Wq hk256
  clear hd
  go_wp2_with fail
  refine hsub.mono ?_
  rintro e w2 ⟨Xs, rfl, hxs, hb2⟩
  have hb2s := hb2.size
  have q2 := qq.below hb2 (by omega)
  have HU2 := Lib.hid (HUQ.out.below (K' := K) hb2 (by omega) (Nat.le_refl _))
  have HB2 := Lib.hid (HBQ.out.trans (hb2.mono (by omega)))
  have h1c : ∀ u ∈ Xs.cells, u.oneCell' = true := by simp [Value.oneCell']
  clear hsub qq HUQ HBQ
  go_upto_region 16 with (refine wpList_store_new rfl 32 (.tmp 12) (.tmp 80) rfl Xs.cells _ infoExN rfl h1c w2.heap.size rfl rfl rfl ?_)
  obtain ⟨W3, hW3⟩ : ∃ W3, w2.alloc (.cells Xs.cells 32) = W3 := ⟨_, rfl⟩
  have b3 : Below w2.heap.size w2 W3 := by rw [← hW3]; exact (Below.refl _ _).alloc (Nat.le_refl _) _
  obtain ⟨S, hS⟩ : ∃ S, w2.heap.size = S := ⟨_, rfl⟩
  have qs : Blk W3 S Xs.cells 32 := by rw [← hW3, ← hS]; exact Blk.new w2 _ _
  have s3 : W3.heap.size = S + 1 := by rw [← hW3, ← hS]; simp
  have sS : B + 1 ≤ S := by omega
  have q3 := q2.below b3 (by omega)
  have HU3 := Lib.hid (HU2.out.below (K' := K) b3 (by omega) (Nat.le_refl _))
  have HB3 := Lib.hid (HB2.out.trans (b3.mono (by omega)))
  have HX3 := Lib.hid ((hxs.mono (by omega : B + 1 ≤ Wq.heap.size)).move (NewW.of b3))
  have HW3 := Lib.hid hW3
  have HS := Lib.hid hS
  clear q2 HU2 HB2 b3 hxs hW3 hb2s hb2 hS
  simp only [HS.out]
  rw [HW3.out]
  have hkf := gkindof_any k W3 hk256
  by_cases hkk : kindN k = 1
  · rw [hkk] at hkf
    go_wp2_with fail
    refine hkf.mono ?_
    rintro e w4 ⟨rfl, hb4⟩
    have hs4 := hb4.size
    have q4 := q3.below hb4 (by omega)
    have qs4 := qs.below hb4 (by omega)
    have hrg := qs4.range
    have HU4 := Lib.hid (HU3.out.below (K' := K) hb4 (by omega) (Nat.le_refl _))
    have HB4 := Lib.hid (HB3.out.trans (hb4.mono (by omega)))
    have HX4 := Lib.hid (HX3.out.move (NewW.of hb4))
    have HLE : Hid (Rs = (subG k, r)) := Lib.hid (by rw [← HLM.out]; unfold leafM; rw [hk, if_pos hkk])
    clear hkf q3 qs HU3 HB3 HX3 hb4
    go_wp2_with (first
      | (refine wpList_load_mid rfl 32 (.tmp 12) rfl S 0 rfl Xs.cells.toList _ hrg Tryz.underlying32 rfl infoExN ?_)
      | (refine wpList_store_blk rfl 32 32 (.tmp 4) (.tmp 84) rfl Xs.cells _ B q4 infoExN rfl h1c rfl rfl ?_; intro W5 t1 t2 t3 t4))
    refine bodyPost_ret (results_blk2 rfl _ _ B _ _ t1 rfl Tryz.underlying32 rfl infoExN) rfl ?_
    rw [HLE.out]
    exact ⟨Xs, _, rfl, (HX4.out.move (NewW.put t3 (by omega))).mono (by omega), HU4.out.below (t2 B (Nat.le_refl _)) (by omega) (Nat.le_refl _) |>.grow (by omega), HB4.out.trans (t2 B (Nat.le_refl _))⟩
  · have hkn : (kindN k == 1) = false := by simpa using hkk
    go_wp2_with fail
    refine hkf.mono ?_
    rintro e w4 ⟨rfl, hb4⟩
    have hs4 := hb4.size
    have q4 := q3.below hb4 (by omega)
    have qs4 := qs.below hb4 (by omega)
    have hu4 := HU3.out.below (K' := K) hb4 (by omega) (Nat.le_refl _)
    have HB4 := Lib.hid (HB3.out.trans (hb4.mono (by omega)))
    have HX4 := Lib.hid (HX3.out.move (NewW.of hb4))
    clear hkf q3 qs HU3 HB3 HX3 hb4
    have sw4 : S + 1 ≤ w4.heap.size := by omega
    have HU4 := Lib.hid hu4
    have HQ4 := Lib.hid q4
    have HQS4 := Lib.hid qs4
    clear hu4 q4 qs4
    go_upto_region 19 with fail
    cases r with
    | nil =>
      have HRR : Hid (Rs = (tstG x 0, [])) := Lib.hid (by rw [← HLM.out]; unfold leafM; rw [hk, if_neg hkk]; rfl)
      have hn8 : 0 < 8 := by omega
      have hval : ∀ W : World, Calls Tryz.prog 43 #[.int .u8 (kindN k), .int .i64 0] W fun e w' => ∃ (k' i : Int) (f1 f2 : Bool) (s1 s2 : Sl), e = .returned (⟨k', f1, s1.val, f2, s2.val, i⟩ : Vv).agg ∧ VlN W.heap.size w' (wV (kindN k) 0) ⟨k', f1, s1.val, f2, s2.val, i⟩ ∧ Below W.heap.size W w' := gvalueN_any (kindN k) (kindN_range k) 0 (by omega)
      have HVAL := Lib.hid hval
      clear hval
      go_upto_region 21 with fail
      have hkf := gkindof_any k w4 hk256
      go_wp2_with fail
      refine hkf.mono ?_
      rintro e w5 ⟨rfl, hb5⟩
      have hs5 := hb5.size
      go_wp2_with fail
      refine (HVAL.out w5).mono ?_
      rintro e w6 ⟨kk, ii, f1, f2, s1, s2, rfl, hvl, hb6⟩
      have hs6 := hb6.size
      have hcon := gcon_any kk f1 f2 s1 s2 ii w6
      go_wp2_with fail
      refine hcon.mono ?_
      rintro e w7 ⟨rfl, hb7⟩
      have hs7 := hb7.size
      clear hkf hcon
      have hcn := exn_con (v := wV (kindN k) 0) (hvl.move (NewW.of hb7))
      obtain ⟨a1, n1, m1⟩ := s1
      obtain ⟨a2, n2, m2⟩ := s2
      have h1c2 : ∀ u ∈ (conX kk f1 ⟨a1, n1, m1⟩ f2 ⟨a2, n2, m2⟩ ii).cells, u.oneCell' = true := by simp [Value.oneCell']
      go_upto_region 22 with (refine wpList_store_new rfl 32 (.tmp 14) (.tmp 100) rfl (conX kk f1 ⟨a1, n1, m1⟩ f2 ⟨a2, n2, m2⟩ ii).cells _ infoExN rfl h1c2 w7.heap.size rfl rfl rfl ?_)
      obtain ⟨W8, hW8⟩ : ∃ W8, w7.alloc (.cells (conX kk f1 ⟨a1, n1, m1⟩ f2 ⟨a2, n2, m2⟩ ii).cells 32) = W8 := ⟨_, rfl⟩
      obtain ⟨T, hT⟩ : ∃ T, w7.heap.size = T := ⟨_, rfl⟩
      have b78 : Below w7.heap.size w7 W8 := by rw [← hW8]; exact (Below.refl _ _).alloc (Nat.le_refl _) _
      have b48 : Below w4.heap.size w4 W8 := hb5.trans ((hb6.mono (by omega)).trans ((hb7.mono (by omega)).trans (b78.mono (by omega))))
      have q8 := HQ4.out.below b48 (by omega)
      have qs8 := HQS4.out.below b48 (by omega)
      have qt8 : Blk W8 T (conX kk f1 ⟨a1, n1, m1⟩ f2 ⟨a2, n2, m2⟩ ii).cells 32 := by rw [← hW8, ← hT]; exact Blk.new w7 _ _
      have HU8 := Lib.hid (HU4.out.below (K' := K) b48 (by omega) (Nat.le_refl _))
      have HB8 := Lib.hid (HB4.out.trans (b48.mono (by omega)))
      have HX8 := Lib.hid (HX4.out.move (NewW.of b48))
      have HC8 := Lib.hid ((hcn.move (NewW.of b78)).mono (by omega : B + 1 ≤ w5.heap.size))
      have s8 : W8.heap.size = T + 1 := by rw [← hW8, ← hT]; simp
      have sT : S + 1 ≤ T := by omega
      have HW8 := Lib.hid hW8
      have HT := Lib.hid hT
      simp only [HT.out]
      rw [HW8.out]
      clear hvl hcn hb5 hb6 hb7 b78 b48 HU4 HB4 HX4 HQ4 HQS4 hW8 hT hs5 hs6 hs7
      have hrs := qs8.range
      have hrt := qt8.range
      obtain ⟨m, hm⟩ : ∃ m, x % 4 = m := ⟨_, rfl⟩
      have hmi : (x : Int) % 4 = (m : Int) := by omega
      have hm4 : m = 0 ∨ m = 1 ∨ m = 2 ∨ m = 3 := by omega
      rcases hm4 with rfl | rfl | rfl | rfl
      · have HTS : Hid (Rs = (Gx.mk 13 [] v0 [(subG k), (conV (wV (kindN k) 0))], [])) := Lib.hid (by rw [HRR.out]; unfold tstG; rw [hk, if_pos (by omega), if_pos (by omega)])
        obtain ⟨W9, hW9⟩ : ∃ W9, W8.alloc (.cells (cells2 Xs (conX kk f1 ⟨a1, n1, m1⟩ f2 ⟨a2, n2, m2⟩ ii)) 32) = W9 := ⟨_, rfl⟩
        have b89 : Below W8.heap.size W8 W9 := by rw [← hW9]; exact (Below.refl _ _).alloc (Nat.le_refl _) _
        have q9 : Blk W9 (T + 1) (cells2 Xs (conX kk f1 ⟨a1, n1, m1⟩ f2 ⟨a2, n2, m2⟩ ii)) 32 := by
          have := Blk.new W8 (cells2 Xs (conX kk f1 ⟨a1, n1, m1⟩ f2 ⟨a2, n2, m2⟩ ii)) 32
          rwa [hW9, s8] at this
        have s9 : W9.heap.size = T + 2 := by rw [← hW9, World.size_alloc, s8]
        have hop := gop_any 13 ⟨some ⟨T + 1, 0, none⟩, 2, 2⟩ W9
        have HW9 := Lib.hid hW9
        dsimp only [cells2, conX] at HW9
        clear hW9 hm
        go_wp2_with (first
          | (refine wpList_load_mid rfl 32 (.tmp 12) rfl S 0 rfl Xs.cells.toList _ hrs Tryz.underlying32 rfl infoExN ?_)
          | (refine wpList_load_mid rfl 32 (.tmp 14) rfl T 0 rfl (conX kk f1 ⟨a1, n1, m1⟩ f2 ⟨a2, n2, m2⟩ ii).cells.toList _ hrt Tryz.underlying32 rfl infoExN ?_))
        rw [HW9.out]
        refine hop.mono ?_
        rintro e w10 ⟨rfl, hb10⟩
        have q10 := (q8.below b89 (by omega)).below hb10 (by omega)
        have h1o : ∀ u ∈ (opX 13 ⟨some ⟨T + 1, 0, none⟩, 2, 2⟩).cells, u.oneCell' = true := by simp [Value.oneCell']
        clear hop
        go_wp2_with (refine wpList_store_blk rfl 32 32 (.tmp 4) (.tmp 108) rfl (opX 13 ⟨some ⟨T + 1, 0, none⟩, 2, 2⟩).cells _ B q10 infoExN rfl h1o rfl rfl ?_; intro W11 t1 t2 t3 t4)
        refine bodyPost_ret (results_blk2 rfl _ _ B _ _ t1 rfl Tryz.underlying32 rfl infoExN) rfl ?_
        rw [HTS.out]
        have w89 : NewW (B + 1) W8 W11 := (NewW.of b89).trans ((NewW.of hb10).trans (NewW.put t3 (by omega)))
        have w91 : NewW (B + 1) W9 W11 := (NewW.of hb10).trans (NewW.put t3 (by omega))
        exact ⟨_, _, rfl, (exn_two (w91.blk (by omega) q9) (by omega) (HX8.out.move w89) (HC8.out.move w89)).mono (by omega), ((HU8.out.below (K' := K) b89 (by omega) (Nat.le_refl _)).below (K' := K) hb10 (by omega) (Nat.le_refl _)).below (t2 B (Nat.le_refl _)) (by omega) (Nat.le_refl _), HB8.out.trans ((b89.mono (by omega)).trans ((hb10.mono (by omega)).trans (t2 B (Nat.le_refl _))))⟩
      · have HTS : Hid (Rs = (Gx.mk 13 [] v0 [(conV (wV (kindN k) 0)), (subG k)], [])) := Lib.hid (by rw [HRR.out]; unfold tstG; rw [hk, if_pos (by omega), if_neg (by omega)])
        obtain ⟨W9, hW9⟩ : ∃ W9, W8.alloc (.cells (cells2 (conX kk f1 ⟨a1, n1, m1⟩ f2 ⟨a2, n2, m2⟩ ii) Xs) 32) = W9 := ⟨_, rfl⟩
        have b89 : Below W8.heap.size W8 W9 := by rw [← hW9]; exact (Below.refl _ _).alloc (Nat.le_refl _) _
        have q9 : Blk W9 (T + 1) (cells2 (conX kk f1 ⟨a1, n1, m1⟩ f2 ⟨a2, n2, m2⟩ ii) Xs) 32 := by
          have := Blk.new W8 (cells2 (conX kk f1 ⟨a1, n1, m1⟩ f2 ⟨a2, n2, m2⟩ ii) Xs) 32
          rwa [hW9, s8] at this
        have s9 : W9.heap.size = T + 2 := by rw [← hW9, World.size_alloc, s8]
        have hop := gop_any 13 ⟨some ⟨T + 1, 0, none⟩, 2, 2⟩ W9
        have HW9 := Lib.hid hW9
        dsimp only [cells2, conX] at HW9
        clear hW9 hm
        go_wp2_with (first
          | (refine wpList_load_mid rfl 32 (.tmp 14) rfl T 0 rfl (conX kk f1 ⟨a1, n1, m1⟩ f2 ⟨a2, n2, m2⟩ ii).cells.toList _ hrt Tryz.underlying32 rfl infoExN ?_)
          | (refine wpList_load_mid rfl 32 (.tmp 12) rfl S 0 rfl Xs.cells.toList _ hrs Tryz.underlying32 rfl infoExN ?_))
        rw [HW9.out]
        refine hop.mono ?_
        rintro e w10 ⟨rfl, hb10⟩
        have q10 := (q8.below b89 (by omega)).below hb10 (by omega)
        have h1o : ∀ u ∈ (opX 13 ⟨some ⟨T + 1, 0, none⟩, 2, 2⟩).cells, u.oneCell' = true := by simp [Value.oneCell']
        clear hop
        go_wp2_with (refine wpList_store_blk rfl 32 32 (.tmp 4) (.tmp 115) rfl (opX 13 ⟨some ⟨T + 1, 0, none⟩, 2, 2⟩).cells _ B q10 infoExN rfl h1o rfl rfl ?_; intro W11 t1 t2 t3 t4)
        refine bodyPost_ret (results_blk2 rfl _ _ B _ _ t1 rfl Tryz.underlying32 rfl infoExN) rfl ?_
        rw [HTS.out]
        have w89 : NewW (B + 1) W8 W11 := (NewW.of b89).trans ((NewW.of hb10).trans (NewW.put t3 (by omega)))
        have w91 : NewW (B + 1) W9 W11 := (NewW.of hb10).trans (NewW.put t3 (by omega))
        exact ⟨_, _, rfl, (exn_two (w91.blk (by omega) q9) (by omega) (HC8.out.move w89) (HX8.out.move w89)).mono (by omega), ((HU8.out.below (K' := K) b89 (by omega) (Nat.le_refl _)).below (K' := K) hb10 (by omega) (Nat.le_refl _)).below (t2 B (Nat.le_refl _)) (by omega) (Nat.le_refl _), HB8.out.trans ((b89.mono (by omega)).trans ((hb10.mono (by omega)).trans (t2 B (Nat.le_refl _))))⟩
      · have HTS : Hid (Rs = (Gx.mk 14 [] v0 [(subG k), (conV (wV (kindN k) 0))], [])) := Lib.hid (by rw [HRR.out]; unfold tstG; rw [hk, if_neg (by omega), if_pos (by omega)])
        obtain ⟨W9, hW9⟩ : ∃ W9, W8.alloc (.cells (cells2 Xs (conX kk f1 ⟨a1, n1, m1⟩ f2 ⟨a2, n2, m2⟩ ii)) 32) = W9 := ⟨_, rfl⟩
        have b89 : Below W8.heap.size W8 W9 := by rw [← hW9]; exact (Below.refl _ _).alloc (Nat.le_refl _) _
        have q9 : Blk W9 (T + 1) (cells2 Xs (conX kk f1 ⟨a1, n1, m1⟩ f2 ⟨a2, n2, m2⟩ ii)) 32 := by
          have := Blk.new W8 (cells2 Xs (conX kk f1 ⟨a1, n1, m1⟩ f2 ⟨a2, n2, m2⟩ ii)) 32
          rwa [hW9, s8] at this
        have s9 : W9.heap.size = T + 2 := by rw [← hW9, World.size_alloc, s8]
        have hop := gop_any 14 ⟨some ⟨T + 1, 0, none⟩, 2, 2⟩ W9
        have HW9 := Lib.hid hW9
        dsimp only [cells2, conX] at HW9
        clear hW9 hm
        go_wp2_with (first
          | (refine wpList_load_mid rfl 32 (.tmp 12) rfl S 0 rfl Xs.cells.toList _ hrs Tryz.underlying32 rfl infoExN ?_)
          | (refine wpList_load_mid rfl 32 (.tmp 14) rfl T 0 rfl (conX kk f1 ⟨a1, n1, m1⟩ f2 ⟨a2, n2, m2⟩ ii).cells.toList _ hrt Tryz.underlying32 rfl infoExN ?_))
        rw [HW9.out]
        refine hop.mono ?_
        rintro e w10 ⟨rfl, hb10⟩
        have q10 := (q8.below b89 (by omega)).below hb10 (by omega)
        have h1o : ∀ u ∈ (opX 14 ⟨some ⟨T + 1, 0, none⟩, 2, 2⟩).cells, u.oneCell' = true := by simp [Value.oneCell']
        clear hop
        go_wp2_with (refine wpList_store_blk rfl 32 32 (.tmp 4) (.tmp 122) rfl (opX 14 ⟨some ⟨T + 1, 0, none⟩, 2, 2⟩).cells _ B q10 infoExN rfl h1o rfl rfl ?_; intro W11 t1 t2 t3 t4)
        refine bodyPost_ret (results_blk2 rfl _ _ B _ _ t1 rfl Tryz.underlying32 rfl infoExN) rfl ?_
        rw [HTS.out]
        have w89 : NewW (B + 1) W8 W11 := (NewW.of b89).trans ((NewW.of hb10).trans (NewW.put t3 (by omega)))
        have w91 : NewW (B + 1) W9 W11 := (NewW.of hb10).trans (NewW.put t3 (by omega))
        exact ⟨_, _, rfl, (exn_two (w91.blk (by omega) q9) (by omega) (HX8.out.move w89) (HC8.out.move w89)).mono (by omega), ((HU8.out.below (K' := K) b89 (by omega) (Nat.le_refl _)).below (K' := K) hb10 (by omega) (Nat.le_refl _)).below (t2 B (Nat.le_refl _)) (by omega) (Nat.le_refl _), HB8.out.trans ((b89.mono (by omega)).trans ((hb10.mono (by omega)).trans (t2 B (Nat.le_refl _))))⟩
      · have HTS : Hid (Rs = (Gx.mk 14 [] v0 [(conV (wV (kindN k) 0)), (subG k)], [])) := Lib.hid (by rw [HRR.out]; unfold tstG; rw [hk, if_neg (by omega), if_neg (by omega)])
        obtain ⟨W9, hW9⟩ : ∃ W9, W8.alloc (.cells (cells2 (conX kk f1 ⟨a1, n1, m1⟩ f2 ⟨a2, n2, m2⟩ ii) Xs) 32) = W9 := ⟨_, rfl⟩
        have b89 : Below W8.heap.size W8 W9 := by rw [← hW9]; exact (Below.refl _ _).alloc (Nat.le_refl _) _
        have q9 : Blk W9 (T + 1) (cells2 (conX kk f1 ⟨a1, n1, m1⟩ f2 ⟨a2, n2, m2⟩ ii) Xs) 32 := by
          have := Blk.new W8 (cells2 (conX kk f1 ⟨a1, n1, m1⟩ f2 ⟨a2, n2, m2⟩ ii) Xs) 32
          rwa [hW9, s8] at this
        have s9 : W9.heap.size = T + 2 := by rw [← hW9, World.size_alloc, s8]
        have hop := gop_any 14 ⟨some ⟨T + 1, 0, none⟩, 2, 2⟩ W9
        have HW9 := Lib.hid hW9
        dsimp only [cells2, conX] at HW9
        clear hW9 hm
        go_wp2_with (first
          | (refine wpList_load_mid rfl 32 (.tmp 14) rfl T 0 rfl (conX kk f1 ⟨a1, n1, m1⟩ f2 ⟨a2, n2, m2⟩ ii).cells.toList _ hrt Tryz.underlying32 rfl infoExN ?_)
          | (refine wpList_load_mid rfl 32 (.tmp 12) rfl S 0 rfl Xs.cells.toList _ hrs Tryz.underlying32 rfl infoExN ?_))
        rw [HW9.out]
        refine hop.mono ?_
        rintro e w10 ⟨rfl, hb10⟩
        have q10 := (q8.below b89 (by omega)).below hb10 (by omega)
        have h1o : ∀ u ∈ (opX 14 ⟨some ⟨T + 1, 0, none⟩, 2, 2⟩).cells, u.oneCell' = true := by simp [Value.oneCell']
        clear hop
        go_wp2_with (refine wpList_store_blk rfl 32 32 (.tmp 4) (.tmp 127) rfl (opX 14 ⟨some ⟨T + 1, 0, none⟩, 2, 2⟩).cells _ B q10 infoExN rfl h1o rfl rfl ?_; intro W11 t1 t2 t3 t4)
        refine bodyPost_ret (results_blk2 rfl _ _ B _ _ t1 rfl Tryz.underlying32 rfl infoExN) rfl ?_
        rw [HTS.out]
        have w89 : NewW (B + 1) W8 W11 := (NewW.of b89).trans ((NewW.of hb10).trans (NewW.put t3 (by omega)))
        have w91 : NewW (B + 1) W9 W11 := (NewW.of hb10).trans (NewW.put t3 (by omega))
        exact ⟨_, _, rfl, (exn_two (w91.blk (by omega) q9) (by omega) (HC8.out.move w89) (HX8.out.move w89)).mono (by omega), ((HU8.out.below (K' := K) b89 (by omega) (Nat.le_refl _)).below (K' := K) hb10 (by omega) (Nat.le_refl _)).below (t2 B (Nat.le_refl _)) (by omega) (Nat.le_refl _), HB8.out.trans ((b89.mono (by omega)).trans ((hb10.mono (by omega)).trans (t2 B (Nat.le_refl _))))⟩
    | cons y r' =>
      obtain ⟨b2, o2, cap2, he, hc3, hc4, hb2K, hcell2, hrest2⟩ := HU4.out.head
      unfold maxLen at hc4
      rw [List.length_cons] at he
      simp only [Value.slice.injEq, true_and] at he
      obtain ⟨rfl, rfl⟩ := he
      have hin2 : (0 : Int) < (r'.length : Int) + 1 := by omega
      have hy : y < 256 := hxr y (List.mem_cons_self ..)
      simp only [List.length_cons]
      obtain ⟨n, hn⟩ : ∃ n, y % 8 = n := ⟨_, rfl⟩
      have hni : (y : Int) % 8 = (n : Int) := by omega
      have hn8 : n < 8 := by omega
      have HRR : Hid (Rs = (tstG x n, r')) := Lib.hid (by rw [← HLM.out]; unfold leafM; rw [hk, if_neg hkk, ← hn]; rfl)
      have hval : ∀ W : World, Calls Tryz.prog 43 #[.int .u8 (kindN k), .int .i64 n] W fun e w' => ∃ (k' i : Int) (f1 f2 : Bool) (s1 s2 : Sl), e = .returned (⟨k', f1, s1.val, f2, s2.val, i⟩ : Vv).agg ∧ VlN W.heap.size w' (wV (kindN k) n) ⟨k', f1, s1.val, f2, s2.val, i⟩ ∧ Below W.heap.size W w' := gvalueN_any (kindN k) (kindN_range k) n (by omega)
      have HVAL := Lib.hid hval
      have HRS := Lib.hid hrest2
      clear hval hn hrest2 HU4
      go_upto_region 20 with fail
      go_quiet (fail)
      generalize hra2 : (if c1 = 1 then some (⟨b2, o2, none⟩ : Addr) else some ⟨b2, o2 + 1, none⟩) = ra2
      have hrs2 := HRS.out
      rw [hra2] at hrs2
      generalize hWq : w4.drewN _ = Wr
      have HU4' : Hid (U8s K Wr (.slice ra2 r'.length (c1 - 1)) r') := Lib.hid (by rw [← hWq]; exact hrs2)
      have HB4' : Hid (Below B w Wr) := Lib.hid (by rw [← hWq]; exact below_drewN2 HB4.out _)
      have HQ4' : Hid (Blk Wr B xz.cells 32) := Lib.hid (by rw [← hWq]; exact HQ4.out)
      have HQS4' : Hid (Blk Wr S Xs.cells 32) := Lib.hid (by rw [← hWq]; exact HQS4.out)
      have HX4' : Hid (ExN (B + 1) Wr (subG k) Xs) := Lib.hid (by rw [← hWq]; exact HX4.out.move (NewW.of (below_drewN2 (Below.refl _ _) _)))
      have sw4' : S + 1 ≤ Wr.heap.size := by rw [← hWq]; exact sw4
      clear HB4 HQ4 HQS4 HX4 sw4 hWq hrs2 hra2 hs4
      go_upto_region 21 with fail
      have hkf := gkindof_any k Wr hk256
      go_wp2_with fail
      refine hkf.mono ?_
      rintro e w5 ⟨rfl, hb5⟩
      have hs5 := hb5.size
      go_wp2_with fail
      refine (HVAL.out w5).mono ?_
      rintro e w6 ⟨kk, ii, f1, f2, s1, s2, rfl, hvl, hb6⟩
      have hs6 := hb6.size
      have hcon := gcon_any kk f1 f2 s1 s2 ii w6
      go_wp2_with fail
      refine hcon.mono ?_
      rintro e w7 ⟨rfl, hb7⟩
      have hs7 := hb7.size
      clear hkf hcon
      have hcn := exn_con (v := wV (kindN k) n) (hvl.move (NewW.of hb7))
      obtain ⟨a1, n1, m1⟩ := s1
      obtain ⟨a2, n2, m2⟩ := s2
      have h1c2 : ∀ u ∈ (conX kk f1 ⟨a1, n1, m1⟩ f2 ⟨a2, n2, m2⟩ ii).cells, u.oneCell' = true := by simp [Value.oneCell']
      go_upto_region 22 with (refine wpList_store_new rfl 32 (.tmp 14) (.tmp 100) rfl (conX kk f1 ⟨a1, n1, m1⟩ f2 ⟨a2, n2, m2⟩ ii).cells _ infoExN rfl h1c2 w7.heap.size rfl rfl rfl ?_)
      obtain ⟨W8, hW8⟩ : ∃ W8, w7.alloc (.cells (conX kk f1 ⟨a1, n1, m1⟩ f2 ⟨a2, n2, m2⟩ ii).cells 32) = W8 := ⟨_, rfl⟩
      obtain ⟨T, hT⟩ : ∃ T, w7.heap.size = T := ⟨_, rfl⟩
      have b78 : Below w7.heap.size w7 W8 := by rw [← hW8]; exact (Below.refl _ _).alloc (Nat.le_refl _) _
      have b48 : Below Wr.heap.size Wr W8 := hb5.trans ((hb6.mono (by omega)).trans ((hb7.mono (by omega)).trans (b78.mono (by omega))))
      have q8 := HQ4'.out.below b48 (by omega)
      have qs8 := HQS4'.out.below b48 (by omega)
      have qt8 : Blk W8 T (conX kk f1 ⟨a1, n1, m1⟩ f2 ⟨a2, n2, m2⟩ ii).cells 32 := by rw [← hW8, ← hT]; exact Blk.new w7 _ _
      have HU8 := Lib.hid (HU4'.out.below (K' := K) b48 (by omega) (Nat.le_refl _))
      have HB8 := Lib.hid (HB4'.out.trans (b48.mono (by omega)))
      have HX8 := Lib.hid (HX4'.out.move (NewW.of b48))
      have HC8 := Lib.hid ((hcn.move (NewW.of b78)).mono (by omega : B + 1 ≤ w5.heap.size))
      have s8 : W8.heap.size = T + 1 := by rw [← hW8, ← hT]; simp
      have sT : S + 1 ≤ T := by omega
      have HW8 := Lib.hid hW8
      have HT := Lib.hid hT
      simp only [HT.out]
      rw [HW8.out]
      clear hvl hcn hb5 hb6 hb7 b78 b48 HU4' HB4' HX4' HQ4' HQS4' hW8 hT hs5 hs6 hs7
      have hrs := qs8.range
      have hrt := qt8.range
      obtain ⟨m, hm⟩ : ∃ m, x % 4 = m := ⟨_, rfl⟩
      have hmi : (x : Int) % 4 = (m : Int) := by omega
      have hm4 : m = 0 ∨ m = 1 ∨ m = 2 ∨ m = 3 := by omega
      rcases hm4 with rfl | rfl | rfl | rfl
      · have HTS : Hid (Rs = (Gx.mk 13 [] v0 [(subG k), (conV (wV (kindN k) n))], r')) := Lib.hid (by rw [HRR.out]; unfold tstG; rw [hk, if_pos (by omega), if_pos (by omega)])
        obtain ⟨W9, hW9⟩ : ∃ W9, W8.alloc (.cells (cells2 Xs (conX kk f1 ⟨a1, n1, m1⟩ f2 ⟨a2, n2, m2⟩ ii)) 32) = W9 := ⟨_, rfl⟩
        have b89 : Below W8.heap.size W8 W9 := by rw [← hW9]; exact (Below.refl _ _).alloc (Nat.le_refl _) _
        have q9 : Blk W9 (T + 1) (cells2 Xs (conX kk f1 ⟨a1, n1, m1⟩ f2 ⟨a2, n2, m2⟩ ii)) 32 := by
          have := Blk.new W8 (cells2 Xs (conX kk f1 ⟨a1, n1, m1⟩ f2 ⟨a2, n2, m2⟩ ii)) 32
          rwa [hW9, s8] at this
        have s9 : W9.heap.size = T + 2 := by rw [← hW9, World.size_alloc, s8]
        have hop := gop_any 13 ⟨some ⟨T + 1, 0, none⟩, 2, 2⟩ W9
        have HW9 := Lib.hid hW9
        dsimp only [cells2, conX] at HW9
        clear hW9 hm
        go_wp2_with (first
          | (refine wpList_load_mid rfl 32 (.tmp 12) rfl S 0 rfl Xs.cells.toList _ hrs Tryz.underlying32 rfl infoExN ?_)
          | (refine wpList_load_mid rfl 32 (.tmp 14) rfl T 0 rfl (conX kk f1 ⟨a1, n1, m1⟩ f2 ⟨a2, n2, m2⟩ ii).cells.toList _ hrt Tryz.underlying32 rfl infoExN ?_))
        rw [HW9.out]
        refine hop.mono ?_
        rintro e w10 ⟨rfl, hb10⟩
        have q10 := (q8.below b89 (by omega)).below hb10 (by omega)
        have h1o : ∀ u ∈ (opX 13 ⟨some ⟨T + 1, 0, none⟩, 2, 2⟩).cells, u.oneCell' = true := by simp [Value.oneCell']
        clear hop
        go_wp2_with (refine wpList_store_blk rfl 32 32 (.tmp 4) (.tmp 108) rfl (opX 13 ⟨some ⟨T + 1, 0, none⟩, 2, 2⟩).cells _ B q10 infoExN rfl h1o rfl rfl ?_; intro W11 t1 t2 t3 t4)
        refine bodyPost_ret (results_blk2 rfl _ _ B _ _ t1 rfl Tryz.underlying32 rfl infoExN) rfl ?_
        rw [HTS.out]
        have w89 : NewW (B + 1) W8 W11 := (NewW.of b89).trans ((NewW.of hb10).trans (NewW.put t3 (by omega)))
        have w91 : NewW (B + 1) W9 W11 := (NewW.of hb10).trans (NewW.put t3 (by omega))
        exact ⟨_, _, rfl, (exn_two (w91.blk (by omega) q9) (by omega) (HX8.out.move w89) (HC8.out.move w89)).mono (by omega), ((HU8.out.below (K' := K) b89 (by omega) (Nat.le_refl _)).below (K' := K) hb10 (by omega) (Nat.le_refl _)).below (t2 B (Nat.le_refl _)) (by omega) (Nat.le_refl _), HB8.out.trans ((b89.mono (by omega)).trans ((hb10.mono (by omega)).trans (t2 B (Nat.le_refl _))))⟩
      · have HTS : Hid (Rs = (Gx.mk 13 [] v0 [(conV (wV (kindN k) n)), (subG k)], r')) := Lib.hid (by rw [HRR.out]; unfold tstG; rw [hk, if_pos (by omega), if_neg (by omega)])
        obtain ⟨W9, hW9⟩ : ∃ W9, W8.alloc (.cells (cells2 (conX kk f1 ⟨a1, n1, m1⟩ f2 ⟨a2, n2, m2⟩ ii) Xs) 32) = W9 := ⟨_, rfl⟩
        have b89 : Below W8.heap.size W8 W9 := by rw [← hW9]; exact (Below.refl _ _).alloc (Nat.le_refl _) _
        have q9 : Blk W9 (T + 1) (cells2 (conX kk f1 ⟨a1, n1, m1⟩ f2 ⟨a2, n2, m2⟩ ii) Xs) 32 := by
          have := Blk.new W8 (cells2 (conX kk f1 ⟨a1, n1, m1⟩ f2 ⟨a2, n2, m2⟩ ii) Xs) 32
          rwa [hW9, s8] at this
        have s9 : W9.heap.size = T + 2 := by rw [← hW9, World.size_alloc, s8]
        have hop := gop_any 13 ⟨some ⟨T + 1, 0, none⟩, 2, 2⟩ W9
        have HW9 := Lib.hid hW9
        dsimp only [cells2, conX] at HW9
        clear hW9 hm
        go_wp2_with (first
          | (refine wpList_load_mid rfl 32 (.tmp 14) rfl T 0 rfl (conX kk f1 ⟨a1, n1, m1⟩ f2 ⟨a2, n2, m2⟩ ii).cells.toList _ hrt Tryz.underlying32 rfl infoExN ?_)
          | (refine wpList_load_mid rfl 32 (.tmp 12) rfl S 0 rfl Xs.cells.toList _ hrs Tryz.underlying32 rfl infoExN ?_))
        rw [HW9.out]
        refine hop.mono ?_
        rintro e w10 ⟨rfl, hb10⟩
        have q10 := (q8.below b89 (by omega)).below hb10 (by omega)
        have h1o : ∀ u ∈ (opX 13 ⟨some ⟨T + 1, 0, none⟩, 2, 2⟩).cells, u.oneCell' = true := by simp [Value.oneCell']
        clear hop
        go_wp2_with (refine wpList_store_blk rfl 32 32 (.tmp 4) (.tmp 115) rfl (opX 13 ⟨some ⟨T + 1, 0, none⟩, 2, 2⟩).cells _ B q10 infoExN rfl h1o rfl rfl ?_; intro W11 t1 t2 t3 t4)
        refine bodyPost_ret (results_blk2 rfl _ _ B _ _ t1 rfl Tryz.underlying32 rfl infoExN) rfl ?_
        rw [HTS.out]
        have w89 : NewW (B + 1) W8 W11 := (NewW.of b89).trans ((NewW.of hb10).trans (NewW.put t3 (by omega)))
        have w91 : NewW (B + 1) W9 W11 := (NewW.of hb10).trans (NewW.put t3 (by omega))
        exact ⟨_, _, rfl, (exn_two (w91.blk (by omega) q9) (by omega) (HC8.out.move w89) (HX8.out.move w89)).mono (by omega), ((HU8.out.below (K' := K) b89 (by omega) (Nat.le_refl _)).below (K' := K) hb10 (by omega) (Nat.le_refl _)).below (t2 B (Nat.le_refl _)) (by omega) (Nat.le_refl _), HB8.out.trans ((b89.mono (by omega)).trans ((hb10.mono (by omega)).trans (t2 B (Nat.le_refl _))))⟩
      · have HTS : Hid (Rs = (Gx.mk 14 [] v0 [(subG k), (conV (wV (kindN k) n))], r')) := Lib.hid (by rw [HRR.out]; unfold tstG; rw [hk, if_neg (by omega), if_pos (by omega)])
        obtain ⟨W9, hW9⟩ : ∃ W9, W8.alloc (.cells (cells2 Xs (conX kk f1 ⟨a1, n1, m1⟩ f2 ⟨a2, n2, m2⟩ ii)) 32) = W9 := ⟨_, rfl⟩
        have b89 : Below W8.heap.size W8 W9 := by rw [← hW9]; exact (Below.refl _ _).alloc (Nat.le_refl _) _
        have q9 : Blk W9 (T + 1) (cells2 Xs (conX kk f1 ⟨a1, n1, m1⟩ f2 ⟨a2, n2, m2⟩ ii)) 32 := by
          have := Blk.new W8 (cells2 Xs (conX kk f1 ⟨a1, n1, m1⟩ f2 ⟨a2, n2, m2⟩ ii)) 32
          rwa [hW9, s8] at this
        have s9 : W9.heap.size = T + 2 := by rw [← hW9, World.size_alloc, s8]
        have hop := gop_any 14 ⟨some ⟨T + 1, 0, none⟩, 2, 2⟩ W9
        have HW9 := Lib.hid hW9
        dsimp only [cells2, conX] at HW9
        clear hW9 hm
        go_wp2_with (first
          | (refine wpList_load_mid rfl 32 (.tmp 12) rfl S 0 rfl Xs.cells.toList _ hrs Tryz.underlying32 rfl infoExN ?_)
          | (refine wpList_load_mid rfl 32 (.tmp 14) rfl T 0 rfl (conX kk f1 ⟨a1, n1, m1⟩ f2 ⟨a2, n2, m2⟩ ii).cells.toList _ hrt Tryz.underlying32 rfl infoExN ?_))
        rw [HW9.out]
        refine hop.mono ?_
        rintro e w10 ⟨rfl, hb10⟩
        have q10 := (q8.below b89 (by omega)).below hb10 (by omega)
        have h1o : ∀ u ∈ (opX 14 ⟨some ⟨T + 1, 0, none⟩, 2, 2⟩).cells, u.oneCell' = true := by simp [Value.oneCell']
        clear hop
        go_wp2_with (refine wpList_store_blk rfl 32 32 (.tmp 4) (.tmp 122) rfl (opX 14 ⟨some ⟨T + 1, 0, none⟩, 2, 2⟩).cells _ B q10 infoExN rfl h1o rfl rfl ?_; intro W11 t1 t2 t3 t4)
        refine bodyPost_ret (results_blk2 rfl _ _ B _ _ t1 rfl Tryz.underlying32 rfl infoExN) rfl ?_
        rw [HTS.out]
        have w89 : NewW (B + 1) W8 W11 := (NewW.of b89).trans ((NewW.of hb10).trans (NewW.put t3 (by omega)))
        have w91 : NewW (B + 1) W9 W11 := (NewW.of hb10).trans (NewW.put t3 (by omega))
        exact ⟨_, _, rfl, (exn_two (w91.blk (by omega) q9) (by omega) (HX8.out.move w89) (HC8.out.move w89)).mono (by omega), ((HU8.out.below (K' := K) b89 (by omega) (Nat.le_refl _)).below (K' := K) hb10 (by omega) (Nat.le_refl _)).below (t2 B (Nat.le_refl _)) (by omega) (Nat.le_refl _), HB8.out.trans ((b89.mono (by omega)).trans ((hb10.mono (by omega)).trans (t2 B (Nat.le_refl _))))⟩
      · have HTS : Hid (Rs = (Gx.mk 14 [] v0 [(conV (wV (kindN k) n)), (subG k)], r')) := Lib.hid (by rw [HRR.out]; unfold tstG; rw [hk, if_neg (by omega), if_neg (by omega)])
        obtain ⟨W9, hW9⟩ : ∃ W9, W8.alloc (.cells (cells2 (conX kk f1 ⟨a1, n1, m1⟩ f2 ⟨a2, n2, m2⟩ ii) Xs) 32) = W9 := ⟨_, rfl⟩
        have b89 : Below W8.heap.size W8 W9 := by rw [← hW9]; exact (Below.refl _ _).alloc (Nat.le_refl _) _
        have q9 : Blk W9 (T + 1) (cells2 (conX kk f1 ⟨a1, n1, m1⟩ f2 ⟨a2, n2, m2⟩ ii) Xs) 32 := by
          have := Blk.new W8 (cells2 (conX kk f1 ⟨a1, n1, m1⟩ f2 ⟨a2, n2, m2⟩ ii) Xs) 32
          rwa [hW9, s8] at this
        have s9 : W9.heap.size = T + 2 := by rw [← hW9, World.size_alloc, s8]
        have hop := gop_any 14 ⟨some ⟨T + 1, 0, none⟩, 2, 2⟩ W9
        have HW9 := Lib.hid hW9
        dsimp only [cells2, conX] at HW9
        clear hW9 hm
        go_wp2_with (first
          | (refine wpList_load_mid rfl 32 (.tmp 14) rfl T 0 rfl (conX kk f1 ⟨a1, n1, m1⟩ f2 ⟨a2, n2, m2⟩ ii).cells.toList _ hrt Tryz.underlying32 rfl infoExN ?_)
          | (refine wpList_load_mid rfl 32 (.tmp 12) rfl S 0 rfl Xs.cells.toList _ hrs Tryz.underlying32 rfl infoExN ?_))
        rw [HW9.out]
        refine hop.mono ?_
        rintro e w10 ⟨rfl, hb10⟩
        have q10 := (q8.below b89 (by omega)).below hb10 (by omega)
        have h1o : ∀ u ∈ (opX 14 ⟨some ⟨T + 1, 0, none⟩, 2, 2⟩).cells, u.oneCell' = true := by simp [Value.oneCell']
        clear hop
        go_wp2_with (refine wpList_store_blk rfl 32 32 (.tmp 4) (.tmp 127) rfl (opX 14 ⟨some ⟨T + 1, 0, none⟩, 2, 2⟩).cells _ B q10 infoExN rfl h1o rfl rfl ?_; intro W11 t1 t2 t3 t4)
        refine bodyPost_ret (results_blk2 rfl _ _ B _ _ t1 rfl Tryz.underlying32 rfl infoExN) rfl ?_
        rw [HTS.out]
        have w89 : NewW (B + 1) W8 W11 := (NewW.of b89).trans ((NewW.of hb10).trans (NewW.put t3 (by omega)))
        have w91 : NewW (B + 1) W9 W11 := (NewW.of hb10).trans (NewW.put t3 (by omega))
        exact ⟨_, _, rfl, (exn_two (w91.blk (by omega) q9) (by omega) (HC8.out.move w89) (HX8.out.move w89)).mono (by omega), ((HU8.out.below (K' := K) b89 (by omega) (Nat.le_refl _)).below (K' := K) hb10 (by omega) (Nat.le_refl _)).below (t2 B (Nat.le_refl _)) (by omega) (Nat.le_refl _), HB8.out.trans ((b89.mono (by omega)).trans ((hb10.mono (by omega)).trans (t2 B (Nat.le_refl _))))⟩
end Go.Proofs.YthooiobhlbnaoaaGreat
namespace Go.Proofs.YthooiobhlbnaoaaGreat
open Go.RowKit
set_option linter.unusedVariables false

/-- What made does at a depth. -/
def MadeAt (d : Nat) : Prop := ∀ (l : List Nat) (v : Value) (K : Nat) (w : World), U8s K w v l → (∀ y ∈ l, y < 256) → K ≤ w.heap.size → l.length ≤ 2 ^ 40 →
  Calls Tryz.prog 84 #[v, .int .i64 d] w fun e w' => ∃ X v', e = .returned (.tuple #[X.agg, v']) ∧ ExN w.heap.size w' (madeM d l).1 X ∧ U8s K w' v' (madeM d l).2 ∧ Below w.heap.size w w'
set_option maxRecDepth 100000 in
set_option maxHeartbeats 4000000 in
theorem gmade_comp (K d x : Nat) (r : List Nat) (v : Value) (w : World) (ih : MadeAt d) (hu : U8s K w v (x :: r)) (hx : ∀ y ∈ x :: r, y < 256) (hK : K ≤ w.heap.size) (hlen : r.length ≤ 2 ^ 40) (h3 : x % 3 = 0) (hd6 : d ≤ 5) : Calls Tryz.prog 84 #[v, .int .i64 ((d : Int) + 1)] w fun e w' => ∃ X v', e = .returned (.tuple #[X.agg, v']) ∧ ExN w.heap.size w' (madeM (d + 1) (x :: r)).1 X ∧ U8s K w' v' (madeM (d + 1) (x :: r)).2 ∧ Below w.heap.size w w' := by
  obtain ⟨Rs, hRs⟩ : ∃ Rs, madeM (d + 1) (x :: r) = Rs := ⟨_, rfl⟩
  have HLM := Lib.hid hRs
  rw [hRs]
  clear hRs
  obtain ⟨b, o, cap, rfl, hc1, hc2, hbK, hcell, hrest⟩ := hu.head
  unfold maxLen at hc2
  obtain ⟨W1, hW1⟩ : ∃ W1, w.alloc (.cells xz.cells 32) = W1 := ⟨_, rfl⟩
  have b1 : Below w.heap.size w W1 := by rw [← hW1]; exact (Below.refl _ _).alloc (Nat.le_refl _) _
  have q1 : Blk W1 w.heap.size xz.cells 32 := by rw [← hW1]; exact Blk.new w _ _
  have s1 : W1.heap.size = w.heap.size + 1 := by rw [← hW1]; simp
  obtain ⟨B, hB⟩ : ∃ B, w.heap.size = B := ⟨_, rfl⟩
  have HB := Lib.hid hB
  have HW1 : Hid (w.alloc (.cells #[.int .u8 0, .string ⟨#[]⟩, .int .u8 0, .bool false, .slice none 0 0, .bool false, .slice none 0 0, .int .i64 0, .slice none 0 0] 32) = W1) := Lib.hid hW1
  rw [hB] at b1 q1 s1 hK ⊢
  have n0 : W1.cell? ⟨b, o, none⟩ = some (.int .u8 (x : Int)) := (b1.cell (p := ⟨b, o, none⟩) (by show b < B; omega)).trans hcell
  have hu1 := hrest.below (K' := K) b1 hK (Nat.le_refl _)
  have hx0 : x < 256 := hx x (List.mem_cons_self ..)
  have hxr : ∀ y ∈ r, y < 256 := fun y h => hx y (List.mem_cons_of_mem _ h)
  have hin : (0 : Int) < (r.length : Int) + 1 := by omega
  clear hB hW1 hu hcell hrest hx
  go_enter Tryz.func84, Tryz.ntmps84
  go_upto_region 1 with fail
  simp only [HB.out]
  rw [HW1.out]
  go_upto_region 3 with fail
  go_quiet (fail)
  generalize (if cap = 1 then some (⟨b, o, none⟩ : Addr) else some ⟨b, o + 1, none⟩) = ra at hu1 ⊢
  generalize cap - 1 = c1 at hu1 ⊢
  generalize hWq : W1.drewN _ = Wq
  have qq : Blk Wq B xz.cells 32 := by rw [← hWq]; exact q1
  have bq : Below B w Wq := by rw [← hWq]; exact below_drewN2 b1 _
  have uq : U8s K Wq (.slice ra r.length c1) r := by rw [← hWq]; exact hu1
  have sq : Wq.heap.size = B + 1 := by rw [← hWq]; exact s1
  have HUQ := Lib.hid uq
  have HBQ := Lib.hid bq
  clear q1 b1 hu1 s1 hWq n0 HW1 uq bq
  go_upto_region 4 with fail
  go_cut [31] from 25 to 31 (fun s wx => s = .bool true ∧ Wq = wx)
  case first =>
    have hd1 : (0 : Int) < (d : Int) + 1 := by omega
    have h3' : (x : Int) % 3 = 0 := by omega
    go_wp2_with fail
    all_goals go_meet
    all_goals exact ⟨rfl, rfl⟩
  case rest =>
  obtain ⟨rfl, rfl⟩ := hcut
  obtain ⟨Wa, hWa⟩ : ∃ Wa, ((Wq.alloc (.cells xz.cells 32)).alloc (.cells xz.cells 32)).alloc (.cells xz.cells 32) = Wa := ⟨_, rfl⟩
  have ba : Below Wq.heap.size Wq Wa := by rw [← hWa]; exact (((Below.refl _ _).alloc (Nat.le_refl _) _).alloc (by simp) _).alloc (by simp; omega) _
  have sa : Wa.heap.size = B + 4 := by rw [← hWa]; simp; omega
  have HQ1 : Hid (Blk Wa (B + 1) xz.cells 32) := Lib.hid (by
    have := ((Blk.new Wq xz.cells 32).alloc (.cells xz.cells 32)).alloc (.cells xz.cells 32)
    rwa [hWa, sq] at this)
  have HQ2 : Hid (Blk Wa (B + 2) xz.cells 32) := Lib.hid (by
    have := (Blk.new (Wq.alloc (.cells xz.cells 32)) xz.cells 32).alloc (.cells xz.cells 32)
    rwa [hWa, World.size_alloc, sq] at this)
  have HQ3 : Hid (Blk Wa (B + 3) xz.cells 32) := Lib.hid (by
    have := Blk.new ((Wq.alloc (.cells xz.cells 32)).alloc (.cells xz.cells 32)) xz.cells 32
    rwa [hWa, World.size_alloc, World.size_alloc, sq] at this)
  have HQB0 := Lib.hid (qq.below ba (by omega))
  have HB0 := Lib.hid (HBQ.out.trans (ba.mono (by omega)))
  have HU := Lib.hid (HUQ.out.below (K' := K) ba (by omega) (Nat.le_refl _))
  have HWa := Lib.hid hWa
  dsimp only [xz, Xv.cells] at HWa
  have hx256 := hxr
  have h3h := Lib.hid h3
  obtain ⟨m, hm⟩ : ∃ m, x % 4 = m := ⟨_, rfl⟩
  have hmi : (x : Int) % 4 = (m : Int) := by omega
  have hm4 : m < 4 := by omega
  have HM := Lib.hid hm
  clear hWa qq HBQ HUQ ba hxr h3 hm
  go_upto_region 6 with fail
  rw [HWa.out]
  have hcall := ih r _ K Wa HU.out hx256 (by omega) hlen
  obtain ⟨E1, hE1⟩ : ∃ ze, (madeM d r).1 = ze := ⟨_, rfl⟩
  obtain ⟨r1, hr1⟩ : ∃ zr, (madeM d r).2 = zr := ⟨_, rfl⟩
  have hrl : (∀ x ∈ r1, x < 256) ∧ r1.length ≤ 2 ^ 40 := ⟨fun x hx => hx256 x (by rw [← hr1] at hx; exact madeM_sub d _ x hx), by have := madeM_size d r; have h1 := partsG_pos (madeM d r).1; rw [hr1] at this; omega⟩
  rw [hE1, hr1] at hcall
  have HE1 := Lib.hid hE1
  have HR1 := Lib.hid hr1
  clear hE1 hr1 hx256 hlen
  go_wp2_with fail
  refine hcall.mono ?_
  rintro e w1 ⟨X1, v1, rfl, hx1, hu1, hb1⟩
  have hx256 := hrl.1
  have hlen := hrl.2
  have hsz1 := hb1.size
  have h1c1 : ∀ u ∈ X1.cells, u.oneCell' = true := by simp [Value.oneCell']
  have qv := HQ1.out.below hb1 (by omega)
  clear hcall hrl
  go_upto_region 7 with (refine wpList_store_blk rfl 32 32 (.tmp 8) (.tmp 37) rfl X1.cells _ (B + 1) qv infoExN rfl h1c1 rfl rfl ?_; intro V1 t1 t2 t3 t4)
  have nw1 : NewW (B + 4) Wa V1 := (NewW.of hb1).trans (NewW.put t3 (by omega))
  have HB1 := Lib.hid (HB0.out.trans ((hb1.mono (by omega)).trans (t2 B (by omega))))
  have HQB1 := Lib.hid ((HQB0.out.below hb1 (by omega)).kept t3 (by simp))
  have HX1 := Lib.hid ((hx1.mono (by omega : B + 4 ≤ Wa.heap.size)).move (NewW.put t3 (by omega)))
  have HC1 := Lib.hid t1
  have sv1 : B + 4 ≤ V1.heap.size := by omega
  have HU' := Lib.hid ((hu1.below (K' := K) (t2 B (by omega)) (by omega) (Nat.le_refl _)))
  clear HU
  have HU := HU'
  clear HU'
  have HQ2' := Lib.hid ((HQ2.out.below hb1 (by omega)).kept t3 (by simp))
  clear HQ2
  have HQ2 := HQ2'
  clear HQ2'
  have HQ3' := Lib.hid ((HQ3.out.below hb1 (by omega)).kept t3 (by simp))
  clear HQ3
  have HQ3 := HQ3'
  clear HQ3'
  clear hb1 hx1 hu1 t1 t2 t3 t4 qv nw1 HB0 HQB0 hsz1
  obtain ⟨p, hp⟩ : ∃ p, x % 2 = p := ⟨_, rfl⟩
  have hpi : (x : Int) % 2 = (p : Int) := by omega
  have HP := Lib.hid hp
  clear hp
  by_cases hm0 : m = 0
  · subst hm0
    have HTS : Hid (Rs = (Gx.mk 17 [] v0 [E1], r1)) := Lib.hid (by rw [← HLM.out, madeM, if_pos h3h.out, if_pos HM.out, HE1.out, HR1.out])
    have hrg1 := HC1.out.range
    obtain ⟨T, hT⟩ : ∃ T, V1.heap.size = T := ⟨_, rfl⟩
    obtain ⟨W9, hW9⟩ : ∃ W9, V1.alloc (.cells X1.cells 32) = W9 := ⟨_, rfl⟩
    have b89 : Below V1.heap.size V1 W9 := by rw [← hW9]; exact (Below.refl _ _).alloc (Nat.le_refl _) _
    have q9 : Blk W9 T X1.cells 32 := by
      have := Blk.new V1 X1.cells 32
      rwa [hW9, hT] at this
    have s9 : W9.heap.size = T + 1 := by rw [← hW9, World.size_alloc, hT]
    have hop := gop_any 17 ⟨some ⟨T, 0, none⟩, 1, 1⟩ W9
    have HW9 := Lib.hid hW9
    have HT := Lib.hid hT
    dsimp only [Xv.cells] at HW9
    clear hW9
    go_wp2_with (first | (refine wpList_load_mid rfl 32 (.tmp 8) rfl (B + 1) 0 rfl X1.cells.toList _ hrg1 Tryz.underlying32 rfl infoExN ?_))
    try simp only [HT.out]
    rw [HW9.out]
    refine hop.mono ?_
    rintro e w10 ⟨rfl, hb10⟩
    have q10 := (HQB1.out.below b89 (by omega)).below hb10 (by omega)
    have h1o : ∀ u ∈ (opX 17 ⟨some ⟨T, 0, none⟩, 1, 1⟩).cells, u.oneCell' = true := by simp [Value.oneCell']
    clear hop
    go_wp2_with (refine wpList_store_blk rfl 32 32 (.tmp 4) (.tmp 44) rfl (opX 17 ⟨some ⟨T, 0, none⟩, 1, 1⟩).cells _ B q10 infoExN rfl h1o rfl rfl ?_; intro W11 t1 t2 t3 t4)
    refine bodyPost_ret (results_blk2 rfl _ _ B _ _ t1 rfl Tryz.underlying32 rfl infoExN) rfl ?_
    rw [HTS.out]
    have w89 : NewW (B + 4) V1 W11 := (NewW.of b89).trans ((NewW.of hb10).trans (NewW.put t3 (by omega)))
    have w91 : NewW (B + 4) W9 W11 := (NewW.of hb10).trans (NewW.put t3 (by omega))
    exact ⟨_, _, rfl, (exn_one (w91.blk (by omega) q9) (by omega) (HX1.out.move w89)).mono (by omega), ((HU.out.below (K' := K) b89 (by omega) (Nat.le_refl _)).below (K' := K) hb10 (by omega) (Nat.le_refl _)).below (t2 B (Nat.le_refl _)) (by omega) (Nat.le_refl _), HB1.out.trans ((b89.mono (by omega)).trans ((hb10.mono (by omega)).trans (t2 B (Nat.le_refl _))))⟩
  · have hmn : ¬ (m : Int) = 0 := by omega
    have hmn2 : ((m : Int) == 0) = false := by simpa using hmn
    go_upto_region 9 with fail
    have hcall := ih r1 v1 K V1 HU.out hx256 (by omega) hlen
    obtain ⟨E2, hE2⟩ : ∃ ze, (madeM d r1).1 = ze := ⟨_, rfl⟩
    obtain ⟨r2, hr2⟩ : ∃ zr, (madeM d r1).2 = zr := ⟨_, rfl⟩
    have hrl : (∀ x ∈ r2, x < 256) ∧ r2.length ≤ 2 ^ 40 := ⟨fun x hx => hx256 x (by rw [← hr2] at hx; exact madeM_sub d _ x hx), by have := madeM_size d r1; have h1 := partsG_pos (madeM d r1).1; rw [hr2] at this; omega⟩
    rw [hE2, hr2] at hcall
    have HE2 := Lib.hid hE2
    have HR2 := Lib.hid hr2
    clear hE2 hr2 hx256 hlen
    go_wp2_with fail
    refine hcall.mono ?_
    rintro e w2 ⟨X2, v2, rfl, hx2, hu2, hb2⟩
    have hx256 := hrl.1
    have hlen := hrl.2
    have hsz2 := hb2.size
    have h1c2 : ∀ u ∈ X2.cells, u.oneCell' = true := by simp [Value.oneCell']
    have qv := HQ2.out.below hb2 (by omega)
    clear hcall hrl
    go_upto_region 10 with (refine wpList_store_blk rfl 32 32 (.tmp 9) (.tmp 51) rfl X2.cells _ (B + 2) qv infoExN rfl h1c2 rfl rfl ?_; intro V2 t1 t2 t3 t4)
    have nw2 : NewW (B + 4) V1 V2 := (NewW.of hb2).trans (NewW.put t3 (by omega))
    have HB2 := Lib.hid (HB1.out.trans ((hb2.mono (by omega)).trans (t2 B (by omega))))
    have HQB2 := Lib.hid ((HQB1.out.below hb2 (by omega)).kept t3 (by simp))
    have HX2 := Lib.hid ((hx2.mono (by omega : B + 4 ≤ V1.heap.size)).move (NewW.put t3 (by omega)))
    have HC2 := Lib.hid t1
    have sv2 : B + 4 ≤ V2.heap.size := by omega
    have HU' := Lib.hid ((hu2.below (K' := K) (t2 B (by omega)) (by omega) (Nat.le_refl _)))
    clear HU
    have HU := HU'
    clear HU'
    have HQ3' := Lib.hid ((HQ3.out.below hb2 (by omega)).kept t3 (by simp))
    clear HQ3
    have HQ3 := HQ3'
    clear HQ3'
    have HX1' := Lib.hid (HX1.out.move nw2)
    clear HX1
    have HX1 := HX1'
    clear HX1'
    have HC1' := Lib.hid ((HC1.out.below hb2 (by omega)).kept t3 (by simp))
    clear HC1
    have HC1 := HC1'
    clear HC1'
    clear hb2 hx2 hu2 t1 t2 t3 t4 qv nw2 HB1 HQB1 hsz2
    by_cases hm3 : m = 3
    · subst hm3
      go_upto_region 11 with fail
      have hcall := ih r2 v2 K V2 HU.out hx256 (by omega) hlen
      obtain ⟨E3, hE3⟩ : ∃ ze, (madeM d r2).1 = ze := ⟨_, rfl⟩
      obtain ⟨r3, hr3⟩ : ∃ zr, (madeM d r2).2 = zr := ⟨_, rfl⟩
      have hrl : (∀ x ∈ r3, x < 256) ∧ r3.length ≤ 2 ^ 40 := ⟨fun x hx => hx256 x (by rw [← hr3] at hx; exact madeM_sub d _ x hx), by have := madeM_size d r2; have h1 := partsG_pos (madeM d r2).1; rw [hr3] at this; omega⟩
      rw [hE3, hr3] at hcall
      have HE3 := Lib.hid hE3
      have HR3 := Lib.hid hr3
      clear hE3 hr3 hx256 hlen
      go_wp2_with fail
      refine hcall.mono ?_
      rintro e w3 ⟨X3, v3, rfl, hx3, hu3, hb3⟩
      have hx256 := hrl.1
      have hlen := hrl.2
      have hsz3 := hb3.size
      have h1c3 : ∀ u ∈ X3.cells, u.oneCell' = true := by simp [Value.oneCell']
      have qv := HQ3.out.below hb3 (by omega)
      clear hcall hrl
      go_upto_region 12 with (refine wpList_store_blk rfl 32 32 (.tmp 10) (.tmp 61) rfl X3.cells _ (B + 3) qv infoExN rfl h1c3 rfl rfl ?_; intro V3 t1 t2 t3 t4)
      have nw3 : NewW (B + 4) V2 V3 := (NewW.of hb3).trans (NewW.put t3 (by omega))
      have HB3 := Lib.hid (HB2.out.trans ((hb3.mono (by omega)).trans (t2 B (by omega))))
      have HQB3 := Lib.hid ((HQB2.out.below hb3 (by omega)).kept t3 (by simp))
      have HX3 := Lib.hid ((hx3.mono (by omega : B + 4 ≤ V2.heap.size)).move (NewW.put t3 (by omega)))
      have HC3 := Lib.hid t1
      have sv3 : B + 4 ≤ V3.heap.size := by omega
      have HU' := Lib.hid ((hu3.below (K' := K) (t2 B (by omega)) (by omega) (Nat.le_refl _)))
      clear HU
      have HU := HU'
      clear HU'
      have HX1' := Lib.hid (HX1.out.move nw3)
      clear HX1
      have HX1 := HX1'
      clear HX1'
      have HC1' := Lib.hid ((HC1.out.below hb3 (by omega)).kept t3 (by simp))
      clear HC1
      have HC1 := HC1'
      clear HC1'
      have HX2' := Lib.hid (HX2.out.move nw3)
      clear HX2
      have HX2 := HX2'
      clear HX2'
      have HC2' := Lib.hid ((HC2.out.below hb3 (by omega)).kept t3 (by simp))
      clear HC2
      have HC2 := HC2'
      clear HC2'
      clear hb3 hx3 hu3 t1 t2 t3 t4 qv nw3 HB2 HQB2 hsz3
      have HTS : Hid (Rs = (Gx.mk 18 [] v0 [E1, E2, E3], r3)) := Lib.hid (by rw [← HLM.out, madeM, if_pos h3h.out, if_neg (by rw [HM.out]; omega), if_pos HM.out, HR1.out, HR2.out, HE1.out, HE2.out, HE3.out, HR3.out])
      have hrg1 := HC1.out.range
      have hrg2 := HC2.out.range
      have hrg3 := HC3.out.range
      obtain ⟨T, hT⟩ : ∃ T, V3.heap.size = T := ⟨_, rfl⟩
      obtain ⟨W9, hW9⟩ : ∃ W9, V3.alloc (.cells (cells3 X1 X2 X3) 32) = W9 := ⟨_, rfl⟩
      have b89 : Below V3.heap.size V3 W9 := by rw [← hW9]; exact (Below.refl _ _).alloc (Nat.le_refl _) _
      have q9 : Blk W9 T (cells3 X1 X2 X3) 32 := by
        have := Blk.new V3 (cells3 X1 X2 X3) 32
        rwa [hW9, hT] at this
      have s9 : W9.heap.size = T + 1 := by rw [← hW9, World.size_alloc, hT]
      have hop := gop_any 18 ⟨some ⟨T, 0, none⟩, 3, 3⟩ W9
      have HW9 := Lib.hid hW9
      have HT := Lib.hid hT
      dsimp only [cells3] at HW9
      clear hW9
      go_wp2_with (first | (refine wpList_load_mid rfl 32 (.tmp 8) rfl (B + 1) 0 rfl X1.cells.toList _ hrg1 Tryz.underlying32 rfl infoExN ?_) | (refine wpList_load_mid rfl 32 (.tmp 9) rfl (B + 2) 0 rfl X2.cells.toList _ hrg2 Tryz.underlying32 rfl infoExN ?_) | (refine wpList_load_mid rfl 32 (.tmp 10) rfl (B + 3) 0 rfl X3.cells.toList _ hrg3 Tryz.underlying32 rfl infoExN ?_))
      try simp only [HT.out]
      rw [HW9.out]
      refine hop.mono ?_
      rintro e w10 ⟨rfl, hb10⟩
      have q10 := (HQB3.out.below b89 (by omega)).below hb10 (by omega)
      have h1o : ∀ u ∈ (opX 18 ⟨some ⟨T, 0, none⟩, 3, 3⟩).cells, u.oneCell' = true := by simp [Value.oneCell']
      clear hop
      go_wp2_with (refine wpList_store_blk rfl 32 32 (.tmp 4) (.tmp 67) rfl (opX 18 ⟨some ⟨T, 0, none⟩, 3, 3⟩).cells _ B q10 infoExN rfl h1o rfl rfl ?_; intro W11 t1 t2 t3 t4)
      refine bodyPost_ret (results_blk2 rfl _ _ B _ _ t1 rfl Tryz.underlying32 rfl infoExN) rfl ?_
      rw [HTS.out]
      have w89 : NewW (B + 4) V3 W11 := (NewW.of b89).trans ((NewW.of hb10).trans (NewW.put t3 (by omega)))
      have w91 : NewW (B + 4) W9 W11 := (NewW.of hb10).trans (NewW.put t3 (by omega))
      exact ⟨_, _, rfl, (exn_three (w91.blk (by omega) q9) (by omega) (HX1.out.move w89) (HX2.out.move w89) (HX3.out.move w89)).mono (by omega), ((HU.out.below (K' := K) b89 (by omega) (Nat.le_refl _)).below (K' := K) hb10 (by omega) (Nat.le_refl _)).below (t2 B (Nat.le_refl _)) (by omega) (Nat.le_refl _), HB3.out.trans ((b89.mono (by omega)).trans ((hb10.mono (by omega)).trans (t2 B (Nat.le_refl _))))⟩
    · have hmn3 : ((m : Int) == 3) = false := by simp; omega
      have HTS : Hid (Rs = (Gx.mk (15 + (p : Int)) [] v0 [E1, E2], r2)) := Lib.hid (by rw [← HLM.out, madeM, if_pos h3h.out, if_neg (by rw [HM.out]; exact hm0), if_neg (by rw [HM.out]; exact hm3), HP.out, HR1.out, HE1.out, HE2.out, HR2.out])
      have hp2 : p < 2 := by have := HP.out; omega
      have hrg1 := HC1.out.range
      have hrg2 := HC2.out.range
      obtain ⟨T, hT⟩ : ∃ T, V2.heap.size = T := ⟨_, rfl⟩
      obtain ⟨W9, hW9⟩ : ∃ W9, V2.alloc (.cells (cells2 X1 X2) 32) = W9 := ⟨_, rfl⟩
      have b89 : Below V2.heap.size V2 W9 := by rw [← hW9]; exact (Below.refl _ _).alloc (Nat.le_refl _) _
      have q9 : Blk W9 T (cells2 X1 X2) 32 := by
        have := Blk.new V2 (cells2 X1 X2) 32
        rwa [hW9, hT] at this
      have s9 : W9.heap.size = T + 1 := by rw [← hW9, World.size_alloc, hT]
      have hop := gop_any (15 + (p : Int)) ⟨some ⟨T, 0, none⟩, 2, 2⟩ W9
      have HW9 := Lib.hid hW9
      have HT := Lib.hid hT
      dsimp only [cells2] at HW9
      clear hW9
      go_wp2_with (first | (refine wpList_load_mid rfl 32 (.tmp 8) rfl (B + 1) 0 rfl X1.cells.toList _ hrg1 Tryz.underlying32 rfl infoExN ?_) | (refine wpList_load_mid rfl 32 (.tmp 9) rfl (B + 2) 0 rfl X2.cells.toList _ hrg2 Tryz.underlying32 rfl infoExN ?_))
      try simp only [HT.out]
      rw [HW9.out]
      refine hop.mono ?_
      rintro e w10 ⟨rfl, hb10⟩
      have q10 := (HQB2.out.below b89 (by omega)).below hb10 (by omega)
      have h1o : ∀ u ∈ (opX (15 + (p : Int)) ⟨some ⟨T, 0, none⟩, 2, 2⟩).cells, u.oneCell' = true := by simp [Value.oneCell']
      clear hop
      go_wp2_with (refine wpList_store_blk rfl 32 32 (.tmp 4) (.tmp 75) rfl (opX (15 + (p : Int)) ⟨some ⟨T, 0, none⟩, 2, 2⟩).cells _ B q10 infoExN rfl h1o rfl rfl ?_; intro W11 t1 t2 t3 t4)
      refine bodyPost_ret (results_blk2 rfl _ _ B _ _ t1 rfl Tryz.underlying32 rfl infoExN) rfl ?_
      rw [HTS.out]
      have w89 : NewW (B + 4) V2 W11 := (NewW.of b89).trans ((NewW.of hb10).trans (NewW.put t3 (by omega)))
      have w91 : NewW (B + 4) W9 W11 := (NewW.of hb10).trans (NewW.put t3 (by omega))
      exact ⟨_, _, rfl, (exn_two (w91.blk (by omega) q9) (by omega) (HX1.out.move w89) (HX2.out.move w89)).mono (by omega), ((HU.out.below (K' := K) b89 (by omega) (Nat.le_refl _)).below (K' := K) hb10 (by omega) (Nat.le_refl _)).below (t2 B (Nat.le_refl _)) (by omega) (Nat.le_refl _), HB2.out.trans ((b89.mono (by omega)).trans ((hb10.mono (by omega)).trans (t2 B (Nat.le_refl _))))⟩
end Go.Proofs.YthooiobhlbnaoaaGreat
namespace Go.Proofs.YthooiobhlbnaoaaGreat
open Go.RowKit
set_option linter.unusedVariables false

theorem madeM_nil (d : Nat) : madeM d [] = (truG, []) := by cases d <;> rfl
theorem gmade_any (d : Nat) : d ≤ 6 → MadeAt d := by
  induction d with
  | zero =>
    intro _ l v K w hu hx hK hlen
    cases l with
    | nil => rw [madeM_nil]; exact gmade_nil K 0 v w hu
    | cons x r =>
      rw [List.length_cons] at hlen
      have := gmade_leaf K 0 x r v w hu hx hK (by omega) (.inl rfl) (by omega)
      rw [madeM]; exact this
  | succ d ih =>
    intro hd l v K w hu hx hK hlen
    cases l with
    | nil => rw [madeM_nil]; exact gmade_nil K (d + 1) v w hu
    | cons x r =>
      rw [List.length_cons] at hlen
      by_cases h3 : x % 3 = 0
      · exact gmade_comp K d x r v w (ih (by omega)) hu hx hK (by omega) h3 (by omega)
      · have := gmade_leaf K (d + 1) x r v w hu hx hK (by omega) (.inr h3) (by omega)
        rw [madeM, if_neg h3]; exact this
set_option maxRecDepth 100000 in
set_option maxHeartbeats 1000000 in
theorem gMade_any (K : Nat) (l : List Nat) (v : Value) (w : World) (hu : U8s K w v l) (hx : ∀ y ∈ l, y < 256) (hK : K ≤ w.heap.size) (hlen : l.length ≤ 2 ^ 40) : Calls Tryz.prog 31 #[v] w fun e w' => ∃ X : Xv, e = .returned X.agg ∧ ExN w.heap.size w' (madeM 6 l).1 X ∧ Below w.heap.size w w' := by
  obtain ⟨W1, hW1⟩ : ∃ W1, w.alloc (.cells xz.cells 32) = W1 := ⟨_, rfl⟩
  have b1 : Below w.heap.size w W1 := by rw [← hW1]; exact (Below.refl _ _).alloc (Nat.le_refl _) _
  have q1 : Blk W1 w.heap.size xz.cells 32 := by rw [← hW1]; exact Blk.new w _ _
  have s1 : W1.heap.size = w.heap.size + 1 := by rw [← hW1]; simp
  obtain ⟨B, hB⟩ : ∃ B, w.heap.size = B := ⟨_, rfl⟩
  have HB := Lib.hid hB
  have HW1 : Hid (w.alloc (.cells #[.int .u8 0, .string ⟨#[]⟩, .int .u8 0, .bool false, .slice none 0 0, .bool false, .slice none 0 0, .int .i64 0, .slice none 0 0] 32) = W1) := Lib.hid hW1
  rw [hB] at b1 q1 s1 hK ⊢
  have hcall : Calls Tryz.prog 84 #[v, .int .i64 6] W1 fun e w' => ∃ X v', e = .returned (.tuple #[X.agg, v']) ∧ ExN W1.heap.size w' (madeM 6 l).1 X ∧ U8s K w' v' (madeM 6 l).2 ∧ Below W1.heap.size W1 w' := gmade_any 6 (Nat.le_refl _) l v K W1 (hu.below b1 hK (Nat.le_refl _)) hx (by omega) hlen
  obtain ⟨E, hE⟩ : ∃ E, (madeM 6 l).1 = E := ⟨_, rfl⟩
  rw [hE] at hcall ⊢
  clear hB hW1 hu hE hx hlen
  go_enter Tryz.func31, Tryz.ntmps31
  go_upto_region 1 with fail
  simp only [HB.out]
  rw [HW1.out]
  go_wp2_with fail
  refine hcall.mono ?_
  rintro e w2 ⟨X, v', rfl, hx, _, hb2⟩
  have hs2 := hb2.size
  have h1c : ∀ u ∈ X.cells, u.oneCell' = true := by simp [Value.oneCell']
  clear hcall
  go_upto_region 2 with (refine wpList_store_new rfl 32 (.tmp 3) (.tmp 8) rfl X.cells _ infoExN rfl h1c w2.heap.size rfl rfl rfl ?_)
  obtain ⟨S, hS⟩ : ∃ S, w2.heap.size = S := ⟨_, rfl⟩
  obtain ⟨W3, hW3⟩ : ∃ W3, w2.alloc (.cells X.cells 32) = W3 := ⟨_, rfl⟩
  have b3 : Below w2.heap.size w2 W3 := by rw [← hW3]; exact (Below.refl _ _).alloc (Nat.le_refl _) _
  have qs : Blk W3 S X.cells 32 := by rw [← hW3, ← hS]; exact Blk.new w2 _ _
  have q3 := (q1.below hb2 (by omega)).below b3 (by omega)
  have hrg := qs.range
  have HS := Lib.hid hS
  have HW3 := Lib.hid hW3
  simp only [HS.out]
  rw [HW3.out]
  clear hS hW3
  go_wp2_with (first
    | (refine wpList_load_mid rfl 32 (.tmp 3) rfl S 0 rfl X.cells.toList _ hrg Tryz.underlying32 rfl infoExN ?_)
    | (refine wpList_store_blk rfl 32 32 (.tmp 2) (.tmp 10) rfl X.cells _ B q3 infoExN rfl h1c rfl rfl ?_; intro W5 t1 t2 t3 t4))
  refine bodyPost_ret (results_blk rfl _ _ B _ _ t1 rfl Tryz.underlying32 rfl infoExN) rfl ?_
  exact ⟨X, rfl, ((hx.mono (by omega : B + 1 ≤ W1.heap.size)).move ((NewW.of b3).trans (NewW.put t3 (by omega)))).mono (by omega), b1.trans ((hb2.mono (by omega)).trans ((b3.mono (by omega)).trans (t2 B (Nat.le_refl _))))⟩
end Go.Proofs.YthooiobhlbnaoaaGreat
