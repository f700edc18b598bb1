/- Contracts and plain laws, several texts in one (GlKit, GlK2, GlK3, GlK4, GlK5). No conditions beyond those stated. -/
import Derived.Test.YthooiobhlbnaoaaGreatGaSmp
namespace Go.Proofs.YthooiobhlbnaoaaGreat
open Go.RowKit
set_option linter.unusedVariables false

def mRows (l : List Nat) : List (List Value) := l.map fun x : Nat => [.int .u16 (x : Int)]
theorem mRows_ok (l : List Nat) : RowsOk 1 (mRows l) := fun r hr => by
  obtain ⟨x, _, rfl⟩ := List.mem_map.1 hr
  exact ⟨rfl, fun u hu => by rw [List.mem_singleton.1 hu]; rfl⟩
theorem OwnR.lm1 {base n : Nat} {w : World} {v : Value} (h : OwnR 1 151 base w v (mRows [n])) (hn : n < 65536) : Lm w.heap.size w v [n] := by
  obtain ⟨b, o, cap, he, h1, h2, h3, h4⟩ := h.rows.pos (by simp [mRows])
  subst he
  refine ⟨RowsV.mk_cells (by simpa [mRows] using h1) h2 h3 fun i hi j hj => ?_, fun d hd => by rw [List.mem_singleton.1 hd]; exact hn⟩
  obtain rfl : i = 0 := by have : i < 1 := hi; omega
  obtain rfl : j = 0 := by omega
  have := h4 0 (by simp [mRows]) 0 (by omega)
  simpa [mRows] using this
theorem lm_one {K n g o cap : Nat} {w : World} (h1 : 1 ≤ cap) (h2 : cap ≤ maxLen) (h3 : g < K) (h4 : w.cell? ⟨g, o, none⟩ = some (.int .u16 n)) (hn : n < 65536) : Lm K w (.slice (some ⟨g, o, none⟩) 1 cap) [n] := by
  refine ⟨RowsV.mk_cells (by simpa using h1) h2 h3 fun i hi j hj => ?_, fun d hd => by rw [List.mem_singleton.1 hd]; exact hn⟩
  obtain rfl : i = 0 := by have : i < 1 := hi; omega
  obtain rfl : j = 0 := by omega
  simpa using h4
theorem Tryz.infoU16G : (Tryz.prog.info? 151).map (fun i => (i.zero, i.size, i.bytes)) = some (some (.int .u16 0), 1, 2) := by kernel_rfl
set_option maxRecDepth 100000 in
set_option maxHeartbeats 1000000 in
theorem kwhole_any (n : Nat) (w : World) (h0 : 0 < n) (hn : n < 65536) :
    Calls Tryz.prog 90 #[.int .i64 n] w fun e w' => ∃ v, e = .returned (Wv v) ∧ Lm w'.heap.size w' v [n] ∧ Below w.heap.size w w' ∧ NewV w.heap.size v := by
  have hw1 : IntKind.u64.wrap (n : Int) = (n : Int) := by rw [IntKind.wrap_u64]; omega
  have hw2 : IntKind.u16.wrap (n : Int) = (n : Int) := by rw [IntKind.wrap_u16]; omega
  have hdv : (n : Int) / 65536 = 0 := by omega
  have hlt : decide ((n : Int) < 0) = false := by simp
  have hgt : decide ((0 : Int) < (n : Int)) = true := by simp; omega
  obtain ⟨W1, hW1⟩ : ∃ W1, ((w.alloc (.cells #[.bool false, .slice none 0 0] 26)).alloc (.cells #[.bool false, .slice none 0 0] 26)).alloc (.cells #[.int .u16 n] 151) = W1 := ⟨_, rfl⟩
  obtain ⟨b1, q0, q1, q2, s1⟩ := alloc3 w _ _ _ _ _ _ hW1
  obtain ⟨B, hB⟩ : ∃ B, w.heap.size = B := ⟨_, rfl⟩
  have HB := Lib.hid hB
  have HW := Lib.hid hW1
  rw [hB] at b1 q0 q1 q2 s1 ⊢
  have hcell : ∀ (i : Nat) (r : List Value) (j : Nat) (u : Value), (mRows [n])[i]? = some r → r[j]? = some u → W1.cell? ⟨B + 2, 0 + (i * 1 + j), none⟩ = some u := fun i r j u hi hj => by
    match i, hi with
    | 0, hi =>
      simp only [mRows, List.map_cons, List.map_nil, List.getElem?_cons_zero, Option.some.injEq] at hi
      subst hi
      match j, hj with
      | 0, hj => cases hj; exact q2.at rfl
      | j + 1, hj => simp at hj
    | i + 1, hi => simp [mRows] at hi
  have HC := Lib.hid hcell
  clear hB hW1 hcell
  go_enter Tryz.func90, Tryz.ntmps90
  go_wp2_with fail
  refine wp_loop_rounds 2 ?_
  rw [rounds_succ]
  go_wp2_with (at_builtin; simp only [HB.out, Nat.add_assoc, Nat.reduceAdd]; rw [HW.out]; refine wpList_append_rows rfl (.tmp 19) (.tmp 22) 24 rfl Tryz.underlying24 Tryz.infoU16G (by kernel_rfl) (by decide) (by simp [Act.eval]) (OwnR.nil 1 151 B W1) (b := B + 2) (off := 0) (m := 1) (cap := 1) (ms := mRows [n]) (by simp [Act.eval]) rfl (mRows_ok _) HC.out (by decide) (by simp [maxLen]) (by simp) (by omega) ?_)
  intro g cap w5 hown hg5 hat5
  have hg9 : g = B + 3 := by
    rcases hat5 with h | h
    · cases h
    · omega
  subst hg9
  have b5' : Below W1.heap.size W1 w5 := below_grown hg5 (fun r e => by cases e) (Nat.le_refl _)
  have hs5 := b5'.size
  have b5 : Below B w w5 := b1.trans (b5'.mono (by omega))
  have p0 := q0.below b5' q0.lt
  have p1 := q1.below b5' q1.lt
  obtain ⟨gb, go, gc, he, hc1, hc2, hc3, hc4⟩ := hown.rows.pos (by simp [mRows])
  simp only [Value.slice.injEq, Option.some.injEq, Addr.mk.injEq, and_true] at he
  obtain ⟨⟨hgb, rfl⟩, h11, rfl⟩ := he
  subst hgb
  clear h11
  have hc5 : w5.cell? ⟨B + 3, 0, none⟩ = some (.int .u16 n) := hc4 0 (by simp [mRows]) 0 (by omega)
  have hc1 : 1 ≤ cap := by simpa [mRows] using hc1
  obtain ⟨d0, d1⟩ := p1.two
  have f1 := p1.free 1
  have r1 := p1.set (i := 1) (.slice (some ⟨B + 3, 0, none⟩) 1 cap)
  have r0 := p0.other (b' := B + 1) (i := 1) (by omega) (.slice (some ⟨B + 3, 0, none⟩) 1 cap)
  obtain ⟨W6, hW6⟩ : ∃ W6, w5.setCell ⟨B + 1, 1, none⟩ (.slice (some ⟨B + 3, 0, none⟩) 1 cap) = W6 := ⟨_, rfl⟩
  have b6 : Below B w W6 := by rw [← hW6]; exact b5.setCell (p := ⟨B + 1, 1, none⟩) (by simp) _
  have hg6 : w5.grownBy W6 (some (B + 1)) := by rw [← hW6]; exact grownBy_setCell _ _ _ _
  rw [hW6] at r0 r1
  have HW6 := Lib.hid hW6
  have hc6 : W6.cell? ⟨B + 3, 0, none⟩ = some (.int .u16 n) := hg6.cell hc5 (by simp)
  have HC6 := Lib.hid hc6
  have hs6 := hg6.size
  clear hW6 hc6 hc5 hc4 hg6 hown hg5 hat5 p0 p1 b5' q0 q1 q2
  go_upto_region 6 with fail
  rw [HW6.out]
  clear d0 d1 f1
  go_wp2_with fail
  rw [rounds_succ]
  obtain ⟨d0, d1⟩ := r1.two
  obtain ⟨d2, d3⟩ := r0.two
  have f2 := r0.free 0
  have f3 := r0.free 1
  go_wp2_with fail
  have r2 := (r0.set (i := 0) (.bool false)).set (i := 1) (.slice (some ⟨B + 3, 0, none⟩) 1 cap)
  obtain ⟨e0, e1⟩ := r2.two
  refine bodyPost_ret (v := Wv (.slice (some ⟨B + 3, 0, none⟩) 1 cap)) (by simp [results, Tryz.results90, go_sem, e0, e1]) rfl ?_
  have hg8 : W6.grownBy ((W6.setCell ⟨B, 0, none⟩ (.bool false)).setCell ⟨B, 1, none⟩ (.slice (some ⟨B + 3, 0, none⟩) 1 cap)) (some B) := grownBy_then (grownBy_setCell _ _ _ _) (grownBy_setCell _ _ _ _)
  have hs8 := hg8.size
  exact ⟨_, rfl, lm_one hc1 hc2 (by omega) (hg8.cell HC6.out (by simp)) hn, below_set2 b6 (Nat.le_refl _) _ _, NewV.at (by omega)⟩
end Go.Proofs.YthooiobhlbnaoaaGreat
namespace Go.Proofs.YthooiobhlbnaoaaGreat
open Go.RowKit
set_option linter.unusedVariables false

/-- Cells of another block may turn. -/
theorem lm_put {K L r n : Nat} {w w' : World} {v : Value} (h : Lm K w v [n]) (hv : NewV L v) (hr : r < L) (hg : w.grownBy w' (some r)) (hK : K ≤ w'.heap.size) : Lm w'.heap.size w' v [n] := by
  obtain ⟨b, o, c, rfl, h1, h2, h3, h4⟩ := h.pos (by simp)
  have hb := hv b o _ c rfl
  have h40 : w.cell? ⟨b, o, none⟩ = some (.int .u16 n) := by have := h4 0 (by simp); simpa using this
  exact lm_one (by simpa using h1) h2 (by omega) (hg.cell h40 (by simp; omega)) (h.2 n (by simp))
theorem grown_set4 (w : World) (r : Nat) (x0 x1 x2 x3 : Value) : w.grownBy ((((w.setCell ⟨r, 0, none⟩ x0).setCell ⟨r, 1, none⟩ x1).setCell ⟨r, 2, none⟩ x2).setCell ⟨r, 3, none⟩ x3) (some r) :=
  grownBy_then (grownBy_then (grownBy_then (grownBy_setCell _ _ _ _) (grownBy_setCell _ _ _ _)) (grownBy_setCell _ _ _ _)) (grownBy_setCell _ _ _ _)
theorem size_set4 (w : World) (r : Nat) (x0 x1 x2 x3 : Value) : ((((w.setCell ⟨r, 0, none⟩ x0).setCell ⟨r, 1, none⟩ x1).setCell ⟨r, 2, none⟩ x2).setCell ⟨r, 3, none⟩ x3).heap.size = w.heap.size := by simp [World.setCell]
set_option maxRecDepth 100000 in
set_option maxHeartbeats 1000000 in
theorem kfrac0_any (w : World) :
    Calls Tryz.prog 44 #[.int .i64 0, .int .i64 1] w fun e w' => ∃ v, e = .returned (Fv (.slice none 0 0) v) ∧ (∃ a c, v = .slice a 1 c) ∧ Lm w'.heap.size w' v [1] ∧ Below w.heap.size w w' ∧ NewV w.heap.size v := by
  obtain ⟨W1, hW1⟩ : ∃ W1, w.alloc (.cells #[.bool false, .slice none 0 0, .bool false, .slice none 0 0] 28) = W1 := ⟨_, rfl⟩
  have b1 : Below w.heap.size w W1 := by rw [← hW1]; exact (Below.refl _ _).alloc (Nat.le_refl _) _
  have q1 : Blk W1 w.heap.size #[.bool false, .slice none 0 0, .bool false, .slice none 0 0] 28 := by rw [← hW1]; exact Blk.new w _ _
  have s1 : W1.heap.size = w.heap.size + 1 := by rw [← hW1]; simp
  obtain ⟨B, hB⟩ : ∃ B, w.heap.size = B := ⟨_, rfl⟩
  have HB := Lib.hid hB
  have HW := Lib.hid hW1
  rw [hB] at b1 q1 s1 ⊢
  have hc : Calls Tryz.prog 90 #[.int .i64 1] W1 fun e w' => ∃ v, e = .returned (Wv v) ∧ Lm w'.heap.size w' v [1] ∧ Below W1.heap.size W1 w' ∧ NewV W1.heap.size v := kwhole_any 1 W1 (by omega) (by omega)
  clear hB hW1
  go_enter Tryz.func44, Tryz.ntmps44
  go_wp2_with fail
  simp only [HB.out]
  rw [HW.out]
  refine hc.mono ?_
  rintro e w2 ⟨v, rfl, hl, hb2, hn⟩
  obtain ⟨a, c, rfl, _⟩ := hl.form
  have hs2 := hb2.size
  have q2 := q1.below hb2 (by omega)
  obtain ⟨d0, d1, d2, d3⟩ := q2.four
  have f0 := q2.free 0
  have f1 := q2.free 1
  have f2 := q2.free 2
  have f3 := q2.free 3
  have HL := Lib.hid hl
  clear hc hl
  simp only [List.length_cons, List.length_nil, Nat.zero_add] at *
  go_wp2_with fail
  have q4 := (((q2.set (i := 0) (.bool false)).set (i := 1) (.slice none 0 0)).set (i := 2) (.bool false)).set (i := 3) (.slice a 1 c)
  obtain ⟨e0, e1, e2, e3⟩ := q4.four
  refine bodyPost_ret (v := Fv (.slice none 0 0) (.slice a 1 c)) (by simp [results, Tryz.results44, go_sem, e0, e1, e2, e3]) rfl ?_
  exact ⟨_, rfl, ⟨_, _, rfl⟩, lm_put HL.out hn (show B < W1.heap.size by omega) (grown_set4 _ _ _ _ _ _) (by rw [size_set4]; exact Nat.le_refl _), (((((b1.trans (hb2.mono (by omega))).setCell (p := ⟨B, 0, none⟩) (by simp) _).setCell (p := ⟨B, 1, none⟩) (by simp) _).setCell (p := ⟨B, 2, none⟩) (by simp) _).setCell (p := ⟨B, 3, none⟩) (by simp) _), hn.mono (by omega)⟩
end Go.Proofs.YthooiobhlbnaoaaGreat
namespace Go.Proofs.YthooiobhlbnaoaaGreat
open Go.RowKit
set_option linter.unusedVariables false

set_option maxRecDepth 100000 in
set_option maxHeartbeats 1000000 in
theorem kfrac1_any (n : Nat) (w : World) (h0 : 0 < n) (hn : n < 65536) :
    Calls Tryz.prog 44 #[.int .i64 n, .int .i64 1] w fun e w' => ∃ u v, e = .returned (Fv u v) ∧ (∃ a c, u = .slice a 1 c) ∧ (∃ a c, v = .slice a 1 c) ∧ Lm w'.heap.size w' u [n] ∧ Lm w'.heap.size w' v [1] ∧ Below w.heap.size w w' ∧ NewV w.heap.size u ∧ NewV w.heap.size v := by
  obtain ⟨W1, hW1⟩ : ∃ W1, w.alloc (.cells #[.bool false, .slice none 0 0, .bool false, .slice none 0 0] 28) = W1 := ⟨_, rfl⟩
  have b1 : Below w.heap.size w W1 := by rw [← hW1]; exact (Below.refl _ _).alloc (Nat.le_refl _) _
  have q1 : Blk W1 w.heap.size #[.bool false, .slice none 0 0, .bool false, .slice none 0 0] 28 := by rw [← hW1]; exact Blk.new w _ _
  have s1 : W1.heap.size = w.heap.size + 1 := by rw [← hW1]; simp
  obtain ⟨B, hB⟩ : ∃ B, w.heap.size = B := ⟨_, rfl⟩
  have HB := Lib.hid hB
  have HW := Lib.hid hW1
  rw [hB] at b1 q1 s1 ⊢
  have hc : ∀ W, Calls Tryz.prog 90 #[.int .i64 n] W fun e w' => ∃ v, e = .returned (Wv v) ∧ Lm w'.heap.size w' v [n] ∧ Below W.heap.size W w' ∧ NewV W.heap.size v := fun W => kwhole_any n W (by omega) (by omega)
  have hc2 : ∀ W, Calls Tryz.prog 90 #[.int .i64 1] W fun e w' => ∃ v, e = .returned (Wv v) ∧ Lm w'.heap.size w' v [1] ∧ Below W.heap.size W w' ∧ NewV W.heap.size v := fun W => kwhole_any 1 W (by omega) (by omega)
  have HC := Lib.hid hc
  have HC2 := Lib.hid hc2
  have e0 : ((n : Int) == 0) = false := by simp; omega
  have e1 : decide ((n : Int) < 0) = false := by simp
  have hw1 : IntKind.u64.wrap (n : Int) = (n : Int) := by rw [IntKind.wrap_u64]; omega
  clear hB hW1 hc hc2
  go_enter Tryz.func44, Tryz.ntmps44
  go_upto_region 1 with fail
  simp only [HB.out]
  rw [HW.out]
  go_wp2_with fail
  refine wp_loop_rounds 2 ?_
  rw [rounds_succ]
  go_upto_region 7 with fail
  go_quiet (fail)
  go_wp2_with fail
  rw [rounds_succ]
  go_upto_region 8 with fail
  generalize hX : W1.drewN _ = W2
  have b2' : Below W1.heap.size W1 W2 := by rw [← hX]; exact below_drewN2 (Below.refl _ _) _
  have hs2 := b2'.size
  have b2 : Below B w W2 := b1.trans (b2'.mono (by omega))
  have q2 := q1.below b2' (by omega)
  clear hX
  refine region_plain (fun W' => Below W2.heap.size W2 W') [11] (by kernel_rfl) ?_
  have qS : (fun W' => Below W2.heap.size W2 W') W2.drew := below_quiet (Below.refl _ _)
  refine wpAnyD_take (i := 0) (v := .int .i64 (n : Int)) rfl (by kernel_rfl) (by kernel_rfl) (by kernel_rfl) (by kernel_rfl) (by kernel_rfl) (fun _ _ _ h => h) (.inl ⟨by kernel_rfl, fun W' hS => by go_simp⟩) qS ?_
  refine wpAnyD_take (i := 1) (v := .int .u64 1) rfl (by kernel_rfl) (by kernel_rfl) (by kernel_rfl) (by kernel_rfl) (by kernel_rfl) (fun _ _ _ h => h) (.inl ⟨by kernel_rfl, fun W' hS => by go_simp⟩) qS ?_
  refine wpAnyD_take (i := 2) (v := .int .i64 1) rfl (by kernel_rfl) (by kernel_rfl) (by kernel_rfl) (by kernel_rfl) (by kernel_rfl) (fun _ _ _ h => h) (.inl ⟨by kernel_rfl, fun W' hS => by have w1 : IntKind.i64.wrap 1 = 1 := IntWalk.i64_in _ (by omega); go_simp⟩) qS ?_
  refine wpAnyD_take (i := 3) (v := .int .i64 (n : Int)) rfl (by kernel_rfl) (by kernel_rfl) (by kernel_rfl) (by kernel_rfl) (by kernel_rfl) (fun _ _ _ h => h) (.inl ⟨by kernel_rfl, fun W' hS => by have wn : IntKind.i64.wrap (n : Int) = (n : Int) := IntWalk.i64_in _ (by omega); go_simp⟩) qS ?_
  refine wpAnyD_take (i := 5) (v := .int .i64 1) rfl (by kernel_rfl) (by kernel_rfl) (by kernel_rfl) (by kernel_rfl) (by kernel_rfl) (fun _ _ _ h => h) (.inl ⟨by kernel_rfl, fun W' hS => by go_simp⟩) qS ?_
  refine wpAnyD_take (i := 6) (v := .int .u64 1) rfl (by kernel_rfl) (by kernel_rfl) (by kernel_rfl) (by kernel_rfl) (by kernel_rfl) (fun _ _ _ h => h) (.inl ⟨by kernel_rfl, fun W' hS => by go_simp⟩) qS ?_
  refine wpAnyD_take (i := 7) (v := .int .i64 1) rfl (by kernel_rfl) (by kernel_rfl) (by kernel_rfl) (by kernel_rfl) (by kernel_rfl) (fun _ _ _ h => h) (.inl ⟨by kernel_rfl, fun W' hS => by have w1 : IntKind.i64.wrap 1 = 1 := IntWalk.i64_in _ (by omega); go_simp⟩) qS ?_
  refine wpAnyD_take (i := 8) (v := .int .i64 1) rfl (by kernel_rfl) (by kernel_rfl) (by kernel_rfl) (by kernel_rfl) (by kernel_rfl) (fun _ _ _ h => h) (.inl ⟨by kernel_rfl, fun W' hS => by have wn : IntKind.i64.wrap 1 = 1 := IntWalk.i64_in _ (by omega); go_simp⟩) qS ?_
  refine wpAnyD_one (i := 4) (by kernel_rfl) rfl (by kernel_rfl) ?_
  go_simp
  refine (HC.out _).mono ?_
  rintro e w3 ⟨v3, rfl, hl3, hb3, hn3⟩
  have qS3 : Below W2.heap.size W2 w3 := qS.trans (hb3.mono qS.size)
  obtain ⟨a3, c3, rfl, _⟩ := hl3.form
  have HL3 := Lib.hid hl3
  clear hl3
  go_simp
  refine wpAnyD_one (i := 9) (by kernel_rfl) rfl (by kernel_rfl) ?_
  go_simp
  refine (HC2.out _).mono ?_
  rintro e w4 ⟨v4, rfl, hl4, hb4, hn4⟩
  have qS4 : Below W2.heap.size W2 w4 := qS3.trans (hb4.mono qS3.size)
  obtain ⟨a4, c4, rfl, _⟩ := hl4.form
  have HL4 := Lib.hid hl4
  have hn43 : NewV W2.heap.size (.slice a3 1 c3) := hn3
  have hn44 : NewV W2.heap.size (.slice a4 1 c4) := hn4.mono qS3.size
  have HL34 := Lib.hid (HL3.out.below hb4 (Nat.le_refl _) hb4.size)
  clear hl4
  go_simp
  refine wpAnyD_take (i := 10) (v := Fv (.slice a3 1 c3) (.slice a4 1 c4)) rfl (by kernel_rfl) (by kernel_rfl) (by kernel_rfl) (by kernel_rfl) (by kernel_rfl) (fun _ _ _ h => h) (.inl ⟨by kernel_rfl, fun W' hS => by go_simp⟩) qS4 ?_
  have q4 := q2.below qS4 (by omega)
  obtain ⟨c0, c1, c2, c3'⟩ := q4.four
  have f0 := q4.free 0
  have f1 := q4.free 1
  have f2 := q4.free 2
  have f3 := q4.free 3
  refine wpAnyD_one (i := 11) (by kernel_rfl) rfl (by kernel_rfl) ?_
  go_simp
  refine wpAnyD_done (by kernel_rfl) ?_ _
  clear c0 c1 c2 c3' f0 f1 f2 f3
  have b4 : Below B w w4 := b2.trans (qS4.mono (by omega))
  have hs4 := qS4.size
  have x5 := (((q4.set (i := 0) (.bool false)).set (i := 1) (.slice a3 1 c3)).set (i := 2) (.bool false)).set (i := 3) (.slice a4 1 c4)
  obtain ⟨e0, e1, e2, e3⟩ := x5.four
  go_wp2_with fail
  refine bodyPost_ret (v := Fv (.slice a3 1 c3) (.slice a4 1 c4)) (by simp [results, Tryz.results44, go_sem, e0, e1, e2, e3]) rfl ?_
  exact ⟨_, _, rfl, ⟨_, _, rfl⟩, ⟨_, _, rfl⟩, lm_put HL34.out hn43 (show B < W2.heap.size by omega) (grown_set4 _ _ _ _ _ _) (by rw [size_set4]; exact Nat.le_refl _), lm_put HL4.out hn44 (show B < W2.heap.size by omega) (grown_set4 _ _ _ _ _ _) (by rw [size_set4]; exact Nat.le_refl _), (((b4.setCell (p := ⟨B, 0, none⟩) (by simp) _).setCell (p := ⟨B, 1, none⟩) (by simp) _).setCell (p := ⟨B, 2, none⟩) (by simp) _).setCell (p := ⟨B, 3, none⟩) (by simp) _, hn43.mono (by omega), hn44.mono (by omega)⟩

set_option maxRecDepth 100000 in
set_option maxHeartbeats 1000000 in
theorem kfrac12_any (w : World) :
    Calls Tryz.prog 44 #[.int .i64 1, .int .i64 2] w fun e w' => ∃ u v, e = .returned (Fv u v) ∧ (∃ a c, u = .slice a 1 c) ∧ (∃ a c, v = .slice a 1 c) ∧ Lm w'.heap.size w' u [1] ∧ Lm w'.heap.size w' v [2] ∧ Below w.heap.size w w' ∧ NewV w.heap.size u ∧ NewV w.heap.size v := by
  obtain ⟨W1, hW1⟩ : ∃ W1, w.alloc (.cells #[.bool false, .slice none 0 0, .bool false, .slice none 0 0] 28) = W1 := ⟨_, rfl⟩
  have b1 : Below w.heap.size w W1 := by rw [← hW1]; exact (Below.refl _ _).alloc (Nat.le_refl _) _
  have q1 : Blk W1 w.heap.size #[.bool false, .slice none 0 0, .bool false, .slice none 0 0] 28 := by rw [← hW1]; exact Blk.new w _ _
  have s1 : W1.heap.size = w.heap.size + 1 := by rw [← hW1]; simp
  obtain ⟨B, hB⟩ : ∃ B, w.heap.size = B := ⟨_, rfl⟩
  have HB := Lib.hid hB
  have HW := Lib.hid hW1
  rw [hB] at b1 q1 s1 ⊢
  have hc : ∀ W, Calls Tryz.prog 90 #[.int .i64 1] W fun e w' => ∃ v, e = .returned (Wv v) ∧ Lm w'.heap.size w' v [1] ∧ Below W.heap.size W w' ∧ NewV W.heap.size v := fun W => kwhole_any 1 W (by omega) (by omega)
  have hc2 : ∀ W, Calls Tryz.prog 90 #[.int .i64 2] W fun e w' => ∃ v, e = .returned (Wv v) ∧ Lm w'.heap.size w' v [2] ∧ Below W.heap.size W w' ∧ NewV W.heap.size v := fun W => kwhole_any 2 W (by omega) (by omega)
  have HC := Lib.hid hc
  have HC2 := Lib.hid hc2
  clear hB hW1 hc hc2
  go_enter Tryz.func44, Tryz.ntmps44
  go_upto_region 1 with fail
  simp only [HB.out]
  rw [HW.out]
  go_wp2_with fail
  refine wp_loop_rounds 3 ?_
  rw [rounds_succ]
  go_upto_region 7 with fail
  go_quiet (fail)
  go_wp2_with fail
  rw [rounds_succ]
  go_upto_region 7 with fail
  go_quiet (fail)
  go_wp2_with fail
  rw [rounds_succ]
  go_upto_region 8 with fail
  generalize hX : World.drewN _ _ = W2
  have b2' : Below W1.heap.size W1 W2 := by rw [← hX]; first | exact below_drewN2 (Below.refl _ _) _ | exact below_drewN2 (below_drewN2 (Below.refl _ _) _) _
  have hs2 := b2'.size
  have b2 : Below B w W2 := b1.trans (b2'.mono (by omega))
  have q2 := q1.below b2' (by omega)
  clear hX
  refine region_plain (fun W' => Below W2.heap.size W2 W') [11] (by kernel_rfl) ?_
  have qS : (fun W' => Below W2.heap.size W2 W') W2.drew := below_quiet (Below.refl _ _)
  refine wpAnyD_take (i := 0) (v := .int .i64 1) rfl (by kernel_rfl) (by kernel_rfl) (by kernel_rfl) (by kernel_rfl) (by kernel_rfl) (fun _ _ _ h => h) (.inl ⟨by kernel_rfl, fun W' hS => by go_simp⟩) qS ?_
  refine wpAnyD_take (i := 1) (v := .int .u64 1) rfl (by kernel_rfl) (by kernel_rfl) (by kernel_rfl) (by kernel_rfl) (by kernel_rfl) (fun _ _ _ h => h) (.inl ⟨by kernel_rfl, fun W' hS => by go_simp⟩) qS ?_
  refine wpAnyD_take (i := 2) (v := .int .i64 1) rfl (by kernel_rfl) (by kernel_rfl) (by kernel_rfl) (by kernel_rfl) (by kernel_rfl) (fun _ _ _ h => h) (.inl ⟨by kernel_rfl, fun W' hS => by have w1 : IntKind.i64.wrap 1 = 1 := IntWalk.i64_in _ (by omega); go_simp⟩) qS ?_
  refine wpAnyD_take (i := 3) (v := .int .i64 1) rfl (by kernel_rfl) (by kernel_rfl) (by kernel_rfl) (by kernel_rfl) (by kernel_rfl) (fun _ _ _ h => h) (.inl ⟨by kernel_rfl, fun W' hS => by have wn : IntKind.i64.wrap 1 = 1 := IntWalk.i64_in _ (by omega); go_simp⟩) qS ?_
  refine wpAnyD_take (i := 5) (v := .int .i64 2) rfl (by kernel_rfl) (by kernel_rfl) (by kernel_rfl) (by kernel_rfl) (by kernel_rfl) (fun _ _ _ h => h) (.inl ⟨by kernel_rfl, fun W' hS => by go_simp⟩) qS ?_
  refine wpAnyD_take (i := 6) (v := .int .u64 1) rfl (by kernel_rfl) (by kernel_rfl) (by kernel_rfl) (by kernel_rfl) (by kernel_rfl) (fun _ _ _ h => h) (.inl ⟨by kernel_rfl, fun W' hS => by go_simp⟩) qS ?_
  refine wpAnyD_take (i := 7) (v := .int .i64 1) rfl (by kernel_rfl) (by kernel_rfl) (by kernel_rfl) (by kernel_rfl) (by kernel_rfl) (fun _ _ _ h => h) (.inl ⟨by kernel_rfl, fun W' hS => by have w1 : IntKind.i64.wrap 1 = 1 := IntWalk.i64_in _ (by omega); go_simp⟩) qS ?_
  refine wpAnyD_take (i := 8) (v := .int .i64 2) rfl (by kernel_rfl) (by kernel_rfl) (by kernel_rfl) (by kernel_rfl) (by kernel_rfl) (fun _ _ _ h => h) (.inl ⟨by kernel_rfl, fun W' hS => by have wn : IntKind.i64.wrap 2 = 2 := IntWalk.i64_in _ (by omega); go_simp⟩) qS ?_
  refine wpAnyD_one (i := 4) (by kernel_rfl) rfl (by kernel_rfl) ?_
  go_simp
  refine (HC.out _).mono ?_
  rintro e w3 ⟨v3, rfl, hl3, hb3, hn3⟩
  have qS3 : Below W2.heap.size W2 w3 := qS.trans (hb3.mono qS.size)
  obtain ⟨a3, c3, rfl, _⟩ := hl3.form
  have HL3 := Lib.hid hl3
  clear hl3
  go_simp
  refine wpAnyD_one (i := 9) (by kernel_rfl) rfl (by kernel_rfl) ?_
  go_simp
  refine (HC2.out _).mono ?_
  rintro e w4 ⟨v4, rfl, hl4, hb4, hn4⟩
  have qS4 : Below W2.heap.size W2 w4 := qS3.trans (hb4.mono qS3.size)
  obtain ⟨a4, c4, rfl, _⟩ := hl4.form
  have HL4 := Lib.hid hl4
  have hn43 : NewV W2.heap.size (.slice a3 1 c3) := hn3
  have hn44 : NewV W2.heap.size (.slice a4 1 c4) := hn4.mono qS3.size
  have HL34 := Lib.hid (HL3.out.below hb4 (Nat.le_refl _) hb4.size)
  clear hl4
  go_simp
  refine wpAnyD_take (i := 10) (v := Fv (.slice a3 1 c3) (.slice a4 1 c4)) rfl (by kernel_rfl) (by kernel_rfl) (by kernel_rfl) (by kernel_rfl) (by kernel_rfl) (fun _ _ _ h => h) (.inl ⟨by kernel_rfl, fun W' hS => by go_simp⟩) qS4 ?_
  have q4 := q2.below qS4 (by omega)
  obtain ⟨c0, c1, c2, c3'⟩ := q4.four
  have f0 := q4.free 0
  have f1 := q4.free 1
  have f2 := q4.free 2
  have f3 := q4.free 3
  refine wpAnyD_one (i := 11) (by kernel_rfl) rfl (by kernel_rfl) ?_
  go_simp
  refine wpAnyD_done (by kernel_rfl) ?_ _
  clear c0 c1 c2 c3' f0 f1 f2 f3
  have b4 : Below B w w4 := b2.trans (qS4.mono (by omega))
  have hs4 := qS4.size
  have x5 := (((q4.set (i := 0) (.bool false)).set (i := 1) (.slice a3 1 c3)).set (i := 2) (.bool false)).set (i := 3) (.slice a4 1 c4)
  obtain ⟨e0, e1, e2, e3⟩ := x5.four
  go_wp2_with fail
  refine bodyPost_ret (v := Fv (.slice a3 1 c3) (.slice a4 1 c4)) (by simp [results, Tryz.results44, go_sem, e0, e1, e2, e3]) rfl ?_
  exact ⟨_, _, rfl, ⟨_, _, rfl⟩, ⟨_, _, rfl⟩, lm_put HL34.out hn43 (show B < W2.heap.size by omega) (grown_set4 _ _ _ _ _ _) (by rw [size_set4]; exact Nat.le_refl _), lm_put HL4.out hn44 (show B < W2.heap.size by omega) (grown_set4 _ _ _ _ _ _) (by rw [size_set4]; exact Nat.le_refl _), (((b4.setCell (p := ⟨B, 0, none⟩) (by simp) _).setCell (p := ⟨B, 1, none⟩) (by simp) _).setCell (p := ⟨B, 2, none⟩) (by simp) _).setCell (p := ⟨B, 3, none⟩) (by simp) _, hn43.mono (by omega), hn44.mono (by omega)⟩
end Go.Proofs.YthooiobhlbnaoaaGreat
namespace Go.Proofs.YthooiobhlbnaoaaGreat
open Go.RowKit
set_option linter.unusedVariables false

theorem infoExN : (Tryz.prog.info? 32).map (fun i => i.size) = some 9 := by kernel_rfl
set_option maxRecDepth 100000 in
set_option maxHeartbeats 1000000 in
theorem gval4_any (n : Int) (w : World) : Calls Tryz.prog 43 #[.int .u8 4, .int .i64 n] w fun e w' => e = .returned (wholeX 4 n).agg ∧ Below w.heap.size w w' := by
  have b1 : Below w.heap.size w (w.alloc (.cells (wholeX 4 n).cells 30)) := (Below.refl _ _).alloc (Nat.le_refl _) _
  have h1c : ∀ u ∈ (wholeX 4 n).cells, u.oneCell' = true := by simp [Value.oneCell']
  go_enter Tryz.func43, Tryz.ntmps43
  go_upto_region 3 with fail
  go_wp2_with (refine wpList_store_new rfl 30 (.tmp 4) (.tmp 17) rfl (wholeX 4 n).cells _ infoValN rfl h1c w.heap.size rfl rfl rfl ?_)
  refine bodyPost_ret (results_blk rfl _ _ w.heap.size _ _ (Blk.new w _ _) rfl Tryz.underlying30 rfl infoValN) rfl ?_
  exact ⟨rfl, b1⟩
set_option maxRecDepth 100000 in
set_option maxHeartbeats 1000000 in
theorem gval2_any (n : Nat) (w : World) (hn : n < 65536) : Calls Tryz.prog 43 #[.int .u8 2, .int .i64 n] w fun e w' => ∃ x : Vv, e = .returned x.agg ∧ VlX w'.heap.size w' (num (if n = 0 then [] else [n]) [1]) x ∧ NewV w.heap.size x.s1 ∧ NewV w.heap.size x.s2 ∧ Below w.heap.size w w' := by
  obtain ⟨W1, hW1⟩ : ∃ W1, w.alloc (.cells vv0.cells 30) = W1 := ⟨_, rfl⟩
  have b1 : Below w.heap.size w W1 := by rw [← hW1]; exact (Below.refl _ _).alloc (Nat.le_refl _) _
  have q1 : Blk W1 w.heap.size vv0.cells 30 := by rw [← hW1]; exact Blk.new w _ _
  have s1 : W1.heap.size = w.heap.size + 1 := by rw [← hW1]; simp
  have hc : Calls Tryz.prog 44 #[.int .i64 n, .int .i64 1] W1 fun e w' => ∃ au nu mu av mv, e = .returned (Fv (.slice au nu mu) (.slice av 1 mv)) ∧ (∀ r, r < W1.heap.size → ∀ w'', w'.grownBy w'' (some r) → Lm w''.heap.size w'' (.slice au nu mu) (if n = 0 then [] else [n]) ∧ Lm w''.heap.size w'' (.slice av 1 mv) [1]) ∧ NewV W1.heap.size (.slice au nu mu) ∧ NewV W1.heap.size (.slice av 1 mv) ∧ Below W1.heap.size W1 w' := by
    by_cases h0 : n = 0
    · subst h0
      refine (kfrac0_any W1).mono ?_
      rintro e w' ⟨v, rfl, ⟨a, c, rfl⟩, hl, hb, hn⟩
      exact ⟨none, 0, 0, a, c, rfl, fun r hr w'' hg => ⟨Lm.nil _ _, lm_put hl hn hr hg hg.size⟩, NewV.nil _ _ _, hn, hb⟩
    · refine (kfrac1_any n W1 (by omega) hn).mono ?_
      rintro e w' ⟨u, v, rfl, ⟨a, c, rfl⟩, ⟨a', c', rfl⟩, hl, hl', hb, hn, hn'⟩
      exact ⟨a, 1, c, a', c', rfl, fun r hr w'' hg => ⟨by rw [if_neg h0]; exact lm_put hl hn hr hg hg.size, lm_put hl' hn' hr hg hg.size⟩, hn, hn', hb⟩
  obtain ⟨L, hL⟩ : ∃ L, (if n = 0 then [] else [n]) = L := ⟨_, rfl⟩
  rw [hL] at hc ⊢
  obtain ⟨B, hB⟩ : ∃ B, w.heap.size = B := ⟨_, rfl⟩
  have HB := Lib.hid hB
  have HW := Lib.hid hW1
  rw [hB] at b1 q1 s1 ⊢
  dsimp only [Vv.cells, vv0] at HW
  clear hB hW1 hL
  go_enter Tryz.func43, Tryz.ntmps43
  go_upto_region 1 with fail
  simp only [HB.out]
  rw [HW.out]
  go_wp2_with fail
  refine hc.mono ?_
  rintro e w2 ⟨au, nu, mu, av, mv, rfl, hk, hn1, hn2, hb2⟩
  have q2 := q1.below hb2 (by omega)
  have HK := Lib.hid hk
  have h1c : ∀ u ∈ (⟨2, false, .slice au nu mu, false, .slice av 1 mv, 0⟩ : Vv).cells, u.oneCell' = true := by simp [Value.oneCell']
  clear hc hk
  go_wp2_with (refine wpList_store_blk rfl 30 30 (.tmp 4) (.tmp 14) rfl (⟨2, false, .slice au nu mu, false, .slice av 1 mv, 0⟩ : Vv).cells _ B q2 infoValN rfl h1c rfl rfl ?_; intro W2 t1 t2 t3 t4)
  refine bodyPost_ret (results_blk rfl _ _ B _ _ t1 rfl Tryz.underlying30 rfl infoValN) rfl ?_
  obtain ⟨h1, h2⟩ := HK.out B (by omega) W2 t3
  exact ⟨⟨2, false, .slice au nu mu, false, .slice av 1 mv, 0⟩, rfl, ⟨rfl, rfl, rfl, rfl, h1, h2⟩, hn1.mono (by omega), hn2.mono (by omega), b1.trans ((hb2.mono (by omega)).trans (t2 B (Nat.le_refl _)))⟩
/-- A constant's cells. -/
abbrev conX (kd : Int) (f1 : Bool) (s1 : Sl) (f2 : Bool) (s2 : Sl) (i : Int) : Xv := ⟨1, [], kd, f1, s1, f2, s2, i, ⟨none, 0, 0⟩⟩
set_option maxRecDepth 100000 in
set_option maxHeartbeats 1000000 in
theorem gcon_any (kd : Int) (f1 f2 : Bool) (s1 s2 : Sl) (i : Int) (w : World) : Calls Tryz.prog 42 #[(⟨kd, f1, s1.val, f2, s2.val, i⟩ : Vv).agg] w fun e w' => e = .returned (conX kd f1 s1 f2 s2 i).agg ∧ Below w.heap.size w w' := by
  obtain ⟨a1, n1, m1⟩ := s1
  obtain ⟨a2, n2, m2⟩ := s2
  have h1c : ∀ u ∈ (conX kd f1 ⟨a1, n1, m1⟩ f2 ⟨a2, n2, m2⟩ i).cells, u.oneCell' = true := by simp [Value.oneCell']
  obtain ⟨W1, hW1⟩ : ∃ W1, w.alloc (.cells (⟨kd, f1, .slice a1 n1 m1, f2, .slice a2 n2 m2, i⟩ : Vv).cells 30) = W1 := ⟨_, rfl⟩
  have q1 : Blk W1 w.heap.size (⟨kd, f1, .slice a1 n1 m1, f2, .slice a2 n2 m2, i⟩ : Vv).cells 30 := by rw [← hW1]; exact Blk.new w _ _
  have b1 : Below w.heap.size w W1 := by rw [← hW1]; exact (Below.refl _ _).alloc (Nat.le_refl _) _
  have s1 : W1.heap.size = w.heap.size + 1 := by rw [← hW1]; simp
  have HW := Lib.hid hW1
  dsimp only [Vv.cells] at HW
  obtain ⟨c0, c1, c2, c3, c4, c5⟩ := q1.six
  have hlt : w.heap.size < W1.heap.size := by omega
  have hne : ¬ w.heap.size = W1.heap.size := by omega
  clear hW1
  go_enter Tryz.func42, Tryz.ntmps42
  go_upto_region 1 with fail
  rw [HW.out]
  go_wp2_with (refine wpList_store_new rfl 32 (.tmp 2) (.tmp 4) rfl (conX kd f1 ⟨a1, n1, m1⟩ f2 ⟨a2, n2, m2⟩ i).cells _ infoExN rfl h1c (w.heap.size + 1) s1.symm rfl rfl ?_)
  have qn : Blk (W1.alloc (.cells (conX kd f1 ⟨a1, n1, m1⟩ f2 ⟨a2, n2, m2⟩ i).cells 32)) (w.heap.size + 1) (conX kd f1 ⟨a1, n1, m1⟩ f2 ⟨a2, n2, m2⟩ i).cells 32 := by
    have := Blk.new W1 (conX kd f1 ⟨a1, n1, m1⟩ f2 ⟨a2, n2, m2⟩ i).cells 32
    rwa [s1] at this
  refine bodyPost_ret (results_blk rfl _ _ (w.heap.size + 1) _ _ qn rfl Tryz.underlying32 rfl infoExN) rfl ?_
  exact ⟨rfl, b1.trans ((Below.refl _ _).alloc (by omega) _)⟩
abbrev opX (o : Int) (s : Sl) : Xv := ⟨o, [], 0, false, ⟨none, 0, 0⟩, false, ⟨none, 0, 0⟩, 0, s⟩
set_option maxRecDepth 100000 in
set_option maxHeartbeats 1000000 in
theorem gop_any (o : Int) (s : Sl) (w : World) : Calls Tryz.prog 35 #[.int .u8 o, s.val] w fun e w' => e = .returned (opX o s).agg ∧ Below w.heap.size w w' := by
  obtain ⟨a1, n1, m1⟩ := s
  have h1c : ∀ u ∈ (opX o ⟨a1, n1, m1⟩).cells, u.oneCell' = true := by simp [Value.oneCell']
  have b1 : Below w.heap.size w (w.alloc (.cells (opX o ⟨a1, n1, m1⟩).cells 32)) := (Below.refl _ _).alloc (Nat.le_refl _) _
  go_enter Tryz.func35, Tryz.ntmps35
  go_upto_region 1 with fail
  go_wp2_with (refine wpList_store_new rfl 32 (.tmp 4) (.tmp 7) rfl (opX o ⟨a1, n1, m1⟩).cells _ infoExN rfl h1c w.heap.size rfl rfl rfl ?_)
  refine bodyPost_ret (results_blk rfl _ _ w.heap.size _ _ (Blk.new w _ _) rfl Tryz.underlying32 rfl infoExN) rfl ?_
  exact ⟨rfl, b1⟩
abbrev todX : Xv := ⟨2, [], 0, false, ⟨none, 0, 0⟩, false, ⟨none, 0, 0⟩, 0, ⟨none, 0, 0⟩⟩
set_option maxRecDepth 100000 in
set_option maxHeartbeats 1000000 in
theorem gref_any (nm : Str) (w : World) : Calls Tryz.prog 41 #[S nm] w fun e w' => ∃ b, e = .returned (⟨5, nm, 0, false, ⟨none, 0, 0⟩, false, ⟨none, 0, 0⟩, 0, ⟨some ⟨b, 0, none⟩, 1, 1⟩⟩ : Xv).agg ∧ Blk w' b todX.cells 32 ∧ Below w.heap.size w w' := by
  obtain ⟨W1, hW1⟩ : ∃ W1, (w.alloc (.cells xz.cells 32)).alloc (.cells todX.cells 32) = W1 := ⟨_, rfl⟩
  have b1 : Below w.heap.size w W1 := by rw [← hW1]; exact ((Below.refl _ _).alloc (Nat.le_refl _) _).alloc (by simp) _
  have q1 : Blk W1 w.heap.size xz.cells 32 := by rw [← hW1]; exact (Blk.new w _ _).alloc _
  have q2 : Blk W1 (w.heap.size + 1) todX.cells 32 := by
    rw [← hW1]
    have := Blk.new (w.alloc (.cells xz.cells 32)) todX.cells 32
    rwa [World.size_alloc] at this
  obtain ⟨B, hB⟩ : ∃ B, w.heap.size = B := ⟨_, rfl⟩
  have HB := Lib.hid hB
  have HW : Hid ((w.alloc (.cells #[.int .u8 0, .string ⟨#[]⟩, .int .u8 0, .bool false, .slice none 0 0, .bool false, .slice none 0 0, .int .i64 0, .slice none 0 0] 32)).alloc (.cells #[.int .u8 2, .string ⟨#[]⟩, .int .u8 0, .bool false, .slice none 0 0, .bool false, .slice none 0 0, .int .i64 0, .slice none 0 0] 32) = W1) := Lib.hid hW1
  rw [hB] at b1 q1 q2 ⊢
  have h1c : ∀ u ∈ (⟨5, nm, 0, false, ⟨none, 0, 0⟩, false, ⟨none, 0, 0⟩, 0, ⟨some ⟨B + 1, 0, none⟩, 1, 1⟩⟩ : Xv).cells, u.oneCell' = true := by simp [Value.oneCell']
  clear hB hW1
  go_enter Tryz.func41, Tryz.ntmps41
  go_upto_region 1 with fail
  go_wp2_with (simp only [HB.out]; rw [HW.out]; refine wpList_store_blk rfl 32 32 (.tmp 2) (.tmp 6) rfl (⟨5, nm, 0, false, ⟨none, 0, 0⟩, false, ⟨none, 0, 0⟩, 0, ⟨some ⟨B + 1, 0, none⟩, 1, 1⟩⟩ : Xv).cells _ B q1 infoExN rfl h1c rfl rfl ?_; intro W2 t1 t2 t3 t4)
  refine bodyPost_ret (results_blk rfl _ _ B _ _ t1 rfl Tryz.underlying32 rfl infoExN) rfl ?_
  exact ⟨B + 1, rfl, q2.kept t3 (by simp), b1.trans (t2 B (Nat.le_refl _))⟩
end Go.Proofs.YthooiobhlbnaoaaGreat
namespace Go.Proofs.YthooiobhlbnaoaaGreat
open Go.RowKit
set_option linter.unusedVariables false

theorem Lm.one {K n : Nat} {w : World} {v : Value} (h : Lm K w v [n]) : ∃ a c, v = .slice a 1 c := by obtain ⟨a, c, e, _⟩ := h.form; exact ⟨a, c, e⟩
set_option maxRecDepth 100000 in
set_option maxHeartbeats 1000000 in
theorem ksamelimbs_any (K n : Nat) (u v : Value) (w : World) (hu : Lm K w u [n]) (hv : Lm K w v [n]) : Calls Tryz.prog 122 #[u, v] w fun e w' => e = .returned (.bool true) ∧ Below w.heap.size w w' := by
  obtain ⟨b, o, c, rfl, h1, h2, h3, h4⟩ := hu.pos (by simp)
  obtain ⟨b', o', c', rfl, h1', h2', h3', h4'⟩ := hv.pos (by simp)
  have c1 : w.cell? ⟨b, o, none⟩ = some (.int .u16 n) := by have := h4 0 (by simp); simpa using this
  have c2 : w.cell? ⟨b', o', none⟩ = some (.int .u16 n) := by have := h4' 0 (by simp); simpa using this
  have he : ((n : Int) != (n : Int)) = false := by simp
  clear hu hv h4 h4'
  simp only [List.length_cons, List.length_nil, Nat.zero_add] at *
  go_enter Tryz.func122, Tryz.ntmps122
  go_wp2_with fail
  refine wp_loop_rounds 2 ?_
  rw [rounds_succ]
  go_upto_region 6 with fail
  go_quiet (fail)
  go_wp2_with fail
  rw [rounds_succ]
  go_wp2_with fail
  go_ret
  exact ⟨rfl, below_drewN2 (Below.refl _ _) _⟩
set_option maxRecDepth 100000 in
set_option maxHeartbeats 1000000 in
theorem ksamewhole_any (K n : Nat) (u v : Value) (w : World) (hu : Lm K w u [n]) (hv : Lm K w v [n]) (hK : K ≤ w.heap.size) : Calls Tryz.prog 91 #[Wv u, Wv v] w fun e w' => e = .returned (.bool true) ∧ Below w.heap.size w w' := by
  obtain ⟨W1, hW1⟩ : ∃ W1, (w.alloc (.cells #[.bool false, u] 26)).alloc (.cells #[.bool false, v] 26) = W1 := ⟨_, rfl⟩
  have b1 : Below w.heap.size w W1 := by rw [← hW1]; exact ((Below.refl _ _).alloc (Nat.le_refl _) _).alloc (by simp) _
  have q0 : Blk W1 w.heap.size #[.bool false, u] 26 := by rw [← hW1]; exact (Blk.new w _ _).alloc _
  have q1 : Blk W1 (w.heap.size + 1) #[.bool false, v] 26 := by
    rw [← hW1]
    have := Blk.new (w.alloc (.cells #[.bool false, u] 26)) #[.bool false, v] 26
    rwa [World.size_alloc] at this
  have hc := ksamelimbs_any w.heap.size n u v W1 (hu.below b1 hK hK) (hv.below b1 hK hK)
  have hs := b1.size
  obtain ⟨B, hB⟩ : ∃ B, w.heap.size = B := ⟨_, rfl⟩
  have HB := Lib.hid hB
  have HW := Lib.hid hW1
  rw [hB] at b1 q0 q1 hs ⊢
  obtain ⟨ua, uc, rfl⟩ := hu.one
  obtain ⟨va, vc, rfl⟩ := hv.one
  obtain ⟨d0, d1⟩ := q0.two
  obtain ⟨d2, d3⟩ := q1.two
  clear hB hW1
  go_enter Tryz.func91, Tryz.ntmps91
  go_upto_region 1 with fail
  simp only [HB.out]
  rw [HW.out]
  go_wp2_with fail
  refine hc.mono ?_
  rintro e w2 ⟨rfl, hb2⟩
  go_wp2_with fail
  go_ret
  exact ⟨rfl, b1.trans (hb2.mono hs)⟩
set_option maxRecDepth 100000 in
set_option maxHeartbeats 1000000 in
theorem ksamefrac_any (K m n : Nat) (u v x y : Value) (w : World) (hu : Lm K w u [m]) (hv : Lm K w v [n]) (hx : Lm K w x [m]) (hy : Lm K w y [n]) (hK : K ≤ w.heap.size) : Calls Tryz.prog 45 #[Fv u v, Fv x y] w fun e w' => e = .returned (.bool true) ∧ Below w.heap.size w w' := by
  obtain ⟨W1, hW1⟩ : ∃ W1, (w.alloc (.cells #[.bool false, u, .bool false, v] 28)).alloc (.cells #[.bool false, x, .bool false, y] 28) = W1 := ⟨_, rfl⟩
  have b1 : Below w.heap.size w W1 := by rw [← hW1]; exact ((Below.refl _ _).alloc (Nat.le_refl _) _).alloc (by simp) _
  have q0 : Blk W1 w.heap.size #[.bool false, u, .bool false, v] 28 := by rw [← hW1]; exact (Blk.new w _ _).alloc _
  have q1 : Blk W1 (w.heap.size + 1) #[.bool false, x, .bool false, y] 28 := by
    rw [← hW1]
    have := Blk.new (w.alloc (.cells #[.bool false, u, .bool false, v] 28)) #[.bool false, x, .bool false, y] 28
    rwa [World.size_alloc] at this
  have hs := b1.size
  have hc := ksamewhole_any w.heap.size m u x W1 (hu.below b1 hK hK) (hx.below b1 hK hK) hs
  have hc2 : ∀ W, Below W1.heap.size W1 W → Calls Tryz.prog 91 #[Wv v, Wv y] W fun e w' => e = .returned (.bool true) ∧ Below W.heap.size W w' := fun W hb => ksamewhole_any w.heap.size n v y W ((hv.below b1 hK hK).below hb hs (Nat.le_refl _)) ((hy.below b1 hK hK).below hb hs (Nat.le_refl _)) (Nat.le_trans hs hb.size)
  have HC2 := Lib.hid hc2
  have s1 : W1.heap.size = w.heap.size + 2 := by rw [← hW1]; simp
  obtain ⟨B, hB⟩ : ∃ B, w.heap.size = B := ⟨_, rfl⟩
  have HB := Lib.hid hB
  have HW := Lib.hid hW1
  rw [hB] at b1 q0 q1 hs s1 ⊢
  obtain ⟨ua, uc, rfl⟩ := hu.one
  obtain ⟨va, vc, rfl⟩ := hv.one
  obtain ⟨xa, xc, rfl⟩ := hx.one
  obtain ⟨ya, yc, rfl⟩ := hy.one
  obtain ⟨d0, d1, d2, d3⟩ := q0.four
  obtain ⟨d4, d5, d6, d7⟩ := q1.four
  clear hB hW1 hc2
  go_enter Tryz.func45, Tryz.ntmps45
  go_upto_region 1 with fail
  simp only [HB.out]
  rw [HW.out]
  go_wp2_with fail
  refine hc.mono ?_
  rintro e w2 ⟨rfl, hb2⟩
  clear hc d0 d1 d2 d3 d4 d5 d6 d7
  obtain ⟨d0, d1, d2, d3⟩ := (q0.below hb2 (by omega)).four
  obtain ⟨d4, d5, d6, d7⟩ := (q1.below hb2 (by omega)).four
  go_wp2_with fail
  refine (HC2.out w2 hb2).mono ?_
  rintro e w3 ⟨rfl, hb3⟩
  go_wp2_with fail
  go_ret
  exact ⟨rfl, b1.trans ((hb2.trans (hb3.mono hb2.size)).mono hs)⟩
end Go.Proofs.YthooiobhlbnaoaaGreat
