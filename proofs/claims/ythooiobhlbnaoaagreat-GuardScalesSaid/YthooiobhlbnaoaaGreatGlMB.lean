/- Contracts and plain laws, several texts in one (GlM8, GlM9, GlM10, GlM11, GlM12). No conditions beyond those stated. -/
import Derived.Test.YthooiobhlbnaoaaGreatGlMA
import Derived.Test.YthooiobhlbnaoaaGreatGlMd
import Derived.Deep.Upon
import Derived.Test.YthooiobhlbnaoaaGreatGWQ
namespace Go.Proofs.YthooiobhlbnaoaaGreat
open Go.RowKit
set_option linter.unusedVariables false

/-- Twice a fraction, by its limbs. -/
def twL (l1 l2 : List Nat) : Int := if l2[0]?.getD 0 = 1 then ((l1[0]?.getD 0 : Nat) : Int) * 2 else ((l1[0]?.getD 0 : Nat) : Int)
theorem twc_L (v : Vq) : twc v = twL v.l1 v.l2 := rfl
theorem lm_first {K : Nat} {w : World} {s : Value} {l : List Nat} (h : Lm K w s l) : ∃ a m, s = .slice a l.length m ∧ (0 < l.length → ∃ b o, a = some ⟨b, o, none⟩ ∧ b < K ∧ w.cell? ⟨b, o, none⟩ = some (.int .u16 ((l[0]?.getD 0 : Nat) : Int)) ∧ l[0]?.getD 0 < 65536) := by
  obtain ⟨a, m, e, h1, h2, h3, h4⟩ := h.1
  refine ⟨a, m, e, fun h0 => ?_⟩
  obtain ⟨b, o, ha, hb, hc⟩ := h4 0 h0
  refine ⟨b, o, ha, hb, by simpa using hc 0 (by omega), ?_⟩
  have := h.2 (l[0]?.getD 0) (by rw [List.getElem?_eq_getElem h0]; exact List.getElem_mem h0)
  exact this
set_option maxRecDepth 100000 in
set_option maxHeartbeats 2000000 in
theorem gtwice_any (K : Nat) (l1 l2 : List Nat) (s1 s2 : Value) (f1 f2 : Bool) (w : World) (h1 : Lm K w s1 l1) (h2 : Lm K w s2 l2) (hK : K ≤ w.heap.size) :
    Calls Tryz.prog 86 #[.agg #[.bool f1, s1, .bool f2, s2]] w fun e w' => e = .returned (.int .i64 (twL l1 l2)) ∧ Below w.heap.size w w' := by
  obtain ⟨a1, m1, rfl, g1⟩ := lm_first h1
  obtain ⟨a2, m2, rfl, g2⟩ := lm_first h2
  obtain ⟨n1, hn1⟩ : ∃ n, l1.length = n := ⟨_, rfl⟩
  obtain ⟨n2, hn2⟩ : ∃ n, l2.length = n := ⟨_, rfl⟩
  obtain ⟨x, hx⟩ : ∃ x, l1[0]?.getD 0 = x := ⟨_, rfl⟩
  obtain ⟨y, hy⟩ : ∃ y, l2[0]?.getD 0 = y := ⟨_, rfl⟩
  have hR : twL l1 l2 = if y = 1 then (x : Int) * 2 else x := by unfold twL; rw [hx, hy]
  have hz1 : n1 = 0 → x = 0 := fun e => by rw [← hx, List.getElem?_eq_none (by omega)]; rfl
  have hz2 : n2 = 0 → y = 0 := fun e => by rw [← hy, List.getElem?_eq_none (by omega)]; rfl
  rw [hn1, hx] at g1
  rw [hn2, hy] at g2
  rw [hn1, hn2, hR]
  obtain ⟨W1, hW1⟩ : ∃ W1, w.alloc (.cells #[.bool f1, .slice a1 n1 m1, .bool f2, .slice a2 n2 m2] 28) = W1 := ⟨_, rfl⟩
  have b1 : Below w.heap.size w W1 := by rw [← hW1]; exact (Below.refl _ _).alloc (Nat.le_refl _) _
  have q1 : Blk W1 w.heap.size #[.bool f1, .slice a1 n1 m1, .bool f2, .slice a2 n2 m2] 28 := by rw [← hW1]; exact Blk.new w _ _
  obtain ⟨B, hB⟩ : ∃ B, w.heap.size = B := ⟨_, rfl⟩
  have HB := Lib.hid hB
  have HW1 := Lib.hid hW1
  rw [hB] at b1 q1 hK ⊢
  obtain ⟨c0, c1, c2, c3⟩ := q1.four
  have k1 : 0 < n1 → ∃ b o, a1 = some ⟨b, o, none⟩ ∧ W1.cell? ⟨b, o, none⟩ = some (.int .u16 (x : Int)) ∧ x < 65536 := fun h0 => by
    obtain ⟨b, o, e, hb, hc, hl⟩ := g1 h0
    exact ⟨b, o, e, (b1.cell (p := ⟨b, o, none⟩) (by show b < B; omega)).trans hc, hl⟩
  have k2 : 0 < n2 → ∃ b o, a2 = some ⟨b, o, none⟩ ∧ W1.cell? ⟨b, o, none⟩ = some (.int .u16 (y : Int)) ∧ y < 65536 := fun h0 => by
    obtain ⟨b, o, e, hb, hc, hl⟩ := g2 h0
    exact ⟨b, o, e, (b1.cell (p := ⟨b, o, none⟩) (by show b < B; omega)).trans hc, hl⟩
  clear h1 h2 g1 g2 hn1 hn2 hx hy hR hB hW1
  by_cases hp1 : 0 < n1
  · obtain ⟨e1, o1, rfl, z1, x16⟩ := k1 hp1
    have d1 : decide (0 < n1) = true := by simpa using hp1
    by_cases hp2 : 0 < n2
    · obtain ⟨e2, o2, rfl, z2, y16⟩ := k2 hp2
      have d2 : decide (0 < n2) = true := by simpa using hp2
      by_cases hy1 : y = 1
      · subst hy1
        rw [if_pos rfl]
        clear k1 k2 hz1 hz2
        go_enter Tryz.func86, Tryz.ntmps86
        go_upto_region 1 with fail
        simp only [HB.out]
        rw [HW1.out]
        go_wp2_with fail
        go_ret
        exact ⟨rfl, b1⟩
      · have hy2 : ((y : Int) == 1) = false := by simp; omega
        rw [if_neg hy1]
        clear k1 k2 hz1 hz2
        go_enter Tryz.func86, Tryz.ntmps86
        go_upto_region 1 with fail
        simp only [HB.out]
        rw [HW1.out]
        go_wp2_with fail
        go_ret
        exact ⟨rfl, b1⟩
    · have h0 : n2 = 0 := by omega
      have hy0 := hz2 h0
      subst h0 hy0
      rw [if_neg (by omega)]
      clear k1 k2 hz1 hz2
      go_enter Tryz.func86, Tryz.ntmps86
      go_upto_region 1 with fail
      simp only [HB.out]
      rw [HW1.out]
      go_wp2_with fail
      go_ret
      exact ⟨rfl, b1⟩
  · have h0 : n1 = 0 := by omega
    have hx0 := hz1 h0
    subst h0 hx0
    have hR : (if y = 1 then ((0 : Nat) : Int) * 2 else ((0 : Nat) : Int)) = 0 := by split <;> rfl
    rw [hR]
    by_cases hp2 : 0 < n2
    · obtain ⟨e2, o2, rfl, z2, y16⟩ := k2 hp2
      have d2 : decide (0 < n2) = true := by simpa using hp2
      by_cases hy1 : y = 1
      · subst hy1
        clear k1 k2 hz1 hz2 hR
        go_enter Tryz.func86, Tryz.ntmps86
        go_upto_region 1 with fail
        simp only [HB.out]
        rw [HW1.out]
        go_wp2_with fail
        go_ret
        exact ⟨rfl, b1⟩
      · have hy2 : ((y : Int) == 1) = false := by simp; omega
        clear k1 k2 hz1 hz2 hR
        go_enter Tryz.func86, Tryz.ntmps86
        go_upto_region 1 with fail
        simp only [HB.out]
        rw [HW1.out]
        go_wp2_with fail
        go_ret
        exact ⟨rfl, b1⟩
    · have h0 : n2 = 0 := by omega
      subst h0
      clear k1 k2 hz1 hz2 hR
      go_enter Tryz.func86, Tryz.ntmps86
      go_upto_region 1 with fail
      simp only [HB.out]
      rw [HW1.out]
      go_wp2_with fail
      go_ret
      exact ⟨rfl, b1⟩
end Go.Proofs.YthooiobhlbnaoaaGreat
namespace Go.Proofs.YthooiobhlbnaoaaGreat
open Go.RowKit
set_option linter.unusedVariables false

set_option maxRecDepth 100000 in
set_option maxHeartbeats 1000000 in
theorem kfracJ_any (j : Nat) (hj : j < 65536) (h2 : j % 2 = 1) (w : World) :
    Calls Tryz.prog 44 #[.int .i64 j, .int .i64 2] w fun e w' => ∃ u v, e = .returned (Fv u v) ∧ (∃ a c, u = .slice a 1 c) ∧ (∃ a c, v = .slice a 1 c) ∧ Lm w'.heap.size w' u [j] ∧ Lm w'.heap.size w' v [2] ∧ Below w.heap.size w w' ∧ NewV w.heap.size u ∧ NewV w.heap.size v := by
  obtain ⟨W1, hW1⟩ : ∃ W1, w.alloc (.cells #[.bool false, .slice none 0 0, .bool false, .slice none 0 0] 28) = W1 := ⟨_, rfl⟩
  have b1 : Below w.heap.size w W1 := by rw [← hW1]; exact (Below.refl _ _).alloc (Nat.le_refl _) _
  have q1 : Blk W1 w.heap.size #[.bool false, .slice none 0 0, .bool false, .slice none 0 0] 28 := by rw [← hW1]; exact Blk.new w _ _
  have s1 : W1.heap.size = w.heap.size + 1 := by rw [← hW1]; simp
  obtain ⟨B, hB⟩ : ∃ B, w.heap.size = B := ⟨_, rfl⟩
  have HB := Lib.hid hB
  have HW := Lib.hid hW1
  rw [hB] at b1 q1 s1 ⊢
  have hc : ∀ W, Calls Tryz.prog 90 #[.int .i64 j] W fun e w' => ∃ v, e = .returned (Wv v) ∧ Lm w'.heap.size w' v [j] ∧ Below W.heap.size W w' ∧ NewV W.heap.size v := fun W => kwhole_any j W (by omega) (by omega)
  have hc2 : ∀ W, Calls Tryz.prog 90 #[.int .i64 2] W fun e w' => ∃ v, e = .returned (Wv v) ∧ Lm w'.heap.size w' v [2] ∧ Below W.heap.size W w' ∧ NewV W.heap.size v := fun W => kwhole_any 2 W (by omega) (by omega)
  have HC := Lib.hid hc
  have HC2 := Lib.hid hc2
  clear hB hW1 hc hc2
  have hj2 : (j : Int) % 2 = 1 := by omega
  have hj0 : ((j : Int) == 0) = false := by simp; omega
  have hjp : ¬ (j : Int) < 0 := by omega
  have hju : IntKind.u64.wrap (j : Int) = j := IntWalk.u64_in _ (by omega)
  go_enter Tryz.func44, Tryz.ntmps44
  go_upto_region 1 with fail
  simp only [HB.out]
  rw [HW.out]
  go_wp2_with fail
  refine wp_loop_rounds 3 ?_
  rw [rounds_succ]
  go_upto_region 7 with fail
  go_quiet (fail)
  go_wp2_with fail
  rw [rounds_succ]
  go_upto_region 7 with fail
  go_quiet (fail)
  go_wp2_with fail
  rw [rounds_succ]
  go_upto_region 8 with fail
  generalize hX : World.drewN _ _ = W2
  have b2' : Below W1.heap.size W1 W2 := by rw [← hX]; first | exact below_drewN2 (Below.refl _ _) _ | exact below_drewN2 (below_drewN2 (Below.refl _ _) _) _
  have hs2 := b2'.size
  have b2 : Below B w W2 := b1.trans (b2'.mono (by omega))
  have q2 := q1.below b2' (by omega)
  clear hX
  refine region_plain (fun W' => Below W2.heap.size W2 W') [11] (by kernel_rfl) ?_
  have qS : (fun W' => Below W2.heap.size W2 W') W2.drew := below_quiet (Below.refl _ _)
  refine wpAnyD_take (i := 0) (v := .int .i64 j) rfl (by kernel_rfl) (by kernel_rfl) (by kernel_rfl) (by kernel_rfl) (by kernel_rfl) (fun _ _ _ h => h) (.inl ⟨by kernel_rfl, fun W' hS => by go_simp⟩) qS ?_
  refine wpAnyD_take (i := 1) (v := .int .u64 1) rfl (by kernel_rfl) (by kernel_rfl) (by kernel_rfl) (by kernel_rfl) (by kernel_rfl) (fun _ _ _ h => h) (.inl ⟨by kernel_rfl, fun W' hS => by go_simp⟩) qS ?_
  refine wpAnyD_take (i := 2) (v := .int .i64 1) rfl (by kernel_rfl) (by kernel_rfl) (by kernel_rfl) (by kernel_rfl) (by kernel_rfl) (fun _ _ _ h => h) (.inl ⟨by kernel_rfl, fun W' hS => by have w1 : IntKind.i64.wrap 1 = 1 := IntWalk.i64_in _ (by omega); go_simp⟩) qS ?_
  refine wpAnyD_take (i := 3) (v := .int .i64 j) rfl (by kernel_rfl) (by kernel_rfl) (by kernel_rfl) (by kernel_rfl) (by kernel_rfl) (fun _ _ _ h => h) (.inl ⟨by kernel_rfl, fun W' hS => by have wn : IntKind.i64.wrap (j : Int) = j := IntWalk.i64_in _ (by omega); go_simp⟩) qS ?_
  refine wpAnyD_take (i := 5) (v := .int .i64 2) rfl (by kernel_rfl) (by kernel_rfl) (by kernel_rfl) (by kernel_rfl) (by kernel_rfl) (fun _ _ _ h => h) (.inl ⟨by kernel_rfl, fun W' hS => by go_simp⟩) qS ?_
  refine wpAnyD_take (i := 6) (v := .int .u64 1) rfl (by kernel_rfl) (by kernel_rfl) (by kernel_rfl) (by kernel_rfl) (by kernel_rfl) (fun _ _ _ h => h) (.inl ⟨by kernel_rfl, fun W' hS => by go_simp⟩) qS ?_
  refine wpAnyD_take (i := 7) (v := .int .i64 1) rfl (by kernel_rfl) (by kernel_rfl) (by kernel_rfl) (by kernel_rfl) (by kernel_rfl) (fun _ _ _ h => h) (.inl ⟨by kernel_rfl, fun W' hS => by have w1 : IntKind.i64.wrap 1 = 1 := IntWalk.i64_in _ (by omega); go_simp⟩) qS ?_
  refine wpAnyD_take (i := 8) (v := .int .i64 2) rfl (by kernel_rfl) (by kernel_rfl) (by kernel_rfl) (by kernel_rfl) (by kernel_rfl) (fun _ _ _ h => h) (.inl ⟨by kernel_rfl, fun W' hS => by have wn : IntKind.i64.wrap 2 = 2 := IntWalk.i64_in _ (by omega); go_simp⟩) qS ?_
  refine wpAnyD_one (i := 4) (by kernel_rfl) rfl (by kernel_rfl) ?_
  go_simp
  refine (HC.out _).mono ?_
  rintro e w3 ⟨v3, rfl, hl3, hb3, hn3⟩
  have qS3 : Below W2.heap.size W2 w3 := qS.trans (hb3.mono qS.size)
  obtain ⟨a3, c3, rfl, _⟩ := hl3.form
  have HL3 := Lib.hid hl3
  clear hl3
  go_simp
  refine wpAnyD_one (i := 9) (by kernel_rfl) rfl (by kernel_rfl) ?_
  go_simp
  refine (HC2.out _).mono ?_
  rintro e w4 ⟨v4, rfl, hl4, hb4, hn4⟩
  have qS4 : Below W2.heap.size W2 w4 := qS3.trans (hb4.mono qS3.size)
  obtain ⟨a4, c4, rfl, _⟩ := hl4.form
  have HL4 := Lib.hid hl4
  have hn43 : NewV W2.heap.size (.slice a3 1 c3) := hn3
  have hn44 : NewV W2.heap.size (.slice a4 1 c4) := hn4.mono qS3.size
  have HL34 := Lib.hid (HL3.out.below hb4 (Nat.le_refl _) hb4.size)
  clear hl4
  go_simp
  refine wpAnyD_take (i := 10) (v := Fv (.slice a3 1 c3) (.slice a4 1 c4)) rfl (by kernel_rfl) (by kernel_rfl) (by kernel_rfl) (by kernel_rfl) (by kernel_rfl) (fun _ _ _ h => h) (.inl ⟨by kernel_rfl, fun W' hS => by go_simp⟩) qS4 ?_
  have q4 := q2.below qS4 (by omega)
  obtain ⟨c0, c1, c2, c3'⟩ := q4.four
  have f0 := q4.free 0
  have f1 := q4.free 1
  have f2 := q4.free 2
  have f3 := q4.free 3
  refine wpAnyD_one (i := 11) (by kernel_rfl) rfl (by kernel_rfl) ?_
  go_simp
  refine wpAnyD_done (by kernel_rfl) ?_ _
  clear c0 c1 c2 c3' f0 f1 f2 f3
  have b4 : Below B w w4 := b2.trans (qS4.mono (by omega))
  have hs4 := qS4.size
  have x5 := (((q4.set (i := 0) (.bool false)).set (i := 1) (.slice a3 1 c3)).set (i := 2) (.bool false)).set (i := 3) (.slice a4 1 c4)
  obtain ⟨e0, e1, e2, e3⟩ := x5.four
  go_wp2_with fail
  refine bodyPost_ret (v := Fv (.slice a3 1 c3) (.slice a4 1 c4)) (by simp [results, Tryz.results44, go_sem, e0, e1, e2, e3]) rfl ?_
  exact ⟨_, _, rfl, ⟨_, _, rfl⟩, ⟨_, _, rfl⟩, lm_put HL34.out hn43 (show B < W2.heap.size by omega) (grown_set4 _ _ _ _ _ _) (by rw [size_set4]; exact Nat.le_refl _), lm_put HL4.out hn44 (show B < W2.heap.size by omega) (grown_set4 _ _ _ _ _ _) (by rw [size_set4]; exact Nat.le_refl _), (((b4.setCell (p := ⟨B, 0, none⟩) (by simp) _).setCell (p := ⟨B, 1, none⟩) (by simp) _).setCell (p := ⟨B, 2, none⟩) (by simp) _).setCell (p := ⟨B, 3, none⟩) (by simp) _, hn43.mono (by omega), hn44.mono (by omega)⟩
end Go.Proofs.YthooiobhlbnaoaaGreat
namespace Go.Proofs.YthooiobhlbnaoaaGreat
open Go.RowKit
set_option linter.unusedVariables false

/-- The value that the subject k has, made of the number n. -/
def valM (k n : Nat) : Vq := if kindN k = 1 then wholeV 1 ((n % 9 % 2 : Nat) : Int) else if (kindN k = 2 ∨ kindN k = 3) ∧ n % 2 = 1 then ⟨kindN k, false, [2 * (n % 9) + 1], false, [2], 0⟩ else wV (kindN k) (n % 9)
def valsM (l : List Nat) (k : Nat) : Vq := valM k (l[k]?.getD 0)
theorem valM_facts (k n : Nat) (hk : k < 12) : (valM k n).kd = kindN k ∧ (valM k n).ok = true ∧ (valM k n).good = true ∧ Half (valM k n) ∧ (kindN k = 2 ∨ kindN k = 3 → twc (valM k n) = tw (valM k n)) ∧ (kindN k = 1 → (valM k n).i = 0 ∨ (valM k n).i = 1) := by
  have hm : n % 9 < 9 := Nat.mod_lt _ (by omega)
  have hp : n % 2 < 2 := Nat.mod_lt _ (by omega)
  have e : valM k n = if kindN k = 1 then wholeV 1 ((n % 9 % 2 : Nat) : Int) else if (kindN k = 2 ∨ kindN k = 3) ∧ n % 2 = 1 then ⟨kindN k, false, [2 * (n % 9) + 1], false, [2], 0⟩ else wV (kindN k) (n % 9) := rfl
  rw [e]
  clear e
  generalize n % 9 = m at hm
  generalize n % 2 = p at hp
  have hkk : kindN k = 1 ∨ kindN k = 2 ∨ kindN k = 3 ∨ kindN k = 4 ∨ kindN k = 5 ∨ kindN k = 6 := by have := kindN_range k; omega
  generalize kindN k = kd at hkk
  have hm9 : m = 0 ∨ m = 1 ∨ m = 2 ∨ m = 3 ∨ m = 4 ∨ m = 5 ∨ m = 6 ∨ m = 7 ∨ m = 8 := by omega
  have hp2 : p = 0 ∨ p = 1 := by omega
  unfold Half
  rcases hkk with rfl | rfl | rfl | rfl | rfl | rfl <;> rcases hm9 with rfl | rfl | rfl | rfl | rfl | rfl | rfl | rfl | rfl <;> rcases hp2 with rfl | rfl <;> decide
theorem valsM_ok (l : List Nat) : ValOk (valsM l) where
  kd k hk := (valM_facts k _ hk).1
  ok k hk := (valM_facts k _ hk).2.1
  good k hk := (valM_facts k _ hk).2.2.1
  half k hk := (valM_facts k _ hk).2.2.2.1
  twc k hk := (valM_facts k _ hk).2.2.2.2.1
theorem valsM_truth (l : List Nat) : ∀ k, k < 12 → kindN k = 1 → (valsM l k).i = 0 ∨ (valsM l k).i = 1 := fun k hk => (valM_facts k _ hk).2.2.2.2.2

/-! ### twelve values in one block -/
def cells72 (g : Nat → Vv) : List Value := (List.range 72).map fun j => (g (j / 6)).cell (j % 6)
theorem cells72_len (g : Nat → Vv) : (cells72 g).length = 72 := by simp [cells72]
theorem cells72_at (g : Nat → Vv) {i j : Nat} (hi : i < 12) (hj : j < 6) : (cells72 g)[i * 6 + j]? = some ((g i).cell j) := by
  unfold cells72
  rw [List.getElem?_map, List.getElem?_range (by omega)]
  simp only [Option.map_some]
  rw [show (i * 6 + j) / 6 = i by omega, show (i * 6 + j) % 6 = j by omega]
theorem vv_cell_one (x : Vv) (h1 : x.s1.oneCell' = true) (h2 : x.s2.oneCell' = true) (j : Nat) : (x.cell j).oneCell' = true := by
  rcases j with _ | _ | _ | _ | _ | j <;> first | exact h1 | exact h2 | rfl
end Go.Proofs.YthooiobhlbnaoaaGreat
namespace Go.Proofs.YthooiobhlbnaoaaGreat
open Go.RowKit
set_option linter.unusedVariables false

theorem infoV12 : (Tryz.prog.info? 71).map (fun i => i.size) = some 72 := by kernel_rfl
theorem blk_setCells {b t : Nat} : ∀ (vs : List Value) (o : Nat) (w : World) (cs : Array Value), Blk w b cs t → o + vs.length ≤ cs.size → ∃ cs', Blk (w.setCells b o vs) b cs' t ∧ cs'.size = cs.size ∧ ∀ i, i < cs.size → cs'[i]? = if o ≤ i ∧ i < o + vs.length then vs[i - o]? else cs[i]?
  | [], o, w, cs, h, _ => ⟨cs, h, rfl, fun i hi => by rw [if_neg (by intro h; have := h.2; simp at this; omega)]⟩
  | v :: r, o, w, cs, h, hl => by
    rw [List.length_cons] at hl
    obtain ⟨cs', h1, h2, h3⟩ := blk_setCells r (o + 1) (w.setCell ⟨b, o, none⟩ v) (cs.setIfInBounds o v) (h.set v) (by simp; omega)
    refine ⟨cs', h1, by rw [h2]; simp, fun i hi => ?_⟩
    rw [h3 i (by simpa using hi), List.length_cons]
    by_cases e : i = o
    · subst e
      rw [if_neg (by omega), if_pos (by omega), Array.getElem?_setIfInBounds]
      simp [hi]
    · by_cases h4 : o + 1 ≤ i ∧ i < o + 1 + r.length
      · rw [if_pos h4, if_pos (by omega), show i - o = (i - (o + 1)) + 1 by omega]; rfl
      · rw [if_neg h4, if_neg (by omega), Array.getElem?_setIfInBounds, if_neg (fun e' => e e'.symm)]
theorem blk_there {w : World} {b t o n : Nat} {cs : Array Value} (h : Blk w b cs t) (hl : o + n ≤ cs.size) : w.there b o n := fun j hj =>
  ⟨by rw [h.at (Array.getElem?_eq_getElem (by omega : o + j < cs.size))]; rfl, h.free _⟩
theorem size_setCellsG : ∀ (vs : List Value) (o : Nat) (w : World) (b : Nat), (w.setCells b o vs).heap.size = w.heap.size
  | [], _, _, _ => rfl
  | v :: r, o, w, b => by rw [World.setCells, size_setCellsG r]; simp [World.setCell]
theorem grown_setCells : ∀ (vs : List Value) (o : Nat) (w : World) (b : Nat), w.grownBy (w.setCells b o vs) (some b)
  | [], _, w, b => ⟨rfl, rfl, rfl, Nat.le_refl _, fun _ _ _ => rfl⟩
  | v :: r, o, w, b => by rw [World.setCells]; exact grownBy_then (grownBy_setCell _ _ _ _) (grown_setCells r (o + 1) _ b)
theorem wV_kd (kd : Int) (n : Nat) : (wV kd n).kd = kd := by unfold wV; split <;> rfl
theorem cells72_of {w : World} {b t : Nat} {cs : Array Value} {g : Nat → Vv} (h : Blk w b cs t) (hs : cs.size = 72) (hc : ∀ i, i < 12 → ∀ j, j < 6 → cs[i * 6 + j]? = some ((g i).cell j)) : cs = (cells72 g).toArray := by
  apply Array.ext
  · rw [hs]; simp [cells72_len]
  · intro i h1 h2
    have e := hc (i / 6) (by omega) (i % 6) (by omega)
    rw [show i / 6 * 6 + i % 6 = i by omega, Array.getElem?_eq_getElem h1] at e
    have e2 := cells72_at g (i := i / 6) (j := i % 6) (by omega) (by omega)
    rw [show i / 6 * 6 + i % 6 = i by omega] at e2
    have hl : i < (cells72 g).length := by rw [cells72_len]; omega
    rw [List.getElem?_eq_getElem hl] at e2
    rw [Option.some.inj e, List.getElem_toArray, Option.some.inj e2]

theorem NewW.puts {L r : Nat} {V W W' : World} (h : NewW L V W) (hg : W.grownBy W' (some r)) (hr : r < L ∨ V.heap.size ≤ r) : NewW L V W' :=
  ⟨Nat.le_trans h.size hg.size, fun k h1 h2 => (hg.block k (Nat.lt_of_lt_of_le h2 h.size) (fun e => by simp at e; omega)).trans (h.block k h1 h2)⟩
theorem VlN.now {L : Nat} {V : World} {v : Vq} {x : Vv} (h : VlN L V v x) : VlX V.heap.size V v x := h V (NewW.refl _ _)
theorem VlN.mono {L L' : Nat} {V : World} {v : Vq} {x : Vv} (h : VlN L V v x) (hl : L' ≤ L) : VlN L' V v x := fun X hx => h X (hx.mono hl)
theorem lm_nil_any {K K' : Nat} {w w' : World} {v : Value} (h : Lm K w v []) : Lm K' w' v [] := by
  obtain ⟨⟨a, cap, rfl, h1, h2, h3, _⟩, _⟩ := h
  exact ⟨RowsV.nil a cap h2 h3, fun d hd => by cases hd⟩
def z72 : Array Value := (cells72 fun _ => vv0).toArray
theorem z72_at {i j : Nat} (hi : i < 12) (hj : j < 6) : z72[i * 6 + j]? = some (vv0.cell j) := by unfold z72; rw [List.getElem?_toArray]; exact cells72_at _ hi hj
set_option maxRecDepth 100000 in
set_option maxHeartbeats 4000000 in
theorem gvalues_any (l : List Nat) (arr : Array Value) (hl : l.length = 12) (hx : ∀ y ∈ l, y < 256) (harr : arr = (l.map fun n : Nat => Value.int .u8 (n : Int)).toArray) (w : World) :
    Calls Tryz.prog 32 #[.agg arr] w fun e w' => ∃ g : Nat → Vv, e = .returned (.agg (cells72 g).toArray) ∧ (∀ k, k < 12 → VlN w.heap.size w' (valsM l k) (g k)) ∧ Below w.heap.size w w' := by
  obtain ⟨W1, hW1⟩ : ∃ W1, ((w.alloc (.cells arr 69)).alloc (.cells z72 71)).alloc (.cells z72 71) = W1 := ⟨_, rfl⟩
  have b1 : Below w.heap.size w W1 := by rw [← hW1]; exact (((Below.refl _ _).alloc (Nat.le_refl _) _).alloc (by simp) _).alloc (by simp; omega) _
  have q0 : Blk W1 w.heap.size arr 69 := by rw [← hW1]; exact ((Blk.new w _ _).alloc _).alloc _
  have q1 : Blk W1 (w.heap.size + 1) z72 71 := by
    rw [← hW1]
    have := (Blk.new (w.alloc (.cells arr 69)) z72 71).alloc (.cells z72 71)
    rwa [World.size_alloc] at this
  have q2 : Blk W1 (w.heap.size + 2) z72 71 := by
    rw [← hW1]
    have := Blk.new ((w.alloc (.cells arr 69)).alloc (.cells z72 71)) z72 71
    rwa [World.size_alloc, World.size_alloc] at this
  have s1 : W1.heap.size = w.heap.size + 3 := by rw [← hW1]; simp
  obtain ⟨B, hB⟩ : ∃ B, w.heap.size = B := ⟨_, rfl⟩
  have HB := Lib.hid hB
  have HW := Lib.hid hW1
  rw [hB] at b1 q0 q1 q2 s1 ⊢
  have HA : Hid (∀ (k : Nat) (y : Nat), l[k]? = some y → arr[k]? = some (Value.int .u8 (y : Int))) := Lib.hid fun k y h => by rw [harr]; simp [h]
  have HX := Lib.hid hx
  have HQ0s := Lib.hid q0
  have HQ1s := Lib.hid q1
  have HQ2s := Lib.hid q2
  clear hB hW1 hx harr q0 q1 q2
  go_enter Tryz.func32, Tryz.ntmps32
  go_upto_region 2 with fail
  generalize hWx : World.alloc (World.alloc (World.alloc w _) _) _ = Wx
  obtain rfl : Wx = W1 := by rw [← hWx, ← HW.out]; rfl
  clear hWx HW
  simp only [HB.out]
  go_wp2_with fail
  go_loopw [7] (fun kv wr => ∃ (k : Nat) (g : Nat → Vv) (cs : Array Value), k ≤ 12 ∧ kv = .int .i64 k ∧ Blk wr (B + 2) cs 71 ∧ cs.size = 72 ∧ Hid (∀ i, i < 12 → ∀ j, j < 6 → cs[i * 6 + j]? = some ((if i < k then g i else vv0).cell j)) ∧ Hid (∀ i, i < k → VlN (B + 3) wr (valsM l i) (g i)) ∧ Blk wr B arr 69 ∧ Blk wr (B + 1) z72 71 ∧ Below B w wr ∧ B + 3 ≤ wr.heap.size) (fun kv _ => 12 - (intOf kv).toNat)
  case atStart => exact ⟨0, fun _ => vv0, z72, Nat.zero_le _, rfl, HQ2s.out, by simp [z72, cells72_len], Lib.hid (fun i hi j hj => by rw [if_neg (by omega)]; exact z72_at hi hj), Lib.hid (fun i hi => absurd hi (by omega)), HQ0s.out, HQ1s.out, b1, by omega⟩
  case round =>
    obtain ⟨k, g, cs, hk, rfl, hq2, hsz, hcc, hgv, hq0, hq1, hbw, hbs⟩ := hrel
    obtain ⟨wo, rfl⟩ : ∃ wo : World, wo = wr := ⟨_, rfl⟩
    by_cases hlt : k < 12
    · obtain ⟨y, hy⟩ : ∃ y, l[k]? = some y := ⟨_, List.getElem?_eq_getElem (by omega)⟩
      have hy256 : y < 256 := HX.out y (List.mem_of_getElem? hy)
      have n0 : wo.cell? ⟨B, k, none⟩ = some (.int .u8 (y : Int)) := hq0.at (HA.out k y hy)
      obtain ⟨m, hm⟩ : ∃ m, y % 9 = m := ⟨_, rfl⟩
      have hmi : (y : Int) % 9 = (m : Int) := by omega
      have hm9 : m < 9 := by omega
      have HVM : Hid (valsM l k = valM k y) := Lib.hid (by unfold valsM; rw [hy]; rfl)
      have HM := Lib.hid hm
      have HY := Lib.hid hy
      have HCC := hcc
      have hkw : IntKind.u8.wrap (k : Int) = k := IntWalk.u8_in _ (by omega)
      have hkf := gkindof_any k
      have HKF := Lib.hid hkf
      have HQ2 := Lib.hid hq2
      have HQ0 := Lib.hid hq0
      have HQ1 := Lib.hid hq1
      have HG := hgv
      have HBW := Lib.hid hbw
      clear hy hm hcc hkf hq2 hq0 hq1 hgv hbw
      go_wp2_with fail
      refine (HKF.out _ (by omega)).mono ?_
      rintro e w4 ⟨rfl, hb4⟩
      have hs4 := hb4.size
      have hval := gvalueN_any (kindN k) (kindN_range k) m (by omega) w4
      go_wp2_with fail
      refine hval.mono ?_
      rintro e w5 ⟨k', ii, f1, f2, s1', s2', rfl, hvl, hb5⟩
      have hs5 := hb5.size
      obtain rfl : k' = kindN k := (hvl _ (NewW.refl _ _)).kd.trans (wV_kd _ _)
      clear hval
      obtain ⟨a1, n1, m1⟩ := s1'
      obtain ⟨a2, n2, m2⟩ := s2'
      have h1c : ∀ u ∈ (⟨kindN k, f1, .slice a1 n1 m1, f2, .slice a2 n2 m2, ii⟩ : Vv).cells, u.oneCell' = true := by simp [Value.oneCell']
      go_upto_region 7 with (refine wpList_store_new rfl 30 (.tmp 6) (.tmp 19) rfl (⟨kindN k, f1, .slice a1 n1 m1, f2, .slice a2 n2 m2, ii⟩ : Vv).cells _ infoValN rfl h1c w5.heap.size rfl rfl rfl ?_)
      obtain ⟨S, hS⟩ : ∃ S, w5.heap.size = S := ⟨_, rfl⟩
      obtain ⟨W6, hW6⟩ : ∃ W6, w5.alloc (.cells (⟨kindN k, f1, .slice a1 n1 m1, f2, .slice a2 n2 m2, ii⟩ : Vv).cells 30) = W6 := ⟨_, rfl⟩
      have b6 : Below w5.heap.size w5 W6 := by rw [← hW6]; exact (Below.refl _ _).alloc (Nat.le_refl _) _
      have bo6 : Below wo.heap.size wo W6 := hb4.trans ((hb5.mono (by omega)).trans (b6.mono (by omega)))
      have qs : Blk W6 S (⟨kindN k, f1, .slice a1 n1 m1, f2, .slice a2 n2 m2, ii⟩ : Vv).cells 30 := by rw [← hW6, ← hS]; exact Blk.new w5 _ _
      have s6 : W6.heap.size = S + 1 := by rw [← hW6, ← hS]; simp
      have sS : B + 3 ≤ S := by omega
      have HQ2' := Lib.hid (HQ2.out.below bo6 (by omega))
      have HQ0' := Lib.hid (HQ0.out.below bo6 (by omega))
      have HQ1' := Lib.hid (HQ1.out.below bo6 (by omega))
      have NW6 : Hid (NewW (B + 3) wo W6) := Lib.hid (NewW.of bo6)
      have hSo : wo.heap.size ≤ S := by omega
      have HBW' := Lib.hid (HBW.out.trans (bo6.mono (by omega)))
      have HVL := Lib.hid ((hvl.move (NewW.of b6)))
      have n0' := HQ0'.out.at (HA.out k y HY.out)
      have HS := Lib.hid hS
      have HW6 := Lib.hid hW6
      dsimp only [Vv.cells] at HW6
      clear HQ2 HQ0 HQ1 HBW hvl b6 bo6 hW6 hS hb4 hb5
      have sw6 : B + 3 ≤ W6.heap.size := by omega
      have sw4 : B + 3 ≤ w4.heap.size := by omega
      simp only [HS.out]
      rw [HW6.out]
      clear HW6
      obtain ⟨c0, c1, c2, c3, c4, c5⟩ := qs.six
      by_cases hk1 : kindN k = 1
      · have e1 : (kindN k == 1) = true := by simp [hk1]
        have f5 := qs.free 5
        go_upto_region 14 with fail
        obtain ⟨W7, hW7⟩ : ∃ W7, W6.setCell ⟨S, 5, none⟩ (.int .i64 ((m : Int) % 2)) = W7 := ⟨_, rfl⟩
        rw [hW7]
        have hg7 : W6.grownBy W7 (some S) := by rw [← hW7]; exact grownBy_setCell _ _ _ _
        have hs7 : W7.heap.size = W6.heap.size := by rw [← hW7]; simp [World.setCell]
        have HSB : Hid (Blk W7 S (⟨1, f1, .slice a1 n1 m1, f2, .slice a2 n2 m2, (m : Int) % 2⟩ : Vv).cells 30) := Lib.hid (by
          rw [hk1] at qs
          rw [← hW7]
          exact qs.set (i := 5) (.int .i64 ((m : Int) % 2)))
        have HQ2 := Lib.hid (HQ2'.out.kept hg7 (by simp; omega))
        have HQ0 := Lib.hid (HQ0'.out.kept hg7 (by simp; omega))
        have HQ1 := Lib.hid (HQ1'.out.kept hg7 (by simp; omega))
        have NWW := Lib.hid (NW6.out.puts hg7 (.inr hSo))
        have HBW := Lib.hid (HBW'.out.trans (below_of_grownBy (K := B) hg7 (by omega) (by omega)))
        have HV : Hid (VlN (B + 3) W7 (valsM l k) (⟨1, f1, .slice a1 n1 m1, f2, .slice a2 n2 m2, (m : Int) % 2⟩ : Vv)) := Lib.hid fun W hw => by
          have h := HVL.out.now
          rw [HVM.out]
          unfold valM
          rw [if_pos hk1, HM.out]
          rw [hk1] at h
          exact ⟨rfl, h.b1, h.b2, by show (m : Int) % 2 = ((m % 2 : Nat) : Int); omega, lm_nil_any h.n, lm_nil_any h.d⟩
        have sw7 : B + 3 ≤ W7.heap.size := by omega
        have sSb : S < W7.heap.size := by omega
        clear hW7 hg7 hs7 HQ2' HQ0' HQ1' HBW' HVL n0' c0 c1 c2 c3 c4 c5 f5 qs n0 hmi
        have hrs := HSB.out.range
        obtain ⟨cs', hq', hsz', hcs'⟩ := blk_setCells (⟨1, f1, .slice a1 n1 m1, f2, .slice a2 n2 m2, (m : Int) % 2⟩ : Vv).cells.toList (k * 6) W7 cs HQ2.out (by rw [hsz]; show k * 6 + 6 ≤ 72; omega)
        have hth : W7.there (B + 2) (k * 6) (⟨1, f1, .slice a1 n1 m1, f2, .slice a2 n2 m2, (m : Int) % 2⟩ : Vv).cells.size := blk_there HQ2.out (by rw [hsz]; show k * 6 + 6 ≤ 72; omega)
        have hal : (⟨1, f1, .slice a1 n1 m1, f2, .slice a2 n2 m2, (m : Int) % 2⟩ : Vv).cells.all (·.oneCell') = true := Array.all_eq_true_iff_forall_mem.2 (by simp [Value.oneCell'])
        have hg9 := grown_setCells (⟨1, f1, .slice a1 n1 m1, f2, .slice a2 n2 m2, (m : Int) % 2⟩ : Vv).cells.toList (k * 6) W7 (B + 2)
        have hs9 := size_setCellsG (⟨1, f1, .slice a1 n1 m1, f2, .slice a2 n2 m2, (m : Int) % 2⟩ : Vv).cells.toList (k * 6) W7 (B + 2)
        obtain ⟨W9, hW9⟩ : ∃ W9, W7.setCells (B + 2) (k * 6) (⟨1, f1, .slice a1 n1 m1, f2, .slice a2 n2 m2, (m : Int) % 2⟩ : Vv).cells.toList = W9 := ⟨_, rfl⟩
        rw [hW9] at hq' hg9 hs9
        have HW9 := Lib.hid hW9
        have HQ' := Lib.hid hq'
        have HCS := Lib.hid hcs'
        have HG9 := Lib.hid hg9
        clear hW9 hq' hcs' hg9
        go_upto_region 15 with (first
          | (refine wpList_load_mid rfl 30 (.tmp 6) rfl S 0 rfl (⟨1, f1, .slice a1 n1 m1, f2, .slice a2 n2 m2, (m : Int) % 2⟩ : Vv).cells.toList _ hrs Tryz.underlying30 rfl infoValN ?_)
          | (refine wpList_store_mid rfl 30 (.tmp 42) (.tmp 41) rfl (B + 2) (k * 6) (⟨1, f1, .slice a1 n1 m1, f2, .slice a2 n2 m2, (m : Int) % 2⟩ : Vv).cells rfl rfl hth infoValN hal ?_; rw [HW9.out]))
        clear hrs hth hal
        have q0 := HQ0.out.kept HG9.out (by simp)
        have q1 := HQ1.out.kept HG9.out (by simp)
        have bw := HBW.out.trans (below_of_grownBy (K := B) HG9.out (by omega) (by omega))
        have hcs2 : ∀ i, i < 12 → ∀ j, j < 6 → cs'[i * 6 + j]? = some ((if i < k + 1 then (fun i => if i = k then (⟨1, f1, .slice a1 n1 m1, f2, .slice a2 n2 m2, (m : Int) % 2⟩ : Vv) else g i) i else vv0).cell j) := fun i hi j hj => by
          have h1 := HCS.out (i * 6 + j) (by rw [hsz]; omega)
          rw [h1]
          by_cases e : i = k
          · subst e
            rw [if_pos ⟨by omega, by show i * 6 + j < i * 6 + 6; omega⟩, show i * 6 + j - i * 6 = j by omega, if_pos (by omega)]
            simp only [if_true]
            have hj6 : j = 0 ∨ j = 1 ∨ j = 2 ∨ j = 3 ∨ j = 4 ∨ j = 5 := by omega
            rcases hj6 with rfl | rfl | rfl | rfl | rfl | rfl <;> rfl
          · rw [if_neg (by show ¬ (k * 6 ≤ i * 6 + j ∧ i * 6 + j < k * 6 + 6); omega), HCC.out i hi j hj]
            by_cases hik : i < k
            · rw [if_pos hik, if_pos (by omega)]; simp only [e, if_false]
            · rw [if_neg hik, if_neg (by omega)]
        have hv2 : ∀ i, i < k + 1 → VlN (B + 3) W9 (valsM l i) ((fun i => if i = k then (⟨1, f1, .slice a1 n1 m1, f2, .slice a2 n2 m2, (m : Int) % 2⟩ : Vv) else g i) i) := fun i hi => by
          by_cases e : i = k
          · subst e
            simp only [if_true]
            exact HV.out.move (NewW.put HG9.out (by omega))
          · simp only [e, if_false]
            exact (HG.out i (by omega)).move (NWW.out.puts HG9.out (.inl (by omega)))
        have HCS2 := Lib.hid hcs2
        have HV2 := Lib.hid hv2
        clear hcs2 hv2
        go_wp2_with fail
        exact ⟨⟨k + 1, _, cs', by omega, by go_num, HQ'.out, by omega, HCS2, HV2, q0, q1, bw, by omega⟩, by simp [intOf]; omega⟩
      · have e1 : (kindN k == 1) = false := by simpa using hk1
        by_cases hk2 : kindN k = 2
        · have hpp : y % 2 = 0 ∨ y % 2 = 1 := by omega
          rcases hpp with hpp | hpp
          · have hp2 : ((y : Int) % 2 == 1) = false := by simp; omega
            go_upto_region 14 with fail
            have HSB : Hid (Blk W6 S (⟨2, f1, .slice a1 n1 m1, f2, .slice a2 n2 m2, ii⟩ : Vv).cells 30) := Lib.hid (by rw [hk2] at qs; exact qs)
            have HQ2 := HQ2'
            have HQ0 := HQ0'
            have HQ1 := HQ1'
            have NWW := NW6
            have HBW := HBW'
            have sSb : S < W6.heap.size := by omega
            have HV : Hid (VlN (B + 3) W6 (valsM l k) (⟨2, f1, .slice a1 n1 m1, f2, .slice a2 n2 m2, ii⟩ : Vv)) := Lib.hid (by
              have h := HVL.out.mono sw4
              rw [HVM.out]
              unfold valM
              rw [if_neg hk1, if_neg (fun h => by have := h.2; omega), HM.out]
              rw [hk2] at h ⊢
              exact h)
            clear HQ2' HQ0' HQ1' HBW' HVL n0' c0 c1 c2 c3 c4 c5 qs n0 hmi
            have hrs := HSB.out.range
            obtain ⟨cs', hq', hsz', hcs'⟩ := blk_setCells (⟨2, f1, .slice a1 n1 m1, f2, .slice a2 n2 m2, ii⟩ : Vv).cells.toList (k * 6) W6 cs HQ2.out (by rw [hsz]; show k * 6 + 6 ≤ 72; omega)
            have hth : W6.there (B + 2) (k * 6) (⟨2, f1, .slice a1 n1 m1, f2, .slice a2 n2 m2, ii⟩ : Vv).cells.size := blk_there HQ2.out (by rw [hsz]; show k * 6 + 6 ≤ 72; omega)
            have hal : (⟨2, f1, .slice a1 n1 m1, f2, .slice a2 n2 m2, ii⟩ : Vv).cells.all (·.oneCell') = true := Array.all_eq_true_iff_forall_mem.2 (by simp [Value.oneCell'])
            have hg9 := grown_setCells (⟨2, f1, .slice a1 n1 m1, f2, .slice a2 n2 m2, ii⟩ : Vv).cells.toList (k * 6) W6 (B + 2)
            have hs9 := size_setCellsG (⟨2, f1, .slice a1 n1 m1, f2, .slice a2 n2 m2, ii⟩ : Vv).cells.toList (k * 6) W6 (B + 2)
            obtain ⟨W9, hW9⟩ : ∃ W9, W6.setCells (B + 2) (k * 6) (⟨2, f1, .slice a1 n1 m1, f2, .slice a2 n2 m2, ii⟩ : Vv).cells.toList = W9 := ⟨_, rfl⟩
            rw [hW9] at hq' hg9 hs9
            have HW9 := Lib.hid hW9
            have HQ' := Lib.hid hq'
            have HCS := Lib.hid hcs'
            have HG9 := Lib.hid hg9
            clear hW9 hq' hcs' hg9
            go_upto_region 15 with (first
              | (refine wpList_load_mid rfl 30 (.tmp 6) rfl S 0 rfl (⟨2, f1, .slice a1 n1 m1, f2, .slice a2 n2 m2, ii⟩ : Vv).cells.toList _ hrs Tryz.underlying30 rfl infoValN ?_)
              | (refine wpList_store_mid rfl 30 (.tmp 42) (.tmp 41) rfl (B + 2) (k * 6) (⟨2, f1, .slice a1 n1 m1, f2, .slice a2 n2 m2, ii⟩ : Vv).cells rfl rfl hth infoValN hal ?_; rw [HW9.out]))
            clear hrs hth hal
            have q0 := HQ0.out.kept HG9.out (by simp)
            have q1 := HQ1.out.kept HG9.out (by simp)
            have bw := HBW.out.trans (below_of_grownBy (K := B) HG9.out (by omega) (by omega))
            have hcs2 : ∀ i, i < 12 → ∀ j, j < 6 → cs'[i * 6 + j]? = some ((if i < k + 1 then (fun i => if i = k then (⟨2, f1, .slice a1 n1 m1, f2, .slice a2 n2 m2, ii⟩ : Vv) else g i) i else vv0).cell j) := fun i hi j hj => by
              have h1 := HCS.out (i * 6 + j) (by rw [hsz]; omega)
              rw [h1]
              by_cases e : i = k
              · subst e
                rw [if_pos ⟨by omega, by show i * 6 + j < i * 6 + 6; omega⟩, show i * 6 + j - i * 6 = j by omega, if_pos (by omega)]
                simp only [if_true]
                have hj6 : j = 0 ∨ j = 1 ∨ j = 2 ∨ j = 3 ∨ j = 4 ∨ j = 5 := by omega
                rcases hj6 with rfl | rfl | rfl | rfl | rfl | rfl <;> rfl
              · rw [if_neg (by show ¬ (k * 6 ≤ i * 6 + j ∧ i * 6 + j < k * 6 + 6); omega), HCC.out i hi j hj]
                by_cases hik : i < k
                · rw [if_pos hik, if_pos (by omega)]; simp only [e, if_false]
                · rw [if_neg hik, if_neg (by omega)]
            have hv2 : ∀ i, i < k + 1 → VlN (B + 3) W9 (valsM l i) ((fun i => if i = k then (⟨2, f1, .slice a1 n1 m1, f2, .slice a2 n2 m2, ii⟩ : Vv) else g i) i) := fun i hi => by
              by_cases e : i = k
              · subst e
                simp only [if_true]
                exact HV.out.move (NewW.put HG9.out (by omega))
              · simp only [e, if_false]
                exact (HG.out i (by omega)).move (NWW.out.puts HG9.out (.inl (by omega)))
            have HCS2 := Lib.hid hcs2
            have HV2 := Lib.hid hv2
            clear hcs2 hv2
            go_wp2_with fail
            exact ⟨⟨k + 1, _, cs', by omega, by go_num, HQ'.out, by omega, HCS2, HV2, q0, q1, bw, by omega⟩, by simp [intOf]; omega⟩
          · have hp2 : ((y : Int) % 2 == 1) = true := by simp; omega
            have hfr : Calls Tryz.prog 44 #[.int .i64 (2 * (m : Int) + 1), .int .i64 2] W6 fun e w' => ∃ u v, e = .returned (Fv u v) ∧ (∃ a c, u = .slice a 1 c) ∧ (∃ a c, v = .slice a 1 c) ∧ Lm w'.heap.size w' u [2 * m + 1] ∧ Lm w'.heap.size w' v [2] ∧ Below W6.heap.size W6 w' ∧ NewV W6.heap.size u ∧ NewV W6.heap.size v := kfracJ_any (2 * m + 1) (by omega) (by omega) W6
            go_wp2_with fail
            refine hfr.mono ?_
            rintro e w7 ⟨u, v, rfl, ⟨au, cu, rfl⟩, ⟨av, cv, rfl⟩, hlu, hlv, hb7, hnu, hnv⟩
            have hs7 := hb7.size
            clear hfr
            have qs7 := qs.below hb7 (by omega)
            have g1 := qs7.free 1
            have g2 := qs7.free 2
            have g3 := qs7.free 3
            have g4 := qs7.free 4
            obtain ⟨c0, c1, c2, c3, c4, c5⟩ := qs7.six
            go_upto_region 14 with fail
            obtain ⟨W8, hW8⟩ : ∃ W8, ((((w7.setCell ⟨S, 1, none⟩ (.bool false)).setCell ⟨S, 2, none⟩ (.slice au 1 cu)).setCell ⟨S, 3, none⟩ (.bool false)).setCell ⟨S, 4, none⟩ (.slice av 1 cv)) = W8 := ⟨_, rfl⟩
            rw [hW8]
            have hg8 : w7.grownBy W8 (some S) := by rw [← hW8]; exact grownBy_then (grownBy_then (grownBy_then (grownBy_setCell _ _ _ _) (grownBy_setCell _ _ _ _)) (grownBy_setCell _ _ _ _)) (grownBy_setCell _ _ _ _)
            have hs8 : W8.heap.size = w7.heap.size := by rw [← hW8]; simp [World.setCell]
            have HSB : Hid (Blk W8 S (⟨2, false, .slice au 1 cu, false, .slice av 1 cv, ii⟩ : Vv).cells 30) := Lib.hid (by
              rw [hk2] at qs7
              rw [← hW8]
              exact (((qs7.set (i := 1) (.bool false)).set (i := 2) (.slice au 1 cu)).set (i := 3) (.bool false)).set (i := 4) (.slice av 1 cv))
            have HQ2 := Lib.hid ((HQ2'.out.below hb7 (by omega)).kept hg8 (by simp; omega))
            have HQ0 := Lib.hid ((HQ0'.out.below hb7 (by omega)).kept hg8 (by simp; omega))
            have HQ1 := Lib.hid ((HQ1'.out.below hb7 (by omega)).kept hg8 (by simp; omega))
            have NWW := Lib.hid ((NW6.out.trans (NewW.of hb7)).puts hg8 (.inr hSo))
            have HBW := Lib.hid ((HBW'.out.trans (hb7.mono (by omega))).trans (below_of_grownBy (K := B) hg8 (by omega) (by omega)))
            have HV : Hid (VlN (B + 3) W8 (valsM l k) (⟨2, false, .slice au 1 cu, false, .slice av 1 cv, ii⟩ : Vv)) := Lib.hid fun W hw => by
              have h := HVL.out.now.i
              rw [hk2] at h
              have nw : NewW W6.heap.size w7 W := (NewW.put hg8 (by omega)).trans (hw.mono (by omega))
              rw [HVM.out]
              unfold valM
              rw [if_neg hk1, if_pos ⟨by omega, hpp⟩, HM.out]
              exact ⟨hk2.symm, rfl, rfl, h, lm_newW hlu hnu nw (Nat.le_refl _), lm_newW hlv hnv nw (Nat.le_refl _)⟩
            have sw8 : B + 3 ≤ W8.heap.size := by omega
            have sSb : S < W8.heap.size := by omega
            clear hW8 hg8 hs8 HQ2' HQ0' HQ1' HBW' HVL n0' c0 c1 c2 c3 c4 c5 qs qs7 n0 hmi g1 g2 g3 g4 hlu hlv hnu hnv hb7
            have hrs := HSB.out.range
            obtain ⟨cs', hq', hsz', hcs'⟩ := blk_setCells (⟨2, false, .slice au 1 cu, false, .slice av 1 cv, ii⟩ : Vv).cells.toList (k * 6) W8 cs HQ2.out (by rw [hsz]; show k * 6 + 6 ≤ 72; omega)
            have hth : W8.there (B + 2) (k * 6) (⟨2, false, .slice au 1 cu, false, .slice av 1 cv, ii⟩ : Vv).cells.size := blk_there HQ2.out (by rw [hsz]; show k * 6 + 6 ≤ 72; omega)
            have hal : (⟨2, false, .slice au 1 cu, false, .slice av 1 cv, ii⟩ : Vv).cells.all (·.oneCell') = true := Array.all_eq_true_iff_forall_mem.2 (by simp [Value.oneCell'])
            have hg9 := grown_setCells (⟨2, false, .slice au 1 cu, false, .slice av 1 cv, ii⟩ : Vv).cells.toList (k * 6) W8 (B + 2)
            have hs9 := size_setCellsG (⟨2, false, .slice au 1 cu, false, .slice av 1 cv, ii⟩ : Vv).cells.toList (k * 6) W8 (B + 2)
            obtain ⟨W9, hW9⟩ : ∃ W9, W8.setCells (B + 2) (k * 6) (⟨2, false, .slice au 1 cu, false, .slice av 1 cv, ii⟩ : Vv).cells.toList = W9 := ⟨_, rfl⟩
            rw [hW9] at hq' hg9 hs9
            have HW9 := Lib.hid hW9
            have HQ' := Lib.hid hq'
            have HCS := Lib.hid hcs'
            have HG9 := Lib.hid hg9
            clear hW9 hq' hcs' hg9
            go_upto_region 15 with (first
              | (refine wpList_load_mid rfl 30 (.tmp 6) rfl S 0 rfl (⟨2, false, .slice au 1 cu, false, .slice av 1 cv, ii⟩ : Vv).cells.toList _ hrs Tryz.underlying30 rfl infoValN ?_)
              | (refine wpList_store_mid rfl 30 (.tmp 42) (.tmp 41) rfl (B + 2) (k * 6) (⟨2, false, .slice au 1 cu, false, .slice av 1 cv, ii⟩ : Vv).cells rfl rfl hth infoValN hal ?_; rw [HW9.out]))
            clear hrs hth hal
            have q0 := HQ0.out.kept HG9.out (by simp)
            have q1 := HQ1.out.kept HG9.out (by simp)
            have bw := HBW.out.trans (below_of_grownBy (K := B) HG9.out (by omega) (by omega))
            have hcs2 : ∀ i, i < 12 → ∀ j, j < 6 → cs'[i * 6 + j]? = some ((if i < k + 1 then (fun i => if i = k then (⟨2, false, .slice au 1 cu, false, .slice av 1 cv, ii⟩ : Vv) else g i) i else vv0).cell j) := fun i hi j hj => by
              have h1 := HCS.out (i * 6 + j) (by rw [hsz]; omega)
              rw [h1]
              by_cases e : i = k
              · subst e
                rw [if_pos ⟨by omega, by show i * 6 + j < i * 6 + 6; omega⟩, show i * 6 + j - i * 6 = j by omega, if_pos (by omega)]
                simp only [if_true]
                have hj6 : j = 0 ∨ j = 1 ∨ j = 2 ∨ j = 3 ∨ j = 4 ∨ j = 5 := by omega
                rcases hj6 with rfl | rfl | rfl | rfl | rfl | rfl <;> rfl
              · rw [if_neg (by show ¬ (k * 6 ≤ i * 6 + j ∧ i * 6 + j < k * 6 + 6); omega), HCC.out i hi j hj]
                by_cases hik : i < k
                · rw [if_pos hik, if_pos (by omega)]; simp only [e, if_false]
                · rw [if_neg hik, if_neg (by omega)]
            have hv2 : ∀ i, i < k + 1 → VlN (B + 3) W9 (valsM l i) ((fun i => if i = k then (⟨2, false, .slice au 1 cu, false, .slice av 1 cv, ii⟩ : Vv) else g i) i) := fun i hi => by
              by_cases e : i = k
              · subst e
                simp only [if_true]
                exact HV.out.move (NewW.put HG9.out (by omega))
              · simp only [e, if_false]
                exact (HG.out i (by omega)).move (NWW.out.puts HG9.out (.inl (by omega)))
            have HCS2 := Lib.hid hcs2
            have HV2 := Lib.hid hv2
            clear hcs2 hv2
            go_wp2_with fail
            exact ⟨⟨k + 1, _, cs', by omega, by go_num, HQ'.out, by omega, HCS2, HV2, q0, q1, bw, by omega⟩, by simp [intOf]; omega⟩
        · by_cases hk3 : kindN k = 3
          · have hk2 := hk3
            clear hk3
            have hpp : y % 2 = 0 ∨ y % 2 = 1 := by omega
            rcases hpp with hpp | hpp
            · have hp2 : ((y : Int) % 2 == 1) = false := by simp; omega
              go_upto_region 14 with fail
              have HSB : Hid (Blk W6 S (⟨3, f1, .slice a1 n1 m1, f2, .slice a2 n2 m2, ii⟩ : Vv).cells 30) := Lib.hid (by rw [hk2] at qs; exact qs)
              have HQ2 := HQ2'
              have HQ0 := HQ0'
              have HQ1 := HQ1'
              have NWW := NW6
              have HBW := HBW'
              have sSb : S < W6.heap.size := by omega
              have HV : Hid (VlN (B + 3) W6 (valsM l k) (⟨3, f1, .slice a1 n1 m1, f2, .slice a2 n2 m2, ii⟩ : Vv)) := Lib.hid (by
                have h := HVL.out.mono sw4
                rw [HVM.out]
                unfold valM
                rw [if_neg hk1, if_neg (fun h => by have := h.2; omega), HM.out]
                rw [hk2] at h ⊢
                exact h)
              clear HQ2' HQ0' HQ1' HBW' HVL n0' c0 c1 c2 c3 c4 c5 qs n0 hmi
              have hrs := HSB.out.range
              obtain ⟨cs', hq', hsz', hcs'⟩ := blk_setCells (⟨3, f1, .slice a1 n1 m1, f2, .slice a2 n2 m2, ii⟩ : Vv).cells.toList (k * 6) W6 cs HQ2.out (by rw [hsz]; show k * 6 + 6 ≤ 72; omega)
              have hth : W6.there (B + 2) (k * 6) (⟨3, f1, .slice a1 n1 m1, f2, .slice a2 n2 m2, ii⟩ : Vv).cells.size := blk_there HQ2.out (by rw [hsz]; show k * 6 + 6 ≤ 72; omega)
              have hal : (⟨3, f1, .slice a1 n1 m1, f2, .slice a2 n2 m2, ii⟩ : Vv).cells.all (·.oneCell') = true := Array.all_eq_true_iff_forall_mem.2 (by simp [Value.oneCell'])
              have hg9 := grown_setCells (⟨3, f1, .slice a1 n1 m1, f2, .slice a2 n2 m2, ii⟩ : Vv).cells.toList (k * 6) W6 (B + 2)
              have hs9 := size_setCellsG (⟨3, f1, .slice a1 n1 m1, f2, .slice a2 n2 m2, ii⟩ : Vv).cells.toList (k * 6) W6 (B + 2)
              obtain ⟨W9, hW9⟩ : ∃ W9, W6.setCells (B + 2) (k * 6) (⟨3, f1, .slice a1 n1 m1, f2, .slice a2 n2 m2, ii⟩ : Vv).cells.toList = W9 := ⟨_, rfl⟩
              rw [hW9] at hq' hg9 hs9
              have HW9 := Lib.hid hW9
              have HQ' := Lib.hid hq'
              have HCS := Lib.hid hcs'
              have HG9 := Lib.hid hg9
              clear hW9 hq' hcs' hg9
              go_upto_region 15 with (first
                | (refine wpList_load_mid rfl 30 (.tmp 6) rfl S 0 rfl (⟨3, f1, .slice a1 n1 m1, f2, .slice a2 n2 m2, ii⟩ : Vv).cells.toList _ hrs Tryz.underlying30 rfl infoValN ?_)
                | (refine wpList_store_mid rfl 30 (.tmp 42) (.tmp 41) rfl (B + 2) (k * 6) (⟨3, f1, .slice a1 n1 m1, f2, .slice a2 n2 m2, ii⟩ : Vv).cells rfl rfl hth infoValN hal ?_; rw [HW9.out]))
              clear hrs hth hal
              have q0 := HQ0.out.kept HG9.out (by simp)
              have q1 := HQ1.out.kept HG9.out (by simp)
              have bw := HBW.out.trans (below_of_grownBy (K := B) HG9.out (by omega) (by omega))
              have hcs2 : ∀ i, i < 12 → ∀ j, j < 6 → cs'[i * 6 + j]? = some ((if i < k + 1 then (fun i => if i = k then (⟨3, f1, .slice a1 n1 m1, f2, .slice a2 n2 m2, ii⟩ : Vv) else g i) i else vv0).cell j) := fun i hi j hj => by
                have h1 := HCS.out (i * 6 + j) (by rw [hsz]; omega)
                rw [h1]
                by_cases e : i = k
                · subst e
                  rw [if_pos ⟨by omega, by show i * 6 + j < i * 6 + 6; omega⟩, show i * 6 + j - i * 6 = j by omega, if_pos (by omega)]
                  simp only [if_true]
                  have hj6 : j = 0 ∨ j = 1 ∨ j = 2 ∨ j = 3 ∨ j = 4 ∨ j = 5 := by omega
                  rcases hj6 with rfl | rfl | rfl | rfl | rfl | rfl <;> rfl
                · rw [if_neg (by show ¬ (k * 6 ≤ i * 6 + j ∧ i * 6 + j < k * 6 + 6); omega), HCC.out i hi j hj]
                  by_cases hik : i < k
                  · rw [if_pos hik, if_pos (by omega)]; simp only [e, if_false]
                  · rw [if_neg hik, if_neg (by omega)]
              have hv2 : ∀ i, i < k + 1 → VlN (B + 3) W9 (valsM l i) ((fun i => if i = k then (⟨3, f1, .slice a1 n1 m1, f2, .slice a2 n2 m2, ii⟩ : Vv) else g i) i) := fun i hi => by
                by_cases e : i = k
                · subst e
                  simp only [if_true]
                  exact HV.out.move (NewW.put HG9.out (by omega))
                · simp only [e, if_false]
                  exact (HG.out i (by omega)).move (NWW.out.puts HG9.out (.inl (by omega)))
              have HCS2 := Lib.hid hcs2
              have HV2 := Lib.hid hv2
              clear hcs2 hv2
              go_wp2_with fail
              exact ⟨⟨k + 1, _, cs', by omega, by go_num, HQ'.out, by omega, HCS2, HV2, q0, q1, bw, by omega⟩, by simp [intOf]; omega⟩
            · have hp2 : ((y : Int) % 2 == 1) = true := by simp; omega
              have hfr : Calls Tryz.prog 44 #[.int .i64 (2 * (m : Int) + 1), .int .i64 2] W6 fun e w' => ∃ u v, e = .returned (Fv u v) ∧ (∃ a c, u = .slice a 1 c) ∧ (∃ a c, v = .slice a 1 c) ∧ Lm w'.heap.size w' u [2 * m + 1] ∧ Lm w'.heap.size w' v [2] ∧ Below W6.heap.size W6 w' ∧ NewV W6.heap.size u ∧ NewV W6.heap.size v := kfracJ_any (2 * m + 1) (by omega) (by omega) W6
              go_wp2_with fail
              refine hfr.mono ?_
              rintro e w7 ⟨u, v, rfl, ⟨au, cu, rfl⟩, ⟨av, cv, rfl⟩, hlu, hlv, hb7, hnu, hnv⟩
              have hs7 := hb7.size
              clear hfr
              have qs7 := qs.below hb7 (by omega)
              have g1 := qs7.free 1
              have g2 := qs7.free 2
              have g3 := qs7.free 3
              have g4 := qs7.free 4
              obtain ⟨c0, c1, c2, c3, c4, c5⟩ := qs7.six
              go_upto_region 14 with fail
              obtain ⟨W8, hW8⟩ : ∃ W8, ((((w7.setCell ⟨S, 1, none⟩ (.bool false)).setCell ⟨S, 2, none⟩ (.slice au 1 cu)).setCell ⟨S, 3, none⟩ (.bool false)).setCell ⟨S, 4, none⟩ (.slice av 1 cv)) = W8 := ⟨_, rfl⟩
              rw [hW8]
              have hg8 : w7.grownBy W8 (some S) := by rw [← hW8]; exact grownBy_then (grownBy_then (grownBy_then (grownBy_setCell _ _ _ _) (grownBy_setCell _ _ _ _)) (grownBy_setCell _ _ _ _)) (grownBy_setCell _ _ _ _)
              have hs8 : W8.heap.size = w7.heap.size := by rw [← hW8]; simp [World.setCell]
              have HSB : Hid (Blk W8 S (⟨3, false, .slice au 1 cu, false, .slice av 1 cv, ii⟩ : Vv).cells 30) := Lib.hid (by
                rw [hk2] at qs7
                rw [← hW8]
                exact (((qs7.set (i := 1) (.bool false)).set (i := 2) (.slice au 1 cu)).set (i := 3) (.bool false)).set (i := 4) (.slice av 1 cv))
              have HQ2 := Lib.hid ((HQ2'.out.below hb7 (by omega)).kept hg8 (by simp; omega))
              have HQ0 := Lib.hid ((HQ0'.out.below hb7 (by omega)).kept hg8 (by simp; omega))
              have HQ1 := Lib.hid ((HQ1'.out.below hb7 (by omega)).kept hg8 (by simp; omega))
              have NWW := Lib.hid ((NW6.out.trans (NewW.of hb7)).puts hg8 (.inr hSo))
              have HBW := Lib.hid ((HBW'.out.trans (hb7.mono (by omega))).trans (below_of_grownBy (K := B) hg8 (by omega) (by omega)))
              have HV : Hid (VlN (B + 3) W8 (valsM l k) (⟨3, false, .slice au 1 cu, false, .slice av 1 cv, ii⟩ : Vv)) := Lib.hid fun W hw => by
                have h := HVL.out.now.i
                rw [hk2] at h
                have nw : NewW W6.heap.size w7 W := (NewW.put hg8 (by omega)).trans (hw.mono (by omega))
                rw [HVM.out]
                unfold valM
                rw [if_neg hk1, if_pos ⟨by omega, hpp⟩, HM.out]
                exact ⟨hk2.symm, rfl, rfl, h, lm_newW hlu hnu nw (Nat.le_refl _), lm_newW hlv hnv nw (Nat.le_refl _)⟩
              have sw8 : B + 3 ≤ W8.heap.size := by omega
              have sSb : S < W8.heap.size := by omega
              clear hW8 hg8 hs8 HQ2' HQ0' HQ1' HBW' HVL n0' c0 c1 c2 c3 c4 c5 qs qs7 n0 hmi g1 g2 g3 g4 hlu hlv hnu hnv hb7
              have hrs := HSB.out.range
              obtain ⟨cs', hq', hsz', hcs'⟩ := blk_setCells (⟨3, false, .slice au 1 cu, false, .slice av 1 cv, ii⟩ : Vv).cells.toList (k * 6) W8 cs HQ2.out (by rw [hsz]; show k * 6 + 6 ≤ 72; omega)
              have hth : W8.there (B + 2) (k * 6) (⟨3, false, .slice au 1 cu, false, .slice av 1 cv, ii⟩ : Vv).cells.size := blk_there HQ2.out (by rw [hsz]; show k * 6 + 6 ≤ 72; omega)
              have hal : (⟨3, false, .slice au 1 cu, false, .slice av 1 cv, ii⟩ : Vv).cells.all (·.oneCell') = true := Array.all_eq_true_iff_forall_mem.2 (by simp [Value.oneCell'])
              have hg9 := grown_setCells (⟨3, false, .slice au 1 cu, false, .slice av 1 cv, ii⟩ : Vv).cells.toList (k * 6) W8 (B + 2)
              have hs9 := size_setCellsG (⟨3, false, .slice au 1 cu, false, .slice av 1 cv, ii⟩ : Vv).cells.toList (k * 6) W8 (B + 2)
              obtain ⟨W9, hW9⟩ : ∃ W9, W8.setCells (B + 2) (k * 6) (⟨3, false, .slice au 1 cu, false, .slice av 1 cv, ii⟩ : Vv).cells.toList = W9 := ⟨_, rfl⟩
              rw [hW9] at hq' hg9 hs9
              have HW9 := Lib.hid hW9
              have HQ' := Lib.hid hq'
              have HCS := Lib.hid hcs'
              have HG9 := Lib.hid hg9
              clear hW9 hq' hcs' hg9
              go_upto_region 15 with (first
                | (refine wpList_load_mid rfl 30 (.tmp 6) rfl S 0 rfl (⟨3, false, .slice au 1 cu, false, .slice av 1 cv, ii⟩ : Vv).cells.toList _ hrs Tryz.underlying30 rfl infoValN ?_)
                | (refine wpList_store_mid rfl 30 (.tmp 42) (.tmp 41) rfl (B + 2) (k * 6) (⟨3, false, .slice au 1 cu, false, .slice av 1 cv, ii⟩ : Vv).cells rfl rfl hth infoValN hal ?_; rw [HW9.out]))
              clear hrs hth hal
              have q0 := HQ0.out.kept HG9.out (by simp)
              have q1 := HQ1.out.kept HG9.out (by simp)
              have bw := HBW.out.trans (below_of_grownBy (K := B) HG9.out (by omega) (by omega))
              have hcs2 : ∀ i, i < 12 → ∀ j, j < 6 → cs'[i * 6 + j]? = some ((if i < k + 1 then (fun i => if i = k then (⟨3, false, .slice au 1 cu, false, .slice av 1 cv, ii⟩ : Vv) else g i) i else vv0).cell j) := fun i hi j hj => by
                have h1 := HCS.out (i * 6 + j) (by rw [hsz]; omega)
                rw [h1]
                by_cases e : i = k
                · subst e
                  rw [if_pos ⟨by omega, by show i * 6 + j < i * 6 + 6; omega⟩, show i * 6 + j - i * 6 = j by omega, if_pos (by omega)]
                  simp only [if_true]
                  have hj6 : j = 0 ∨ j = 1 ∨ j = 2 ∨ j = 3 ∨ j = 4 ∨ j = 5 := by omega
                  rcases hj6 with rfl | rfl | rfl | rfl | rfl | rfl <;> rfl
                · rw [if_neg (by show ¬ (k * 6 ≤ i * 6 + j ∧ i * 6 + j < k * 6 + 6); omega), HCC.out i hi j hj]
                  by_cases hik : i < k
                  · rw [if_pos hik, if_pos (by omega)]; simp only [e, if_false]
                  · rw [if_neg hik, if_neg (by omega)]
              have hv2 : ∀ i, i < k + 1 → VlN (B + 3) W9 (valsM l i) ((fun i => if i = k then (⟨3, false, .slice au 1 cu, false, .slice av 1 cv, ii⟩ : Vv) else g i) i) := fun i hi => by
                by_cases e : i = k
                · subst e
                  simp only [if_true]
                  exact HV.out.move (NewW.put HG9.out (by omega))
                · simp only [e, if_false]
                  exact (HG.out i (by omega)).move (NWW.out.puts HG9.out (.inl (by omega)))
              have HCS2 := Lib.hid hcs2
              have HV2 := Lib.hid hv2
              clear hcs2 hv2
              go_wp2_with fail
              exact ⟨⟨k + 1, _, cs', by omega, by go_num, HQ'.out, by omega, HCS2, HV2, q0, q1, bw, by omega⟩, by simp [intOf]; omega⟩
          · have e2 : (kindN k == 2) = false := by simpa using hk2
            have e3 : (kindN k == 3) = false := by simpa using hk3
            go_upto_region 14 with fail
            have HSB : Hid (Blk W6 S (⟨kindN k, f1, .slice a1 n1 m1, f2, .slice a2 n2 m2, ii⟩ : Vv).cells 30) := Lib.hid (by exact qs)
            have HQ2 := HQ2'
            have HQ0 := HQ0'
            have HQ1 := HQ1'
            have NWW := NW6
            have HBW := HBW'
            have sSb : S < W6.heap.size := by omega
            have HV : Hid (VlN (B + 3) W6 (valsM l k) (⟨kindN k, f1, .slice a1 n1 m1, f2, .slice a2 n2 m2, ii⟩ : Vv)) := Lib.hid (by
              have h := HVL.out.mono sw4
              rw [HVM.out]
              unfold valM
              rw [if_neg hk1, if_neg (fun h => by have := h.1; omega), HM.out]
              exact h)
            clear HQ2' HQ0' HQ1' HBW' HVL n0' c0 c1 c2 c3 c4 c5 qs n0 hmi
            have hrs := HSB.out.range
            obtain ⟨cs', hq', hsz', hcs'⟩ := blk_setCells (⟨kindN k, f1, .slice a1 n1 m1, f2, .slice a2 n2 m2, ii⟩ : Vv).cells.toList (k * 6) W6 cs HQ2.out (by rw [hsz]; show k * 6 + 6 ≤ 72; omega)
            have hth : W6.there (B + 2) (k * 6) (⟨kindN k, f1, .slice a1 n1 m1, f2, .slice a2 n2 m2, ii⟩ : Vv).cells.size := blk_there HQ2.out (by rw [hsz]; show k * 6 + 6 ≤ 72; omega)
            have hal : (⟨kindN k, f1, .slice a1 n1 m1, f2, .slice a2 n2 m2, ii⟩ : Vv).cells.all (·.oneCell') = true := Array.all_eq_true_iff_forall_mem.2 (by simp [Value.oneCell'])
            have hg9 := grown_setCells (⟨kindN k, f1, .slice a1 n1 m1, f2, .slice a2 n2 m2, ii⟩ : Vv).cells.toList (k * 6) W6 (B + 2)
            have hs9 := size_setCellsG (⟨kindN k, f1, .slice a1 n1 m1, f2, .slice a2 n2 m2, ii⟩ : Vv).cells.toList (k * 6) W6 (B + 2)
            obtain ⟨W9, hW9⟩ : ∃ W9, W6.setCells (B + 2) (k * 6) (⟨kindN k, f1, .slice a1 n1 m1, f2, .slice a2 n2 m2, ii⟩ : Vv).cells.toList = W9 := ⟨_, rfl⟩
            rw [hW9] at hq' hg9 hs9
            have HW9 := Lib.hid hW9
            have HQ' := Lib.hid hq'
            have HCS := Lib.hid hcs'
            have HG9 := Lib.hid hg9
            clear hW9 hq' hcs' hg9
            go_upto_region 15 with (first
              | (refine wpList_load_mid rfl 30 (.tmp 6) rfl S 0 rfl (⟨kindN k, f1, .slice a1 n1 m1, f2, .slice a2 n2 m2, ii⟩ : Vv).cells.toList _ hrs Tryz.underlying30 rfl infoValN ?_)
              | (refine wpList_store_mid rfl 30 (.tmp 42) (.tmp 41) rfl (B + 2) (k * 6) (⟨kindN k, f1, .slice a1 n1 m1, f2, .slice a2 n2 m2, ii⟩ : Vv).cells rfl rfl hth infoValN hal ?_; rw [HW9.out]))
            clear hrs hth hal
            have q0 := HQ0.out.kept HG9.out (by simp)
            have q1 := HQ1.out.kept HG9.out (by simp)
            have bw := HBW.out.trans (below_of_grownBy (K := B) HG9.out (by omega) (by omega))
            have hcs2 : ∀ i, i < 12 → ∀ j, j < 6 → cs'[i * 6 + j]? = some ((if i < k + 1 then (fun i => if i = k then (⟨kindN k, f1, .slice a1 n1 m1, f2, .slice a2 n2 m2, ii⟩ : Vv) else g i) i else vv0).cell j) := fun i hi j hj => by
              have h1 := HCS.out (i * 6 + j) (by rw [hsz]; omega)
              rw [h1]
              by_cases e : i = k
              · subst e
                rw [if_pos ⟨by omega, by show i * 6 + j < i * 6 + 6; omega⟩, show i * 6 + j - i * 6 = j by omega, if_pos (by omega)]
                simp only [if_true]
                have hj6 : j = 0 ∨ j = 1 ∨ j = 2 ∨ j = 3 ∨ j = 4 ∨ j = 5 := by omega
                rcases hj6 with rfl | rfl | rfl | rfl | rfl | rfl <;> rfl
              · rw [if_neg (by show ¬ (k * 6 ≤ i * 6 + j ∧ i * 6 + j < k * 6 + 6); omega), HCC.out i hi j hj]
                by_cases hik : i < k
                · rw [if_pos hik, if_pos (by omega)]; simp only [e, if_false]
                · rw [if_neg hik, if_neg (by omega)]
            have hv2 : ∀ i, i < k + 1 → VlN (B + 3) W9 (valsM l i) ((fun i => if i = k then (⟨kindN k, f1, .slice a1 n1 m1, f2, .slice a2 n2 m2, ii⟩ : Vv) else g i) i) := fun i hi => by
              by_cases e : i = k
              · subst e
                simp only [if_true]
                exact HV.out.move (NewW.put HG9.out (by omega))
              · simp only [e, if_false]
                exact (HG.out i (by omega)).move (NWW.out.puts HG9.out (.inl (by omega)))
            have HCS2 := Lib.hid hcs2
            have HV2 := Lib.hid hv2
            clear hcs2 hv2
            go_wp2_with fail
            exact ⟨⟨k + 1, _, cs', by omega, by go_num, HQ'.out, by omega, HCS2, HV2, q0, q1, bw, by omega⟩, by simp [intOf]; omega⟩
    · obtain rfl : k = 12 := by omega
      have hce := cells72_of (g := g) hq2 hsz (fun i hi j hj => by have := hcc.out i hi j hj; rwa [if_pos hi] at this)
      subst hce
      have hrg := hq2.range
      have hi1 : (Tryz.prog.info? 71).map (fun i => i.size) = some (cells72 g).toArray.size := by rw [infoV12]; simp [cells72_len]
      have hi2 : (Tryz.prog.info? 71).map (fun i => i.size) = some (cells72 g).toArray.toList.length := by rw [infoV12]; simp [cells72_len]
      have hzs : z72.size = (cells72 g).toArray.size := by simp [z72, cells72_len]
      have h1c : ∀ v ∈ (cells72 g).toArray, v.oneCell' = true := fun v hv => by
        rw [List.mem_toArray] at hv
        unfold cells72 at hv
        obtain ⟨j, hj, rfl⟩ := List.mem_map.1 hv
        have hj := List.mem_range.1 hj
        have h := (hgv.out (j / 6) (by omega)).now
        obtain ⟨a1, m1, e1, _⟩ := h.n.form
        obtain ⟨a2, m2, e2, _⟩ := h.d.form
        exact vv_cell_one _ (by rw [e1]; rfl) (by rw [e2]; rfl) _
      have HG := hgv
      have HBW := Lib.hid hbw
      clear hgv hbw hcc
      go_wp2_with (first
        | (refine wpList_load_mid rfl 71 (.tmp 3) rfl (B + 2) 0 rfl (cells72 g).toArray.toList _ hrg Tryz.underlying71 rfl hi2 ?_)
        | (refine wpList_store_blk rfl 71 71 (.tmp 2) (.tmp 44) rfl (cells72 g).toArray z72 (B + 1) hq1 hi1 hzs h1c rfl rfl ?_; intro W5 t1 t2 t3 t4))
      refine bodyPost_ret (results_blk rfl _ _ (B + 1) _ _ t1 rfl Tryz.underlying71 rfl hi1) rfl ?_
      exact ⟨g, rfl, fun k hk => ((HG.out k hk).move (NewW.put t3 (by omega))).mono (by omega), HBW.out.trans (t2 B (by omega))⟩
end Go.Proofs.YthooiobhlbnaoaaGreat
namespace Go.Proofs.YthooiobhlbnaoaaGreat
open Go.RowKit
set_option linter.unusedVariables false

theorem row72 {w : World} {b t k : Nat} {g : Nat → Vv} (h : Blk w b (cells72 g).toArray t) (hk : k < 12) : w.rangeAt b (k * 6) (g k).cells.toList := by
  intro j v hj
  have hj6 : j < 6 := (List.getElem?_eq_some_iff.1 hj).1
  refine h.at ?_
  rw [List.getElem?_toArray, cells72_at g hk hj6, ← hj]
  have hj7 : j = 0 ∨ j = 1 ∨ j = 2 ∨ j = 3 ∨ j = 4 ∨ j = 5 := by omega
  rcases hj7 with rfl | rfl | rfl | rfl | rfl | rfl <;> rfl
/-- The cells as numbers. -/
def cNs (vals : Nat → Vq) (l : List Sc) : List Nat := l.map fun s => (cellS s (vals (scIx s))).1.toNat
theorem cNs_at {vals : Nat → Vq} (hv : ValOk vals) (h1 : ∀ k, k < 12 → kindN k = 1 → (vals k).i = 0 ∨ (vals k).i = 1) {l : List Sc} (hl : LM l) (hf : Full l) {s : Sc} (hs : s ∈ l) : cellS s (vals (scIx s)) = (((cellS s (vals (scIx s))).1.toNat : Int), true) := by
  obtain ⟨c1, c2⟩ := cell_M hv (hl.each s hs) (hf s hs)
  have h0 : 0 ≤ (cellS s (vals (scIx s))).1 := by
    rw [c2]
    show 0 ≤ if s.kd = 0 then _ else _
    split
    · rename_i hk
      obtain ⟨k, hk12, e, hh⟩ := hl.each s hs
      have hix : scIx s = k := by unfold scIx; rw [e, sub_ix, Nat.mod_eq_of_lt hk12]
      rcases hh with hh | hh
      · have := h1 k hk12 hh.1; rw [hix]; omega
      · have := kind_cut hh.1; omega
    · omega
  have h2 : (cellS s (vals (scIx s))).2 = true := by rw [c2]
  rw [Int.toNat_of_nonneg h0, ← h2]
theorem ints_of_nats {K : Nat} {w : World} {v : Value} {vals : Nat → Vq} (hv : ValOk vals) (h1 : ∀ k, k < 12 → kindN k = 1 → (vals k).i = 0 ∨ (vals k).i = 1) {l : List Sc} (hl : LM l) (hf : Full l) (h : Nats K w v (cNs vals l)) : IntsX K w v (cellsM vals l) := by
  have hlen : (cNs vals l).length = (cellsM vals l).length := by simp [cNs, cellsM]
  have h2 : RowsV 1 (fun i _ => Z ((cNs vals l)[i]?.getD 0)) K w v (cellsM vals l).length := hlen ▸ h
  refine h2.congr fun i hi j _ => ?_
  have hi' : i < l.length := by simpa [cellsM] using hi
  unfold cNs cellsM
  rw [List.getElem?_map, List.getElem?_map, List.getElem?_eq_getElem hi']
  have := congrArg Prod.fst (cNs_at hv h1 hl hf (List.getElem_mem hi'))
  show Z ((cellS l[i] (vals (scIx l[i]))).1.toNat) = .int .i64 (cellS l[i] (vals (scIx l[i]))).1
  rw [this]; rfl

set_option maxRecDepth 100000 in
set_option maxHeartbeats 4000000 in
theorem gplace_any (K : Nat) (lv : Value) (l : List Sc) (nl : List Nat) (g : Nat → Vv) (w : World) (hs : ScsX K w lv l) (hm : LM l) (hf : Full l) (hv : ∀ k, k < 12 → VlX K w (valsM nl k) (g k)) (hK : K ≤ w.heap.size) :
    Calls Tryz.prog 33 #[lv, .agg (cells72 g).toArray] w fun e w' => ∃ v, e = .returned (.tuple #[v, .bool true]) ∧ IntsX w'.heap.size w' v (cellsM (valsM nl) l) ∧ Below w.heap.size w w' := by
  have hlen12 := hm.len
  obtain ⟨la, lc, rfl, _, hlm⟩ := hs.form
  obtain ⟨gy, hrow, hsc⟩ := hs
  obtain ⟨n, hn⟩ : ∃ n, l.length = n := ⟨_, rfl⟩
  have HN := Lib.hid hn
  rw [hn] at hrow hsc hlen12 ⊢
  obtain ⟨C, hC⟩ : ∃ C, cNs (valsM nl) l = C := ⟨_, rfl⟩
  have hCl : C.length = n := by rw [← hC, ← hn]; simp [cNs]
  have HC := Lib.hid hC
  obtain ⟨arr, harr⟩ : ∃ arr : Array Value, (cells72 g).toArray = arr := ⟨_, rfl⟩
  have HA := Lib.hid harr
  rw [harr]
  obtain ⟨W1, hW1⟩ : ∃ W1, w.alloc (.cells arr 71) = W1 := ⟨_, rfl⟩
  have b1 : Below w.heap.size w W1 := by rw [← hW1]; exact (Below.refl _ _).alloc (Nat.le_refl _) _
  have q1 : Blk W1 w.heap.size arr 71 := by rw [← hW1]; exact Blk.new w _ _
  have s1 : W1.heap.size = w.heap.size + 1 := by rw [← hW1]; simp
  obtain ⟨B, hB⟩ : ∃ B, w.heap.size = B := ⟨_, rfl⟩
  have HB := Lib.hid hB
  have HW := Lib.hid hW1
  rw [hB] at b1 q1 s1 hK ⊢
  have HM := Lib.hid hm
  have HF := Lib.hid hf
  have HV := Lib.hid hv
  have HSC := Lib.hid hsc
  have HFIN : Hid (∀ W v, OwnN (B + 1) W v C → IntsX W.heap.size W v (cellsM (valsM nl) l)) := Lib.hid fun W v h => ints_of_nats (valsM_ok nl) (valsM_truth nl) hm hf (by rw [hC]; exact h.nats)
  have HROW := Lib.hid hrow
  clear hB hW1 hm hf hv hsc hn harr hC hrow
  go_enter Tryz.func33, Tryz.ntmps33
  go_upto_region 1 with fail
  simp only [HB.out]
  rw [HW.out]
  go_wp2_with fail
  go_loopw [6, 13] (fun ov iv wr => ∃ i : Nat, i ≤ n ∧ iv = .int .i64 i ∧ OwnN (B + 1) wr ov (C.take i) ∧ Blk wr B arr 71 ∧ Below B w wr ∧ B + 1 ≤ wr.heap.size) (fun _ iv _ => n - (intOf iv).toNat)
  case atStart => exact ⟨0, Nat.zero_le _, rfl, OwnN.nil _ _, q1, b1, by omega⟩
  case round =>
    obtain ⟨i, hi, rfl, hown, hq, hbw, hbs⟩ := hrel
    obtain ⟨wo, rfl⟩ : ∃ wo : World, wo = wr := ⟨_, rfl⟩
    obtain ⟨oa, oc, rfl, _, _⟩ := hown.form
    by_cases hlt : i < n
    · obtain ⟨b, o, cap, he, _, _, hbK, hc⟩ := HROW.out.pos (by omega)
      simp only [Value.slice.injEq, true_and] at he
      obtain ⟨rfl, rfl⟩ := he
      have hli : i < l.length := by rw [HN.out]; exact hlt
      obtain ⟨s, hs⟩ : ∃ s, l[i] = s := ⟨_, rfl⟩
      have hsm : s ∈ l := by rw [← hs]; exact List.getElem_mem hli
      have hgs : l[i]? = some s := by rw [← hs]; exact List.getElem?_eq_getElem hli
      have hx := HSC.out i hlt
      rw [hgs, Option.getD_some] at hx
      have hrg := sv_range (g := gy) (cells_below hbw (Nat.lt_of_lt_of_le hbK hK) hc) hlt
      obtain ⟨y, hy⟩ : ∃ y, gy i = y := ⟨_, rfl⟩
      rw [hy] at hx hrg
      obtain ⟨k, hk, hse, hkind⟩ := HM.out.each s hsm
      have hix : scIx s = k := by unfold scIx; rw [hse, sub_ix, Nat.mod_eq_of_lt hk]
      have hcn := cNs_at (valsM_ok nl) (valsM_truth nl) HM.out HF.out hsm
      rw [hix] at hcn
      have hcv : C[i]? = some (cellS s (valsM nl k)).1.toNat := by rw [← HC.out]; unfold cNs; rw [List.getElem?_map, hgs, ← hix]; rfl
      obtain ⟨c, hcc⟩ : ∃ c, (cellS s (valsM nl k)).1.toNat = c := ⟨_, rfl⟩
      rw [hcc] at hcn hcv
      have hex := hx.e
      rw [hse] at hex
      have hop : y.x.op = 5 := by have := hex; unfold subG at this; rw [ExG] at this; exact this.1
      have hnm : y.x.nm = [115, UInt8.ofNat (48 + k)] := by have := hex; unfold subG at this; rw [ExG, Nat.mod_eq_of_lt hk] at this; exact this.2.1
      obtain ⟨bb, hbb⟩ : ∃ bb, UInt8.ofNat (48 + k) = bb := ⟨_, rfl⟩
      have hbi : (bb.toNat : Int) = 48 + (k : Int) := by rw [← hbb, UInt8.toNat_ofNat']; omega
      rw [hbb] at hnm
      have hgood : ∀ c ∈ s.cuts, c.good = true := fun c hc => (half_M (HM.out.each s hsm) c hc).2
      have hbig : s.cuts.length ≤ 2 ^ 38 := by
        rcases hkind with h | h
        · rw [h.2.2]; simp
        · have := cuts_len h.1 h.2.2.1 h.2.2.2; omega
      have HCELL : Hid (∀ W, Below B w W → Calls Tryz.prog 18 #[y.agg, (g k).agg] W fun e w' => e = .returned (.tuple #[.int .i64 (c : Int), .bool true]) ∧ Below W.heap.size W w') := Lib.hid fun W hW => by
        have := gcell_any K s y (valsM nl k) (g k) W (hx.below hW hK (Nat.le_refl _)) ((HV.out k hk).below hW hK (Nat.le_refl _)) (by have := hW.size; have := HB.out; omega) hgood ((valsM_ok nl).good k hk) hbig
        rwa [hcn] at this
      have HCV := Lib.hid hcv
      obtain ⟨⟨yop, ynm, yk, yb3, ⟨y4, y4n, y4m⟩, yb5, ⟨y6, y6n, y6m⟩, yi7, ⟨y8, y8n, y8m⟩⟩, ykd, ⟨ya, yn, ym⟩⟩ := y
      dsimp only at hop hnm
      subst hop hnm
      obtain ⟨Y, hY⟩ : ∃ Y : Sv, (⟨⟨5, [115, bb], yk, yb3, ⟨y4, y4n, y4m⟩, yb5, ⟨y6, y6n, y6m⟩, yi7, ⟨y8, y8n, y8m⟩⟩, ykd, ⟨ya, yn, ym⟩⟩ : Sv) = Y := ⟨_, rfl⟩
      have h1c : ∀ u ∈ (⟨⟨5, [115, bb], yk, yb3, ⟨y4, y4n, y4m⟩, yb5, ⟨y6, y6n, y6m⟩, yi7, ⟨y8, y8n, y8m⟩⟩, ykd, ⟨ya, yn, ym⟩⟩ : Sv).cells, u.oneCell' = true := by simp [Value.oneCell']
      have HO := Lib.hid hown
      have HQ := Lib.hid hq
      have HBW := Lib.hid hbw
      clear hY hs hgs hsm hx hy hex hse hkind hcn hcv hcc hgood hbig hc hown hq hbw hix hbb
      go_upto_region 5 with (first
        | (refine wpList_load_mid rfl 48 (.tmp 15) rfl b (o + i * 11) rfl (⟨⟨5, [115, bb], yk, yb3, ⟨y4, y4n, y4m⟩, yb5, ⟨y6, y6n, y6m⟩, yi7, ⟨y8, y8n, y8m⟩⟩, ykd, ⟨ya, yn, ym⟩⟩ : Sv).cells.toList _ hrg Tryz.underlying48 rfl infoScaleN ?_)
        | (refine wpList_store_new rfl 48 (.tmp 8) (.tmp 16) rfl (⟨⟨5, [115, bb], yk, yb3, ⟨y4, y4n, y4m⟩, yb5, ⟨y6, y6n, y6m⟩, yi7, ⟨y8, y8n, y8m⟩⟩, ykd, ⟨ya, yn, ym⟩⟩ : Sv).cells _ infoScaleN rfl h1c wo.heap.size rfl rfl rfl ?_))
      clear hrg
      obtain ⟨T, hS⟩ : ∃ T, wo.heap.size = T := ⟨_, rfl⟩
      obtain ⟨W2, hW2⟩ : ∃ W2, wo.alloc (.cells (⟨⟨5, [115, bb], yk, yb3, ⟨y4, y4n, y4m⟩, yb5, ⟨y6, y6n, y6m⟩, yi7, ⟨y8, y8n, y8m⟩⟩, ykd, ⟨ya, yn, ym⟩⟩ : Sv).cells 48) = W2 := ⟨_, rfl⟩
      have b2 : Below wo.heap.size wo W2 := by rw [← hW2]; exact (Below.refl _ _).alloc (Nat.le_refl _) _
      have qs : Blk W2 T (⟨⟨5, [115, bb], yk, yb3, ⟨y4, y4n, y4m⟩, yb5, ⟨y6, y6n, y6m⟩, yi7, ⟨y8, y8n, y8m⟩⟩, ykd, ⟨ya, yn, ym⟩⟩ : Sv).cells 48 := by rw [← hW2, ← hS]; exact Blk.new wo _ _
      have s2 : W2.heap.size = T + 1 := by rw [← hW2, ← hS]; simp
      have c0 : W2.cell? ⟨T, 0, none⟩ = some (.int .u8 5) := qs.at rfl
      have c1 : W2.cell? ⟨T, 1, none⟩ = some (S [115, bb]) := qs.at rfl
      have HQ2 := Lib.hid (HQ.out.below b2 (by omega))
      have HO2 := Lib.hid (HO.out.old b2 (Nat.le_refl _))
      have HBW2 := Lib.hid (HBW.out.trans (b2.mono (by omega)))
      have HQS := Lib.hid qs
      have sS : B + 1 ≤ T := by omega
      have HS := Lib.hid hS
      have HW2 := Lib.hid hW2
      dsimp only [Sv.cells] at HW2
      have hbT : Below B w W2 := HBW2.out
      have hq2 := HQ2.out
      simp only [HS.out]
      rw [HW2.out]
      clear HW2 HS b2 qs hS hW2 HO HQ HBW
      have hb2 : (((⟨#[115, bb]⟩ : ByteArray)[1]'(by show 1 < 2; omega)).toNat : Int) = 48 + (k : Int) := hbi
      have d1 : decide ((48 : Int) + (k : Int) < 48) = false := decide_eq_false (by omega)
      have hwk : IntKind.u8.wrap (48 + (k : Int) - 48) = k := by rw [show 48 + (k : Int) - 48 = k by omega]; exact IntWalk.u8_in _ (by omega)
      have hk12 : (k : Int) < 12 := by omega
      have d2 : decide ((59 : Int) < 48 + (k : Int)) = false := decide_eq_false (by omega)
      go_upto_region 7 with fail
      have HRS : Hid (∀ W', Below W2.heap.size W2 W' → W'.rangeAt T 0 (⟨⟨5, [115, bb], yk, yb3, ⟨y4, y4n, y4m⟩, yb5, ⟨y6, y6n, y6m⟩, yi7, ⟨y8, y8n, y8m⟩⟩, ykd, ⟨ya, yn, ym⟩⟩ : Sv).cells.toList) := Lib.hid fun W' h => (HQS.out.below h HQS.out.lt).range
      have HRV : Hid (∀ W', Below W2.heap.size W2 W' → W'.rangeAt B (k * 6) (g k).cells.toList) := Lib.hid fun W' h => row72 (HA.out ▸ (HQ2.out.below h HQ2.out.lt)) hk
      have HC1 : Hid (∀ W', Below W2.heap.size W2 W' → W'.cell? ⟨T, 1, none⟩ = some (S [115, bb])) := Lib.hid fun W' h => (HQS.out.below h HQS.out.lt).at rfl
      have HCALL : Hid (∀ W', Below W2.heap.size W2 W' → _) := Lib.hid fun W' h => HCELL.out W' (HBW2.out.trans (h.mono (by omega)))
      have SW2 := Lib.hid s2
      clear s2 c0 c1 hbT hq2
      refine region_WQ (fun W' => Below W2.heap.size W2 W') (by kernel_rfl) (by kernel_rfl) ⟨rfl, rfl, rfl, Nat.le_refl _, fun _ _ => rfl⟩ ?_
      refine WQ.take ((⟨⟨5, [115, bb], yk, yb3, ⟨y4, y4n, y4m⟩, yb5, ⟨y6, y6n, y6m⟩, yi7, ⟨y8, y8n, y8m⟩⟩, ykd, ⟨ya, yn, ym⟩⟩ : Sv).agg) (yieldsIn_of_if (yieldsIf_load_mid (by kernel_rfl) 48 (.tmp 8) rfl T 0 (by rfl) (⟨⟨5, [115, bb], yk, yb3, ⟨y4, y4n, y4m⟩, yb5, ⟨y6, y6n, y6m⟩, yi7, ⟨y8, y8n, y8m⟩⟩, ykd, ⟨ya, yn, ym⟩⟩ : Sv).cells.toList _ (fun W' hS => HRS.out W' hS) Tryz.underlying48 rfl infoScaleN)) ?_
      refine WQ.take (.pointer (some ⟨T, 0, none⟩)) (.inl ⟨by kernel_rfl, fun W' hS => by go_simp <;> exact hS⟩) ?_
      refine WQ.take (.pointer (some ⟨T, 1, none⟩)) (.inl ⟨by kernel_rfl, fun W' hS => by go_simp <;> exact hS⟩) ?_
      refine WQ.take (S [115, bb]) (.inl ⟨by kernel_rfl, fun W' hS => by have u := HC1.out W' hS; go_simp <;> exact hS⟩) ?_
      refine WQ.take (.int .u8 (48 + (k : Int))) (.inl ⟨by kernel_rfl, fun W' hS => by go_simp <;> exact hS⟩) ?_
      refine WQ.take (.int .u8 (k : Int)) (.inl ⟨by kernel_rfl, fun W' hS => by go_simp <;> exact hS⟩) ?_
      refine WQ.take (.pointer (some ⟨B, k * 6, none⟩)) (.inl ⟨by kernel_rfl, fun W' hS => by go_simp <;> exact hS⟩) ?_
      refine WQ.take ((g k).agg) (yieldsIn_of_if (yieldsIf_load_mid (by kernel_rfl) 30 (.tmp 49) rfl B (k * 6) (by rfl) (g k).cells.toList _ (fun W' hS => HRV.out W' hS) Tryz.underlying30 rfl infoValN)) ?_
      refine WQ.take (.tuple #[.int .i64 (c : Int), .bool true]) (.inl ⟨by kernel_rfl, fun W' hS => by go_simp <;> exact (HCALL.out W' hS).mono fun e W'' ⟨h1, h2⟩ => ⟨h1, hS.trans (h2.mono hS.size)⟩⟩) ?_
      refine WQ.take (.tuple #[.int .i64 (c : Int), .bool true]) (.inl ⟨by kernel_rfl, fun W' hS => by go_simp <;> exact hS⟩) ?_
      refine WQ.take (.int .i64 (c : Int)) (.inl ⟨by kernel_rfl, fun W' hS => by go_simp <;> exact hS⟩) ?_
      refine WQ.take (.bool true) (.inl ⟨by kernel_rfl, fun W' hS => by go_simp <;> exact hS⟩) ?_
      refine WQ.take (.int .i64 (c : Int)) (.inl ⟨by kernel_rfl, fun W' hS => by go_simp <;> exact hS⟩) ?_
      refine WQ.take (.bool true) (.inl ⟨by kernel_rfl, fun W' hS => by go_simp <;> exact hS⟩) ?_
      refine WQ.nil ?_
      intro W9 hS9
      have hs9 := hS9.size
      have HO9 := Lib.hid (HO2.out.old hS9 (Nat.le_refl _))
      have q9 := HQ2.out.below hS9 HQ2.out.lt
      have bw9 := HBW2.out.trans (hS9.mono (by have := SW2.out; omega))
      have hs99 : B + 1 ≤ W9.heap.size := by have := SW2.out; omega
      clear hS9 HRS HRV HC1 HCALL HCELL HQS HQ2 HO2 HBW2
      go_simp
      go_upto_region 8 with fail
      have hlen1 : Hid ((C.take i).length + 1 ≤ 2 ^ 40) := Lib.hid (by rw [List.length_take]; omega)
      have hlt1 : (C.take i).length = i := by rw [List.length_take]; omega
      have HLT1 := Lib.hid hlt1
      have HO9' : Hid (OwnN (B + 1) W9 (.slice oa i oc) (C.take i)) := Lib.hid (by have := HO9.out; rwa [hlt1] at this)
      clear hlt1
      go_wp2_with (at_builtin; refine wpList_append_N rfl (.tmp 56) (.tmp 58) rfl rfl rfl (HO9'.out.old ((Below.refl _ _).alloc (Nat.le_refl _) _) (Nat.le_refl _)) ((Blk.new W9 #[Z c] _).at rfl) hlen1.out (by simp; omega) ?_; intro g1 cap1 w6 hown6 hg6 hat6)
      have hb6 : Below (B + 1) W9 w6 := ((Below.refl _ _).alloc (by omega) _).trans (below_grown hg6 (fun r e => (ownsRow_cells HO9'.out e).1) (by simp; omega))
      have hs6 := hb6.size
      have htk : C.take (i + 1) = C.take i ++ [c] := by rw [List.take_add_one, HCV.out]; rfl
      have HT6 : Hid (OwnN (B + 1) w6 (.slice (some ⟨g1, 0, none⟩) (i + 1) cap1) (C.take (i + 1))) := Lib.hid (by rw [htk]; have := hown6; rwa [HLT1.out] at this)
      have q6 := q9.below hb6 (by omega)
      have bw6 := bw9.trans (hb6.mono (by omega))
      first
        | exact ⟨⟨i + 1, by omega, by go_num, HT6.out, q6, bw6, by omega⟩, by simp [intOf]; omega⟩
        | exact ⟨⟨_, _, .int .i64 ((i + 1 : Nat) : Int), ⟨i + 1, by omega, rfl, HT6.out, q6, bw6, by omega⟩, rfl, rfl, rfl⟩, by simp [intOf]; omega⟩
        | exact ⟨⟨_, .int .i64 ((i + 1 : Nat) : Int), ⟨i + 1, by omega, rfl, HT6.out, q6, bw6, by omega⟩, rfl, rfl⟩, by simp [intOf]; omega⟩
    · obtain rfl : i = n := by omega
      have htk : C.take i = C := List.take_of_length_le (by omega)
      rw [htk] at hown ⊢
      go_wp2_with fail
      go_ret2
      exact ⟨_, rfl, HFIN.out _ _ hown, hbw⟩
end Go.Proofs.YthooiobhlbnaoaaGreat
