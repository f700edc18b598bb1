/- The statements' function awake of layer 15. It needs no argument. No conditions. -/
import Derived.Test.YthbnbjigmgoldaaOlAwS
import Derived.Test.YthbnbjigmgoldaaOlFew
import Derived.Test.YthbnbjigmgoldaaOlRow
import Derived.Test.YthbnbjigmgoldaaOCycle
import Derived.Deep.Cut
namespace Go.Proofs.Ythbnbjigmgoldaa
open Go.RowKit
set_option linter.unusedVariables false

def zeroX : Xv := exA 0 [] ⟨none, 0, 0⟩
theorem zeroX_is (K : Nat) (w : World) : ExX K w zeroE zeroX := by
  rw [zeroE, ExX]
  exact ⟨rfl, rfl, by simp, fun _ => default, RowsV.nil none 0 (Nat.zero_le _) (fun _ => rfl), trivial⟩
theorem p0_size : p0.size ≤ 2 ^ 38 := by decide +kernel
theorem q0_size : q0.size ≤ 2 ^ 38 := by decide +kernel
theorem same_yes (K : Nat) (u v : Value) (l : List Str) (w : World) (hu : Strs K w u l) (hv : Strs K w v l) :
    Calls Try.prog 18 #[u, v] w fun e w' => e = .returned (.bool true) ∧ Below w.heap.size w w' :=
  (lsame_any K u v l l w hu hv).mono fun e w' ⟨he, n, hn⟩ => ⟨by rw [he, BEq.rfl], by rw [hn]; exact below_drewN (Below.refl _ _) n⟩
theorem strs_lit1 {w : World} {b : Nat} {s : Str} (h : Blk w b #[S s] 9) (hs : s.length ≤ maxLen) : Strs w.heap.size w (.slice (some ⟨b, 0, none⟩) 1 1) [s] := by
  refine ⟨RowsV.mk_cells (Nat.le_refl _) (by simp [maxLen]) h.lt fun i hi j hj => ?_, fun x hx => by rw [List.mem_singleton.1 hx]; exact hs⟩
  obtain rfl : i = 0 := by simpa using hi
  obtain rfl : j = 0 := by omega
  exact h.at rfl
theorem strs_lit2 {w : World} {b : Nat} {s t : Str} (h : Blk w b #[S s, S t] 9) (hs : s.length ≤ maxLen) (ht : t.length ≤ maxLen) : Strs w.heap.size w (.slice (some ⟨b, 0, none⟩) 2 2) [s, t] := by
  refine ⟨RowsV.mk_cells (Nat.le_refl _) (by simp [maxLen]) h.lt fun i hi j hj => ?_, fun x hx => by simp at hx; rcases hx with rfl | rfl <;> assumption⟩
  obtain rfl : j = 0 := by omega
  have hi2 : i < 2 := hi
  match i, hi2 with
  | 0, _ => exact h.at rfl
  | 1, _ => exact h.at rfl
theorem strs_lit3 {w : World} {b : Nat} {s t u : Str} (h : Blk w b #[S s, S t, S u] 9) (hs : s.length ≤ maxLen) (ht : t.length ≤ maxLen) (hu : u.length ≤ maxLen) : Strs w.heap.size w (.slice (some ⟨b, 0, none⟩) 3 3) [s, t, u] := by
  refine ⟨RowsV.mk_cells (Nat.le_refl _) (by simp [maxLen]) h.lt fun i hi j hj => ?_, fun x hx => by simp at hx; rcases hx with rfl | rfl | rfl <;> assumption⟩
  obtain rfl : j = 0 := by omega
  have hi2 : i < 3 := hi
  match i, hi2 with
  | 0, _ => exact h.at rfl
  | 1, _ => exact h.at rfl
  | 2, _ => exact h.at rfl

set_option maxRecDepth 100000 in
set_option maxHeartbeats 4000000 in
theorem awake_any (w : World) : Calls Try.prog 11 #[] w fun e w' => e = .returned (.bool true) ∧ Below w.heap.size w w' := by
  go_enter Try.func11, Try.ntmps11
  go_wp2_with fail
  obtain ⟨V1, hV1⟩ : ∃ V, (w.alloc (.cells #[.string ⟨#[97]⟩, .int .u8 0, .bool false, .string ⟨#[98]⟩, .int .u8 0, .bool false, .string ⟨#[99]⟩, .int .u8 0, .bool false, .string ⟨#[102]⟩, .int .u8 0, .bool true] 59)).alloc (.cells #[.string ⟨#[99]⟩] 9) = V := ⟨_, rfl⟩
  have bV1 : Below w.heap.size w V1 := by rw [← hV1]; exact (((Below.refl _ _).alloc (Nat.le_refl _) _).alloc (by simp) _)
  have sV1 : V1.heap.size = w.heap.size + 2 := by rw [← hV1]; simp
  have qn1 : Blk V1 (w.heap.size + 1) #[S sC] 9 := by
    rw [← hV1]
    have := Blk.new (w.alloc (.cells #[.string ⟨#[97]⟩, .int .u8 0, .bool false, .string ⟨#[98]⟩, .int .u8 0, .bool false, .string ⟨#[99]⟩, .int .u8 0, .bool false, .string ⟨#[102]⟩, .int .u8 0, .bool true] 59)) #[S sC] 9
    rw [World.size_alloc] at this
    exact this
  have qd : Blk V1 w.heap.size #[.string ⟨#[97]⟩, .int .u8 0, .bool false, .string ⟨#[98]⟩, .int .u8 0, .bool false, .string ⟨#[99]⟩, .int .u8 0, .bool false, .string ⟨#[102]⟩, .int .u8 0, .bool true] 59 := by rw [← hV1]; exact (Blk.new w _ _).alloc _
  try rw [hV1]
  have hc1 := refer_any V1.heap.size _ [sC] V1 (strs_lit1 qn1 (by decide)) (Nat.le_refl _) (by decide)
  clear hV1
  refine hc1.mono ?_
  rintro e w1 ⟨x1, rfl, hx1, hb1, _⟩
  have sz1 : V1.heap.size ≤ w1.heap.size := hb1.size
  have qd := qd.below hb1 qd.lt
  have B1 : Below w.heap.size w w1 := bV1.trans (hb1.mono bV1.size)
  clear hc1 hb1 bV1 qn1
  go_wp2_with fail
  obtain ⟨V2, hV2⟩ : ∃ V, w1.alloc (.cells #[.string ⟨#[102]⟩, .string ⟨#[99]⟩] 9) = V := ⟨_, rfl⟩
  have bV2 : Below w1.heap.size w1 V2 := by rw [← hV2]; exact ((Below.refl _ _).alloc (Nat.le_refl _) _)
  have sV2 : V2.heap.size = w1.heap.size + 1 := by rw [← hV2]; simp
  have qn2 : Blk V2 (w1.heap.size + 0) #[S sF, S sC] 9 := by
    rw [← hV2]
    have := Blk.new w1 #[S sF, S sC] 9
    exact this
  try rw [hV2]
  have hc2 := refer_any V2.heap.size _ [sF, sC] V2 (strs_lit2 qn2 (by decide) (by decide)) (Nat.le_refl _) (by decide)
  clear hV2
  refine hc2.mono ?_
  rintro e w2 ⟨x2, rfl, hx2, hb2, _⟩
  have sz2 : V2.heap.size ≤ w2.heap.size := hb2.size
  have qd := qd.below bV2 qd.lt
  have qd := qd.below hb2 qd.lt
  have hx1 := (hx1.below bV2 (Nat.le_refl _) bV2.size).below hb2 (Nat.le_refl _) hb2.size
  have B2 : Below w.heap.size w w2 := (B1.trans (bV2.mono B1.size)).trans (hb2.mono (by have := B1.size; omega))
  clear hc2 hb2 bV2 qn2
  go_wp2_with fail
  obtain ⟨V3, hV3⟩ : ∃ V, w2.alloc (.cells #[.string ⟨#[97]⟩, .string ⟨#[99]⟩] 9) = V := ⟨_, rfl⟩
  have bV3 : Below w2.heap.size w2 V3 := by rw [← hV3]; exact ((Below.refl _ _).alloc (Nat.le_refl _) _)
  have sV3 : V3.heap.size = w2.heap.size + 1 := by rw [← hV3]; simp
  have qn3 : Blk V3 (w2.heap.size + 0) #[S sA, S sC] 9 := by
    rw [← hV3]
    have := Blk.new w2 #[S sA, S sC] 9
    exact this
  try rw [hV3]
  have hc3 := refer_any V3.heap.size _ [sA, sC] V3 (strs_lit2 qn3 (by decide) (by decide)) (Nat.le_refl _) (by decide)
  clear hV3
  refine hc3.mono ?_
  rintro e w3 ⟨x3, rfl, hx3, hb3, _⟩
  have sz3 : V3.heap.size ≤ w3.heap.size := hb3.size
  have qd := qd.below bV3 qd.lt
  have qd := qd.below hb3 qd.lt
  have hx1 := (hx1.below bV3 (Nat.le_refl _) bV3.size).below hb3 (Nat.le_refl _) hb3.size
  have hx2 := (hx2.below bV3 (Nat.le_refl _) bV3.size).below hb3 (Nat.le_refl _) hb3.size
  have B3 : Below w.heap.size w w3 := (B2.trans (bV3.mono B2.size)).trans (hb3.mono (by have := B2.size; omega))
  clear hc3 hb3 bV3 qn3
  go_wp2_with fail
  obtain ⟨V4, hV4⟩ : ∃ V, (w3.alloc (.cells #[.string ⟨#[97]⟩, .string ⟨#[]⟩, .int .i64 0, .int .i64 0, .int .i64 0, .bool false, .int .u8 0, .string ⟨#[]⟩, .int .u8 0, .bool false, .slice none 0 0, .bool false, .slice none 0 0, .int .i64 0, .slice none 0 0, .int .u8 x1.op, S x1.nm, .int .u8 x1.kd, .bool x1.b3, .slice x1.s4.a x1.s4.n x1.s4.m, .bool x1.b5, .slice x1.s6.a x1.s6.n x1.s6.m, .int .i64 x1.i7, .slice x1.s8.a x1.s8.n x1.s8.m, .string ⟨#[98]⟩, .string ⟨#[]⟩, .int .i64 0, .int .i64 0, .int .i64 0, .bool false, .int .u8 x2.op, S x2.nm, .int .u8 x2.kd, .bool x2.b3, .slice x2.s4.a x2.s4.n x2.s4.m, .bool x2.b5, .slice x2.s6.a x2.s6.n x2.s6.m, .int .i64 x2.i7, .slice x2.s8.a x2.s8.n x2.s8.m, .int .u8 x3.op, S x3.nm, .int .u8 x3.kd, .bool x3.b3, .slice x3.s4.a x3.s4.n x3.s4.m, .bool x3.b5, .slice x3.s6.a x3.s6.n x3.s6.m, .int .i64 x3.i7, .slice x3.s8.a x3.s8.n x3.s8.m, .string ⟨#[99]⟩, .string ⟨#[]⟩, .int .i64 0, .int .i64 0, .int .i64 0, .bool false, .int .u8 0, .string ⟨#[]⟩, .int .u8 0, .bool false, .slice none 0 0, .bool false, .slice none 0 0, .int .i64 0, .slice none 0 0, .int .u8 0, .string ⟨#[]⟩, .int .u8 0, .bool false, .slice none 0 0, .bool false, .slice none 0 0, .int .i64 0, .slice none 0 0] 56)).alloc (.cells #[.string ⟨#[]⟩, .slice (some ⟨w.heap.size, 0, none⟩) 4 4, .slice none 0 0, .slice (some ⟨w3.heap.size, 0, none⟩) 3 3] 26) = V := ⟨_, rfl⟩
  have bV4 : Below w3.heap.size w3 V4 := by rw [← hV4]; exact ((Below.refl _ _).alloc (Nat.le_refl _) _).alloc (by simp) _
  have sV4 : V4.heap.size = w3.heap.size + 2 := by rw [← hV4]; simp
  have qc : Blk V4 w3.heap.size #[.string ⟨#[97]⟩, .string ⟨#[]⟩, .int .i64 0, .int .i64 0, .int .i64 0, .bool false, .int .u8 0, .string ⟨#[]⟩, .int .u8 0, .bool false, .slice none 0 0, .bool false, .slice none 0 0, .int .i64 0, .slice none 0 0, .int .u8 x1.op, S x1.nm, .int .u8 x1.kd, .bool x1.b3, .slice x1.s4.a x1.s4.n x1.s4.m, .bool x1.b5, .slice x1.s6.a x1.s6.n x1.s6.m, .int .i64 x1.i7, .slice x1.s8.a x1.s8.n x1.s8.m, .string ⟨#[98]⟩, .string ⟨#[]⟩, .int .i64 0, .int .i64 0, .int .i64 0, .bool false, .int .u8 x2.op, S x2.nm, .int .u8 x2.kd, .bool x2.b3, .slice x2.s4.a x2.s4.n x2.s4.m, .bool x2.b5, .slice x2.s6.a x2.s6.n x2.s6.m, .int .i64 x2.i7, .slice x2.s8.a x2.s8.n x2.s8.m, .int .u8 x3.op, S x3.nm, .int .u8 x3.kd, .bool x3.b3, .slice x3.s4.a x3.s4.n x3.s4.m, .bool x3.b5, .slice x3.s6.a x3.s6.n x3.s6.m, .int .i64 x3.i7, .slice x3.s8.a x3.s8.n x3.s8.m, .string ⟨#[99]⟩, .string ⟨#[]⟩, .int .i64 0, .int .i64 0, .int .i64 0, .bool false, .int .u8 0, .string ⟨#[]⟩, .int .u8 0, .bool false, .slice none 0 0, .bool false, .slice none 0 0, .int .i64 0, .slice none 0 0, .int .u8 0, .string ⟨#[]⟩, .int .u8 0, .bool false, .slice none 0 0, .bool false, .slice none 0 0, .int .i64 0, .slice none 0 0] 56 := by rw [← hV4]; exact (Blk.new w3 _ _).alloc _
  have qp : Blk V4 (w3.heap.size + 1) #[.string ⟨#[]⟩, .slice (some ⟨w.heap.size, 0, none⟩) 4 4, .slice none 0 0, .slice (some ⟨w3.heap.size, 0, none⟩) 3 3] 26 := by
    rw [← hV4]
    have := Blk.new (w3.alloc (.cells #[.string ⟨#[97]⟩, .string ⟨#[]⟩, .int .i64 0, .int .i64 0, .int .i64 0, .bool false, .int .u8 0, .string ⟨#[]⟩, .int .u8 0, .bool false, .slice none 0 0, .bool false, .slice none 0 0, .int .i64 0, .slice none 0 0, .int .u8 x1.op, S x1.nm, .int .u8 x1.kd, .bool x1.b3, .slice x1.s4.a x1.s4.n x1.s4.m, .bool x1.b5, .slice x1.s6.a x1.s6.n x1.s6.m, .int .i64 x1.i7, .slice x1.s8.a x1.s8.n x1.s8.m, .string ⟨#[98]⟩, .string ⟨#[]⟩, .int .i64 0, .int .i64 0, .int .i64 0, .bool false, .int .u8 x2.op, S x2.nm, .int .u8 x2.kd, .bool x2.b3, .slice x2.s4.a x2.s4.n x2.s4.m, .bool x2.b5, .slice x2.s6.a x2.s6.n x2.s6.m, .int .i64 x2.i7, .slice x2.s8.a x2.s8.n x2.s8.m, .int .u8 x3.op, S x3.nm, .int .u8 x3.kd, .bool x3.b3, .slice x3.s4.a x3.s4.n x3.s4.m, .bool x3.b5, .slice x3.s6.a x3.s6.n x3.s6.m, .int .i64 x3.i7, .slice x3.s8.a x3.s8.n x3.s8.m, .string ⟨#[99]⟩, .string ⟨#[]⟩, .int .i64 0, .int .i64 0, .int .i64 0, .bool false, .int .u8 0, .string ⟨#[]⟩, .int .u8 0, .bool false, .slice none 0 0, .bool false, .slice none 0 0, .int .i64 0, .slice none 0 0, .int .u8 0, .string ⟨#[]⟩, .int .u8 0, .bool false, .slice none 0 0, .bool false, .slice none 0 0, .int .i64 0, .slice none 0 0] 56)) #[.string ⟨#[]⟩, .slice (some ⟨w.heap.size, 0, none⟩) 4 4, .slice none 0 0, .slice (some ⟨w3.heap.size, 0, none⟩) 3 3] 26
    rw [World.size_alloc] at this
    exact this
  rw [hV4]
  clear hV4
  have qd := qd.below bV4 qd.lt
  have hx1 := hx1.below bV4 (Nat.le_refl _) bV4.size
  have hx2 := hx2.below bV4 (Nat.le_refl _) bV4.size
  have hx3 := hx3.below bV4 (Nat.le_refl _) bV4.size
  have hD : Defs V4.heap.size V4 (.slice (some ⟨w.heap.size, 0, none⟩) 4 4) p0.defs := (OwnR.lit (base := 0) (rs := [((sA, false), 0), ((sB, false), 0), ((sC, false), 0), ((sF, true), 0)].map dfC) qd (Nat.zero_le _) (df_rows _) rfl (by decide)).defs (by decide)
  have hC : Cls V4.heap.size V4 (.slice (some ⟨w3.heap.size, 0, none⟩) 3 3) p0.cls := (OwnR.lit (base := 0) (rs := ([⟨sA, [], 0, 0, 0, false, zeroX, x1⟩, ⟨sB, [], 0, 0, 0, false, x2, x3⟩, ⟨sC, [], 0, 0, 0, false, zeroX, zeroX⟩] : List Cv).map Cv.cl) qc (Nat.zero_le _) (cl_rows _) rfl (by simp [maxLen])).cls (d := default) rfl (fun i x hx => by
    have hz : ExX V4.heap.size V4 zeroE zeroX := zeroX_is _ _
    have hi : i < 3 := (List.getElem?_eq_some_iff.1 hx).1
    match i, hi with
    | 0, _ => cases hx; exact ⟨rfl, by decide, hz, hx1⟩
    | 1, _ => cases hx; exact ⟨rfl, by decide, hx2, hx3⟩
    | 2, _ => cases hx; exact ⟨rfl, by decide, hz, hz⟩)
  have hc4 := order_any V4.heap.size p0 ⟨#[]⟩ _ (.slice none 0 0) _ V4 ⟨hD, hC⟩ (Nat.le_refl _) p0_size
  rw [p0_err, p0_order] at hc4
  refine hc4.mono ?_
  clear hc4
  rintro e w4 ⟨l4, rfl, hl4, hb4⟩
  obtain ⟨a4, c4, rfl, _, _⟩ := hl4.form
  have qp := qp.below hb4 qp.lt
  have B4 : Below w.heap.size w w4 := (B3.trans (bV4.mono B3.size)).trans (hb4.mono (by have := B3.size; omega))
  have hD := hD.below hb4 (Nat.le_refl _) hb4.size
  have hC := hC.below hb4 (Nat.le_refl _) hb4.size
  have sz4 : V4.heap.size ≤ w4.heap.size := hb4.size
  have hD4 := hD
  have hC4 := hC
  have hx1 := hx1.below hb4 (Nat.le_refl _) hb4.size
  have hx2 := hx2.below hb4 (Nat.le_refl _) hb4.size
  have hx3 := hx3.below hb4 (Nat.le_refl _) hb4.size
  obtain ⟨d0, d1, d2, d3⟩ := qp.four
  clear bV4 hb4 qc qd
  go_wp2_with fail
  obtain ⟨W5, hW5⟩ : ∃ W5, w4.alloc (.cells #[.string ⟨#[]⟩, .slice (some ⟨w.heap.size, 0, none⟩) 4 4, .slice none 0 0, .slice (some ⟨w3.heap.size, 0, none⟩) 3 3] 26) = W5 := ⟨_, rfl⟩
  have bW5 : Below w4.heap.size w4 W5 := by rw [← hW5]; exact (Below.refl _ _).alloc (Nat.le_refl _) _
  have sW5 : W5.heap.size = w4.heap.size + 1 := by rw [← hW5]; simp
  have qt : Blk W5 w4.heap.size #[.string ⟨#[]⟩, .slice (some ⟨w.heap.size, 0, none⟩) 4 4, .slice none 0 0, .slice (some ⟨w3.heap.size, 0, none⟩) 3 3] 26 := by rw [← hW5]; exact Blk.new w4 _ _
  rw [hW5]
  clear hW5 d0 d1 d2 d3
  have qp := qp.below bW5 qp.lt
  have B5 := B4.trans (bW5.mono B4.size)
  have hD := hD.below bW5 (Nat.le_refl _) bW5.size
  have hC := hC.below bW5 (Nat.le_refl _) bW5.size
  refine wp_onlyN ?_
  refine region_plain (fun W => Blk W (w3.heap.size + 1) #[.string ⟨#[]⟩, .slice (some ⟨w.heap.size, 0, none⟩) 4 4, .slice none 0 0, .slice (some ⟨w3.heap.size, 0, none⟩) 3 3] 26) [] (by kernel_rfl) ?_
  have qS : (fun W => Blk W (w3.heap.size + 1) #[.string ⟨#[]⟩, .slice (some ⟨w.heap.size, 0, none⟩) 4 4, .slice none 0 0, .slice (some ⟨w3.heap.size, 0, none⟩) 3 3] 26) W5.drew := qp
  refine wpAnyD_take (i := 4) (v := .pointer (some ⟨w3.heap.size + 1, 3, none⟩)) rfl (by kernel_rfl) (by kernel_rfl) (by kernel_rfl) (by kernel_rfl) (by kernel_rfl) (fun _ _ _ h => h) (.inl ⟨by kernel_rfl, fun W' hS => by go_simp⟩) qS ?_
  refine wpAnyD_take (i := 5) (v := .slice (some ⟨w3.heap.size, 0, none⟩) 3 3) rfl (by kernel_rfl) (by kernel_rfl) (by kernel_rfl) (by kernel_rfl) (by kernel_rfl) (fun _ _ _ h => h) (.inl ⟨by kernel_rfl, fun W' hS => by obtain ⟨c0, c1, c2, c3⟩ := hS.four; go_simp⟩) qS ?_
  obtain ⟨W6, hW6⟩ : ∃ W6, W5.drew = W6 := ⟨_, rfl⟩
  have bW6 : Below W5.heap.size W5 W6 := hW6 ▸ (Below.refl _ W5).drew
  rw [hW6] at qS ⊢
  clear hW6
  have sz6 := bW6.size
  refine wpAnyD_one (i := 0) (by kernel_rfl) rfl (by kernel_rfl) ?_
  go_simp
  obtain ⟨W7, hW7⟩ : ∃ W7, W6.alloc (.cells #[.string ⟨#[98]⟩] 9) = W7 := ⟨_, rfl⟩
  have bW7 : Below W6.heap.size W6 W7 := by rw [← hW7]; exact (Below.refl _ _).alloc (Nat.le_refl _) _
  have sW7 : W7.heap.size = W6.heap.size + 1 := by rw [← hW7]; simp
  have qn : Blk W7 W6.heap.size #[S sB] 9 := by rw [← hW7]; exact Blk.new W6 _ _
  rw [hW7]
  clear hW7
  refine ⟨qS.below bW7 qS.lt, ?_⟩
  have hc := refer_any W7.heap.size _ [sB] W7 (strs_lit1 qn (by decide)) (Nat.le_refl _) (by decide)
  refine wpAnyD_one (i := 1) (by kernel_rfl) rfl (by kernel_rfl) ?_
  go_simp
  refine hc.mono ?_
  clear hc
  rintro e w8 ⟨y, rfl, _, hb8, hy⟩
  have sz7 : W6.heap.size + 1 = W7.heap.size := sW7.symm
  have b8 : Below W5.heap.size W5 w8 := (bW6.trans (bW7.mono sz6)).trans (hb8.mono (by have := bW7.size; omega))
  have sz8 := b8.size
  have sz78 := hb8.size
  clear hb8 qn bW7 bW6
  go_simp
  refine ⟨qp.below b8 qp.lt, ?_⟩
  refine wpAnyD_one (i := 2) (by kernel_rfl) rfl (by kernel_rfl) ?_
  go_simp
  refine ⟨qp.below b8 qp.lt, ?_⟩
  refine wpAnyD_one (i := 3) (by kernel_rfl) rfl (by kernel_rfl) ?_
  go_simp
  obtain ⟨W9, hW9⟩ : ∃ W9, w8.alloc (.cells #[.string ⟨#[99]⟩, .string ⟨#[]⟩, .int .i64 0, .int .i64 0, .int .i64 0, .bool false, .int .u8 0, .string ⟨#[]⟩, .int .u8 0, .bool false, .slice none 0 0, .bool false, .slice none 0 0, .int .i64 0, .slice none 0 0, .int .u8 y.op, S y.nm, .int .u8 y.kd, .bool y.b3, .slice y.s4.a y.s4.n y.s4.m, .bool y.b5, .slice y.s6.a y.s6.n y.s6.m, .int .i64 y.i7, .slice y.s8.a y.s8.n y.s8.m] 56) = W9 := ⟨_, rfl⟩
  have bW9 : Below w8.heap.size w8 W9 := by rw [← hW9]; exact (Below.refl _ _).alloc (Nat.le_refl _) _
  have sW9 : W9.heap.size = w8.heap.size + 1 := by rw [← hW9]; simp
  have ql : Blk W9 w8.heap.size #[.string ⟨#[99]⟩, .string ⟨#[]⟩, .int .i64 0, .int .i64 0, .int .i64 0, .bool false, .int .u8 0, .string ⟨#[]⟩, .int .u8 0, .bool false, .slice none 0 0, .bool false, .slice none 0 0, .int .i64 0, .slice none 0 0, .int .u8 y.op, S y.nm, .int .u8 y.kd, .bool y.b3, .slice y.s4.a y.s4.n y.s4.m, .bool y.b5, .slice y.s6.a y.s6.n y.s6.m, .int .i64 y.i7, .slice y.s8.a y.s8.n y.s8.m] 56 := by rw [← hW9]; exact Blk.new w8 _ _
  rw [hW9]
  clear hW9
  have b9 : Below W5.heap.size W5 W9 := b8.trans (bW9.mono sz8)
  have qp9 := qp.below b9 qp.lt
  have qt9 := qt.below b9 qt.lt
  refine ⟨qp9, ?_⟩
  have hown : OwnR 24 56 W5.heap.size W9 (.slice (some ⟨w8.heap.size, 0, none⟩) 1 1) (([⟨sC, [], 0, 0, 0, false, zeroX, y⟩] : List Cv).map Cv.cl) := OwnR.lit (rs := ([⟨sC, [], 0, 0, 0, false, zeroX, y⟩] : List Cv).map Cv.cl) ql (by omega) (cl_rows _) rfl (by simp [maxLen])
  have hC9 := hC4.below (bW5.trans (b9.mono bW5.size)) (Nat.le_refl _) (Nat.le_refl _)
  have hD9 := hD.below b9 (Nat.le_refl _) b9.size
  have sz9 := b9.size
  obtain ⟨sb, so, sc, svs, hse, _, _, hsb, hsl, hsrc, hsx⟩ := hC9.src (by decide)
  simp only [Value.slice.injEq, Option.some.injEq, Addr.mk.injEq, and_true] at hse
  obtain ⟨⟨rfl, rfl⟩, h33, rfl⟩ := hse
  clear h33
  refine wpAnyD_one (i := 6) (by kernel_rfl) rfl (by kernel_rfl) ?_
  refine wp_append_rows (.tmp 32) (.tmp 34) 24 rfl Try.underlying24 Try.infoClause (by kernel_rfl) (by decide) rfl hown (b := w3.heap.size) (off := 0) (m := 3) (cap := 3) rfl (by rw [List.length_map, hsl]; rfl) (cl_rows _) hsrc (by decide) (by simp [maxLen]) (by simp) (by omega) ?_
  intro g cap w10 hown10 hg10 hat10
  have hg10 : W9.grownBy w10 (some w8.heap.size) := hg10
  have hat10 : some w8.heap.size = some g ∨ g = W9.heap.size := hat10
  have hgw : w8.heap.size ≤ g := by rcases hat10 with h | h
                                    · cases h; exact Nat.le_refl _
                                    · omega
  have b10 : Below W5.heap.size W5 w10 := b9.trans (below_grown hg10 (fun r hr => by cases hr; exact sz8) sz9)
  have b10y : Below w8.heap.size w8 w10 := bW9.trans (below_grown hg10 (fun r hr => by cases hr; exact Nat.le_refl _) bW9.size)
  have qp10 := qp.below b10 qp.lt
  have qt10 := qt.below b10 qt.lt
  refine ⟨fun _ => qp10, ?_⟩
  go_simp
  refine wpAnyD_one (i := 7) (by kernel_rfl) rfl (by kernel_rfl) ?_
  go_simp
  have f3 : w10.cell? ⟨w4.heap.size, 3, none⟩ = some (.slice (some ⟨w3.heap.size, 0, none⟩) 3 3) := qt10.at rfl
  have f4 : w10.frozen? ⟨w4.heap.size, 3, none⟩ = false := qt10.free 3
  refine wpAnyD_one (i := 8) (by kernel_rfl) rfl (by kernel_rfl) ?_
  go_simp
  obtain ⟨W11, hW11⟩ : ∃ W11, w10.setCell ⟨w4.heap.size, 3, none⟩ (.slice (some ⟨g, 0, none⟩) 4 cap) = W11 := ⟨_, rfl⟩
  have qt11 : Blk W11 w4.heap.size #[.string ⟨#[]⟩, .slice (some ⟨w.heap.size, 0, none⟩) 4 4, .slice none 0 0, .slice (some ⟨g, 0, none⟩) 4 cap] 26 := by rw [← hW11]; exact qt10.set _
  have qp11 := qp10.other (i := 3) (show w3.heap.size + 1 ≠ w4.heap.size by omega) (.slice (some ⟨g, 0, none⟩) 4 cap)
  have gs11 : w10.grownBy W11 (some w4.heap.size) := by rw [← hW11]; exact grownBy_setCell _ _ _ _
  rw [hW11] at qp11 ⊢
  clear hW11 f3 f4
  have b11 : Below w4.heap.size w4 W11 := (bW5.trans (b10.mono bW5.size)).trans (below_grown gs11 (fun r hr => by cases hr; exact Nat.le_refl _) (by have := b10.size; omega))
  have B11 : Below w.heap.size w W11 := B4.trans (b11.mono B4.size)
  have hy11 := hy W11 (fun r h1 h2 => by
    rw [← b10y.block r h2]
    exact gs11.block r (by have := b10y.size; omega) (fun e => by cases e; omega))
  have hown11 := hown10.kept gs11 (.inr (fun e => by simp [Value.ownBlock] at e; omega))
  have hown11 : OwnR 24 56 W5.heap.size W11 (.slice (some ⟨g, 0, none⟩) 4 cap) (([⟨sC, [], 0, 0, 0, false, zeroX, y⟩] ++ svs : List Cv).map Cv.cl) := by rw [List.map_append]; exact hown11
  have sz11 := b11.size
  refine ⟨qp11, ?_⟩
  have b911 : Below w4.heap.size W9 W11 := (below_grown hg10 (fun r hr => by cases hr; omega) (by omega)).trans (below_grown gs11 (fun r hr => by cases hr; exact Nat.le_refl _) (by have := b10.size; omega))
  have hCq : Cls W11.heap.size W11 (.slice (some ⟨g, 0, none⟩) 4 cap) q0.cls := hown11.cls (d := default) (by rw [List.length_append, hsl]; rfl) (fun i x hx => by
    cases i with
    | zero => cases hx; exact ⟨rfl, by decide, zeroX_is _ _, hy11⟩
    | succ i =>
      have hx2 : cls0[i]? = some x := hx
      rw [List.getElem?_append_right (by simp)]
      exact (hsx i x default hx2).below b911 (Nat.le_refl _) (by omega))
  have hDq : Defs W11.heap.size W11 (.slice (some ⟨w.heap.size, 0, none⟩) 4 4) q0.defs := hD4.below b11 (Nat.le_refl _) sz11
  have hP11 : PlanIs W11.heap.size W11 (.slice (some ⟨w.heap.size, 0, none⟩) 4 4) (.slice (some ⟨w3.heap.size, 0, none⟩) 3 3) p0 := ⟨hDq, hC4.below b11 (Nat.le_refl _) sz11⟩
  have hQ11 : PlanIs W11.heap.size W11 (.slice (some ⟨w.heap.size, 0, none⟩) 4 4) (.slice (some ⟨g, 0, none⟩) 4 cap) q0 := ⟨hDq, hCq⟩
  have hl11 : Strs W11.heap.size W11 (.slice a4 3 c4) [sC, sA, sB] := hl4.strs.below b11 (Nat.le_refl _) sz11
  clear hsx hsrc hown11 hown10 hown hD hC hD4 hC4 hC9 hD9 hx1 hx2 hx3 hy hy11 hl4 qp qp9 qp10 qt qt9 qt10 ql qS hDq hCq hg10 gs11 hat10 b10 b10y b9 b911 bW9 bW5 b8 B1 B2 B3 B4 B5
  refine wpAnyD_done (by kernel_rfl) ?_ _
  refine onlyN_mk ?_
  go_simp
  obtain ⟨e0, e1, e2, e3⟩ := qt11.four
  go_wp2_with fail
  have hc := order_any W11.heap.size q0 ⟨#[]⟩ _ (.slice none 0 0) _ W11 hQ11 (Nat.le_refl _) q0_size
  rw [q0_err, q0_order] at hc
  refine hc.mono ?_
  clear hc e0 e1 e2 e3
  rintro e w12 ⟨m12, rfl, hm12, b12⟩
  obtain ⟨a12, c12, rfl, _, _⟩ := hm12.form
  have s12 := b12.size
  have qp12 := qp11.below b12 qp11.lt
  have qt12 := qt11.below b12 qt11.lt
  have hP12 := hP11.below b12 (Nat.le_refl _) b12.size
  have hQ12 := hQ11.below b12 (Nat.le_refl _) b12.size
  have B12 := B11.trans (b12.mono B11.size)
  have hl11 := hl11.below b12 (Nat.le_refl _) b12.size
  clear qp11 qt11 hP11 hQ11 B11
  obtain ⟨d0, d1, d2, d3⟩ := qp12.four
  obtain ⟨e0, e1, e2, e3⟩ := qt12.four
  go_wp2_with fail
  clear d0 d1 d2 d3 e0 e1 e2 e3
  obtain ⟨w13, hw13⟩ : ∃ V, w12.alloc (.cells #[.string ⟨#[99]⟩, .string ⟨#[97]⟩, .string ⟨#[98]⟩] 9) = V := ⟨_, rfl⟩
  have b13 : Below w12.heap.size w12 w13 := by rw [← hw13]; exact (Below.refl _ _).alloc (Nat.le_refl _) _
  have qn13 : Blk w13 w12.heap.size #[S sC, S sA, S sB] 9 := by rw [← hw13]; exact Blk.new w12 _ _
  rw [hw13]
  clear hw13
  have s13 := b13.size
  have qp13 := qp12.below b13 qp12.lt
  have qt13 := qt12.below b13 qt12.lt
  have hP13 := hP12.below b13 (Nat.le_refl _) b13.size
  have hQ13 := hQ12.below b13 (Nat.le_refl _) b13.size
  have B13 := B12.trans (b13.mono B12.size)
  have hl11 := hl11.below b13 (Nat.le_refl _) b13.size
  clear qp12 qt12 hP12 hQ12 B12
  obtain ⟨d0, d1, d2, d3⟩ := qp13.four
  obtain ⟨e0, e1, e2, e3⟩ := qt13.four
  have hc := same_yes w13.heap.size _ _ [sC, sA, sB] w13 hl11 (strs_lit3 qn13 (by decide) (by decide) (by decide))
  refine hc.mono ?_
  rintro e w14 ⟨rfl, b14⟩
  clear hc qn13
  have s14 := b14.size
  have qp14 := qp13.below b14 qp13.lt
  have qt14 := qt13.below b14 qt13.lt
  have hP14 := hP13.below b14 (Nat.le_refl _) b14.size
  have hQ14 := hQ13.below b14 (Nat.le_refl _) b14.size
  have B14 := B13.trans (b14.mono B13.size)
  clear qp13 qt13 hP13 hQ13 B13
  obtain ⟨d0, d1, d2, d3⟩ := qp14.four
  obtain ⟨e0, e1, e2, e3⟩ := qt14.four
  go_wp2_with fail
  clear d0 d1 d2 d3 e0 e1 e2 e3
  have hc := depends_any w14.heap.size p0 ⟨#[]⟩ _ (.slice none 0 0) _ sB w14 hP14 (Nat.le_refl _) p0_size (by decide)
  rw [p0_deps] at hc
  refine hc.mono ?_
  rintro e w15 ⟨m15, rfl, hm15, b15⟩
  obtain ⟨a15, c15, rfl, _, _⟩ := hm15.form
  have hl15 : Strs w15.heap.size w15 (.slice a15 2 c15) [sA, sC] := hm15.strs
  clear hc
  have s15 := b15.size
  have qp15 := qp14.below b15 qp14.lt
  have qt15 := qt14.below b15 qt14.lt
  have hP15 := hP14.below b15 (Nat.le_refl _) b15.size
  have hQ15 := hQ14.below b15 (Nat.le_refl _) b15.size
  have B15 := B14.trans (b15.mono B14.size)
  clear qp14 qt14 hP14 hQ14 B14
  obtain ⟨d0, d1, d2, d3⟩ := qp15.four
  obtain ⟨e0, e1, e2, e3⟩ := qt15.four
  go_wp2_with fail
  clear d0 d1 d2 d3 e0 e1 e2 e3
  obtain ⟨w16, hw16⟩ : ∃ V, w15.alloc (.cells #[.string ⟨#[97]⟩, .string ⟨#[99]⟩] 9) = V := ⟨_, rfl⟩
  have b16 : Below w15.heap.size w15 w16 := by rw [← hw16]; exact (Below.refl _ _).alloc (Nat.le_refl _) _
  have qn16 : Blk w16 w15.heap.size #[S sA, S sC] 9 := by rw [← hw16]; exact Blk.new w15 _ _
  rw [hw16]
  clear hw16
  have s16 := b16.size
  have qp16 := qp15.below b16 qp15.lt
  have qt16 := qt15.below b16 qt15.lt
  have hP16 := hP15.below b16 (Nat.le_refl _) b16.size
  have hQ16 := hQ15.below b16 (Nat.le_refl _) b16.size
  have B16 := B15.trans (b16.mono B15.size)
  have hl15 := hl15.below b16 (Nat.le_refl _) b16.size
  clear qp15 qt15 hP15 hQ15 B15
  obtain ⟨d0, d1, d2, d3⟩ := qp16.four
  obtain ⟨e0, e1, e2, e3⟩ := qt16.four
  have hc := same_yes w16.heap.size _ _ [sA, sC] w16 hl15 (strs_lit2 qn16 (by decide) (by decide))
  refine hc.mono ?_
  rintro e w17 ⟨rfl, b17⟩
  clear hc qn16
  have s17 := b17.size
  have qp17 := qp16.below b17 qp16.lt
  have qt17 := qt16.below b17 qt16.lt
  have hP17 := hP16.below b17 (Nat.le_refl _) b17.size
  have hQ17 := hQ16.below b17 (Nat.le_refl _) b17.size
  have B17 := B16.trans (b17.mono B16.size)
  clear qp16 qt16 hP16 hQ16 B16
  obtain ⟨d0, d1, d2, d3⟩ := qp17.four
  obtain ⟨e0, e1, e2, e3⟩ := qt17.four
  go_wp2_with fail
  clear d0 d1 d2 d3 e0 e1 e2 e3
  have hc := cycle_any w17.heap.size q0 ⟨#[]⟩ _ (.slice none 0 0) _ w17 hQ17 (Nat.le_refl _) q0_size
  rw [q0_cycle] at hc
  refine hc.mono ?_
  rintro e w18 ⟨m18, rfl, hm18, b18⟩
  obtain ⟨a18, c18, rfl, _, _⟩ := hm18.form
  have hl18 : Strs w18.heap.size w18 (.slice a18 3 c18) [sA, sC, sB] := hm18.strs
  clear hc
  have s18 := b18.size
  have qp18 := qp17.below b18 qp17.lt
  have qt18 := qt17.below b18 qt17.lt
  have hP18 := hP17.below b18 (Nat.le_refl _) b18.size
  have hQ18 := hQ17.below b18 (Nat.le_refl _) b18.size
  have B18 := B17.trans (b18.mono B17.size)
  clear qp17 qt17 hP17 hQ17 B17
  obtain ⟨d0, d1, d2, d3⟩ := qp18.four
  obtain ⟨e0, e1, e2, e3⟩ := qt18.four
  go_wp2_with fail
  clear d0 d1 d2 d3 e0 e1 e2 e3
  obtain ⟨w19, hw19⟩ : ∃ V, w18.alloc (.cells #[.string ⟨#[97]⟩, .string ⟨#[99]⟩, .string ⟨#[98]⟩] 9) = V := ⟨_, rfl⟩
  have b19 : Below w18.heap.size w18 w19 := by rw [← hw19]; exact (Below.refl _ _).alloc (Nat.le_refl _) _
  have qn19 : Blk w19 w18.heap.size #[S sA, S sC, S sB] 9 := by rw [← hw19]; exact Blk.new w18 _ _
  rw [hw19]
  clear hw19
  have s19 := b19.size
  have qp19 := qp18.below b19 qp18.lt
  have qt19 := qt18.below b19 qt18.lt
  have hP19 := hP18.below b19 (Nat.le_refl _) b19.size
  have hQ19 := hQ18.below b19 (Nat.le_refl _) b19.size
  have B19 := B18.trans (b19.mono B18.size)
  have hl18 := hl18.below b19 (Nat.le_refl _) b19.size
  clear qp18 qt18 hP18 hQ18 B18
  obtain ⟨d0, d1, d2, d3⟩ := qp19.four
  obtain ⟨e0, e1, e2, e3⟩ := qt19.four
  have hc := same_yes w19.heap.size _ _ [sA, sC, sB] w19 hl18 (strs_lit3 qn19 (by decide) (by decide) (by decide))
  refine hc.mono ?_
  rintro e w20 ⟨rfl, b20⟩
  clear hc qn19
  have s20 := b20.size
  have qp20 := qp19.below b20 qp19.lt
  have qt20 := qt19.below b20 qt19.lt
  have hP20 := hP19.below b20 (Nat.le_refl _) b20.size
  have hQ20 := hQ19.below b20 (Nat.le_refl _) b20.size
  have B20 := B19.trans (b20.mono B19.size)
  clear qp19 qt19 hP19 hQ19 B19
  obtain ⟨d0, d1, d2, d3⟩ := qp20.four
  obtain ⟨e0, e1, e2, e3⟩ := qt20.four
  go_wp2_with fail
  clear d0 d1 d2 d3 e0 e1 e2 e3
  have hc := cycle_any w20.heap.size p0 ⟨#[]⟩ _ (.slice none 0 0) _ w20 hP20 (Nat.le_refl _) p0_size
  rw [p0_cycle] at hc
  refine hc.mono ?_
  rintro e w21 ⟨m21, rfl, hm21, b21⟩
  obtain ⟨a21, c21, rfl, _, _⟩ := hm21.form
  clear hc
  have B21 := B20.trans (b21.mono B20.size)
  go_wp2_with fail
  go_ret
  exact ⟨rfl, B21⟩
end Go.Proofs.Ythbnbjigmgoldaa
