/- OrderTells: the walk. No conditions beyond the readings of the arguments. -/
import Derived.Test.YthbnbjigmgoldaaOlCx
import Derived.Test.YthbnbjigmgoldaaOrCycle
import Derived.Test.YthbnbjigmgoldaaOrReach
import Derived.Test.YthbnbjigmgoldaaOrRefs
import Derived.Test.YthbnbjigmgoldaaOrNames
import Derived.Test.YthbnbjigmgoldaaOrDepends
import Derived.Test.YthbnbjigmgoldaaORefs
import Derived.Test.YthbnbjigmgoldaaODepends
import Derived.Test.YthbnbjigmgoldaaOCycle
import Derived.Test.YthbnbjigmgoldaaOlRchS
namespace Go.Proofs.Ythbnbjigmgoldaa
open Go.RowKit
set_option linter.unusedVariables false
theorem lsame_refl (l : List Str) {K : Nat} {u v : Value} {w : World} (hu : Strs K w u l) (hv : Strs K w v l) :
    Calls Try.prog 18 #[u, v] w fun e w' => e = .returned (.bool true) ∧ Below w.heap.size w w' := by
  refine (lsame_any K u v l l w hu hv).mono ?_
  rintro e w' ⟨rfl, n, rfl⟩
  exact ⟨by rw [show (l == l) = true by simp], below_drewN (Below.refl _ _) n⟩
theorem size_parts300 (e : Ex) (h : sizeE 24 300 e ≤ 300) : e.parts ≤ 300 := by have := sizeE_parts 24 300 e h; omega
/-- What the walk keeps. -/
structure Cxe (K : Nat) (nm : ByteArray) (vd vt vc : Value) (p : Pl) (e : Ex) (x : Xv) (w W : World) : Prop where
  cx : Cx K nm vd vt vc p w W
  ebox : Blk W (w.heap.size + 1) x.cells 45
  ex : ExX K W e x
theorem Cxe.below {K : Nat} {nm : ByteArray} {vd vt vc : Value} {p : Pl} {e : Ex} {x : Xv} {w W W' : World} (h : Cxe K nm vd vt vc p e x w W) (hb : Below W.heap.size W W') : Cxe K nm vd vt vc p e x w W' :=
  ⟨h.cx.below hb, h.ebox.below hb h.ebox.lt, h.ex.below hb h.cx.big (Nat.le_refl _)⟩

set_option maxRecDepth 100000 in
set_option maxHeartbeats 8000000 in
theorem tells_walk (K : Nat) (p : Pl) (nm : ByteArray) (vd vt vc : Value) (e : Ex) (x : Xv) (a : Str) (w : World) (h : PlanIs K w vd vc p) (he : ExX K w e x) (ha : a.length ≤ maxLen) (hK : K ≤ w.heap.size) :
    Calls Try.prog 4 #[.agg #[.string nm, vd, vt, vc], x.agg, S a] w fun e w' => e = .returned (.bool true) ∧ Below w.heap.size w w' := by
  obtain ⟨da, dn, dm, rfl⟩ : ∃ a n m, vd = .slice a n m := by obtain ⟨g, hg, _⟩ := h.1; obtain ⟨a, m, hv, _⟩ := hg.form; exact ⟨a, _, m, hv⟩
  obtain ⟨ca, cn, cm, rfl⟩ : ∃ a n m, vc = .slice a n m := by obtain ⟨g, hg, _⟩ := h.2; obtain ⟨a, m, hv, _⟩ := hg.form; exact ⟨a, _, m, hv⟩
  have hx0 := Cx.start (nm := nm) (vt := vt) h hK
  have he1 := he.below (B := w.heap.size) ((Below.refl _ w).alloc (Nat.le_refl _) (.cells #[.string nm, .slice da dn dm, vt, .slice ca cn cm] 26)) hK (Nat.le_refl K)
  obtain ⟨xop, xnm, kd, b3, ⟨a4, n4, m4⟩, b5, ⟨a6, n6, m6⟩, i7, ⟨a8, n8, m8⟩⟩ := x
  obtain ⟨W1, hW1⟩ : ∃ W1, w.alloc (.cells #[.string nm, .slice da dn dm, vt, .slice ca cn cm] 26) = W1 := ⟨_, rfl⟩
  have hs1 : W1.heap.size = w.heap.size + 1 := by rw [← hW1]; simp
  rw [hW1] at hx0 he1
  obtain ⟨W2, hW2⟩ : ∃ W2, W1.alloc (.cells (Xv.cells ⟨xop, xnm, kd, b3, ⟨a4, n4, m4⟩, b5, ⟨a6, n6, m6⟩, i7, ⟨a8, n8, m8⟩⟩) 45) = W2 := ⟨_, rfl⟩
  have hx : Cxe K nm (.slice da dn dm) vt (.slice ca cn cm) p e ⟨xop, xnm, kd, b3, ⟨a4, n4, m4⟩, b5, ⟨a6, n6, m6⟩, i7, ⟨a8, n8, m8⟩⟩ w W2 := by
    have hb : Below W1.heap.size W1 W2 := by rw [← hW2]; exact (Below.refl _ _).alloc (Nat.le_refl _) _
    have hq : Blk W2 W1.heap.size (Xv.cells ⟨xop, xnm, kd, b3, ⟨a4, n4, m4⟩, b5, ⟨a6, n6, m6⟩, i7, ⟨a8, n8, m8⟩⟩) 45 := by rw [← hW2]; exact Blk.new W1 _ _
    rw [hs1] at hq
    exact ⟨hx0.below hb, hq, he1.below hb hx0.big (Nat.le_refl _)⟩
  clear hx0 he1
  have hf := few_any K p nm _ vt _ W2 hx.cx.plan hx.cx.big
  have hHW : Hid ((w.alloc (.cells #[.string nm, .slice da dn dm, vt, .slice ca cn cm] 26)).alloc (.cells (Xv.cells ⟨xop, xnm, kd, b3, ⟨a4, n4, m4⟩, b5, ⟨a6, n6, m6⟩, i7, ⟨a8, n8, m8⟩⟩) 45) = W2) := Lib.hid (by rw [hW1, hW2])
  have HS1 := Lib.hid hs1
  clear hW1 hW2 hs1
  obtain ⟨d0, d1, d2, d3⟩ := hx.cx.box.four
  dsimp only [Xv.cells] at hHW
  unfold Xv.agg
  go_enter Try.func4, Try.ntmps4
  go_wp2_with fail
  rw [hHW.out]
  go_wp2_with fail
  refine hf.mono ?_
  rintro en w3 ⟨rfl, b2⟩
  replace hx := hx.below b2
  obtain ⟨fb, hfb⟩ : ∃ fb, fewB p = fb := ⟨_, rfl⟩
  rw [hfb]
  clear hf b2 d0 d1 d2 d3
  cases fb with
  | false =>
    go_wp2_with fail
    refine (awake_any w3).mono ?_
    rintro en w4 ⟨rfl, b3⟩
    go_wp2_with fail
    go_ret
    exact ⟨rfl, (hx.below b3).cx.bel⟩
  | true =>
    have hsz := few_size hfb
    have hnl := few_names hfb
    have hdl := (few_parts hfb).1
    clear hfb
    have hc := Size_any K 300 e ⟨xop, xnm, kd, b3, ⟨a4, n4, m4⟩, b5, ⟨a6, n6, m6⟩, i7, ⟨a8, n8, m8⟩⟩ w3 hx.ex hx.cx.big (by decide)
    have HPX := Lib.hid (size_parts300 e)
    obtain ⟨sz, hszE⟩ : ∃ sz, sizeE 24 300 e = sz := ⟨_, rfl⟩
    rw [hszE] at hc HPX
    unfold Xv.agg at hc
    obtain ⟨x0, x1, x2, x3, x4, x5, x6, x7, x8⟩ := hx.ebox.nine
    clear hszE
    go_wp2_with fail
    refine hc.mono ?_
    rintro en w4 ⟨rfl, b3⟩
    replace hx := hx.below b3
    clear hc b3 x0 x1 x2 x3 x4 x5 x6 x7 x8
    by_cases h300 : 300 < sz
    · have h300' : (300 : Int) < (sz : Int) := by omega
      go_wp2_with fail
      refine (awake_any w4).mono ?_
      rintro en w5 ⟨rfl, b3⟩
      go_wp2_with fail
      go_ret
      exact ⟨rfl, (hx.below b3).cx.bel⟩
    · have hep := HPX.out (by omega)
      have h300' : decide ((300 : Int) < (sz : Int)) = false := by rw [decide_eq_false_iff_not]; omega
      clear h300 HPX
      have ho := order_any K p nm _ vt _ w4 hx.cx.plan hx.cx.big hsz
      obtain ⟨d0, d1, d2, d3⟩ := hx.cx.box.four
      go_wp2_with fail
      refine ho.mono ?_
      rintro en w5 ⟨x5, rfl, hl5, b5⟩
      obtain ⟨la, lc, rfl, _, _⟩ := hl5.form
      have hls : Strs w5.heap.size w5 (.slice la (orderL p).length lc) (orderL p) := hl5.strs
      replace hx := hx.below b5
      clear ho hl5 b5 d0 d1 d2 d3 h300'
      have ht := rtaken_any K p nm _ vt _ w5 hx.cx.plan hx.cx.big hsz
      obtain ⟨d0, d1, d2, d3⟩ := hx.cx.box.four
      go_wp2_with fail
      refine ht.mono ?_
      rintro en w6 ⟨x6, y6, rfl, hw6, hr6, b6⟩
      obtain ⟨wa, wc, rfl, _, _⟩ := hw6.form
      obtain ⟨ra, rc, rfl, hr1, hr2⟩ := hr6.form
      replace hx := hx.below b6
      replace hls := hls.self b6
      clear ht b6 d0 d1 d2 d3
      have HRO := Lib.hid (rest_none (p := p))
      have HOL : Hid (orderL p = if ordB p then named (names p) (takenP p) else []) := Lib.hid rfl
      have HOE : Hid (orderE p = if ordB p then 0 else 150) := Lib.hid rfl
      unfold maxLen at hr2
      have key : ∀ (W : World), Cxe K nm (.slice da dn dm) vt (.slice ca cn cm) p e ⟨xop, xnm, kd, b3, ⟨a4, n4, m4⟩, b5, ⟨a6, n6, m6⟩, i7, ⟨a8, n8, m8⟩⟩ w W → True := fun _ _ => trivial
      clear key
      cases hob : ordB p with
      | true =>
        have hrl : (restP p).length = 0 := HRO.out.2 hob
        have hll : orderL p = named (names p) (takenP p) := by rw [HOL.out, hob]; rfl
        have hoe : orderE p = 0 := by rw [HOE.out, hob]; rfl
        rw [hll] at hls ⊢
        rw [hoe, hrl] at ⊢
        have hs := lsame_refl _ hls hw6
        clear hob hrl hll hoe HRO HOL HOE hr1 hr6
        go_wp2_with fail
        refine hs.mono ?_
        rintro en w7 ⟨rfl, b7⟩
        replace hx := hx.below b7
        clear hs b7 hls hw6
        go_upto_region 9 with fail
        refine wp_onlyN ?_
        refine region_plain (fun W => Blk W w.heap.size #[.string nm, .slice da dn dm, vt, .slice ca cn cm] 26 ∧ Blk W (w.heap.size + 1) (Xv.cells ⟨xop, xnm, kd, b3, ⟨a4, n4, m4⟩, b5, ⟨a6, n6, m6⟩, i7, ⟨a8, n8, m8⟩⟩) 45) [] (by kernel_rfl) ?_
        replace hx := hx.below (Below.refl _ w7).drew
        have qS : (fun W => Blk W w.heap.size #[.string nm, .slice da dn dm, vt, .slice ca cn cm] 26 ∧ Blk W (w.heap.size + 1) (Xv.cells ⟨xop, xnm, kd, b3, ⟨a4, n4, m4⟩, b5, ⟨a6, n6, m6⟩, i7, ⟨a8, n8, m8⟩⟩) 45) w7.drew := ⟨hx.cx.box, hx.ebox⟩
        refine wpAnyD_take (i := 0) (v := Xv.agg ⟨xop, xnm, kd, b3, ⟨a4, n4, m4⟩, b5, ⟨a6, n6, m6⟩, i7, ⟨a8, n8, m8⟩⟩) rfl (by kernel_rfl) (by kernel_rfl) (by kernel_rfl) (by kernel_rfl) (by kernel_rfl) (fun _ _ _ h => h) (.inl ⟨by kernel_rfl, fun W' hS => by obtain ⟨c0, c1, c2, c3, c4, c5, c6, c7, c8⟩ := Blk.nine hS.2; dsimp only [Xv.agg]; go_simp⟩) qS ?_
        refine wpAnyD_take (i := 2) (v := Xv.agg ⟨xop, xnm, kd, b3, ⟨a4, n4, m4⟩, b5, ⟨a6, n6, m6⟩, i7, ⟨a8, n8, m8⟩⟩) rfl (by kernel_rfl) (by kernel_rfl) (by kernel_rfl) (by kernel_rfl) (by kernel_rfl) (fun _ _ _ h => h) (.inl ⟨by kernel_rfl, fun W' hS => by obtain ⟨c0, c1, c2, c3, c4, c5, c6, c7, c8⟩ := Blk.nine hS.2; dsimp only [Xv.agg]; go_simp⟩) qS ?_
        have hc := refs_any K e ⟨xop, xnm, kd, b3, ⟨a4, n4, m4⟩, b5, ⟨a6, n6, m6⟩, i7, ⟨a8, n8, m8⟩⟩ w7.drew hx.ex hx.cx.big (by omega)
        refine wpAnyD_one (i := 1) (by kernel_rfl) rfl (by kernel_rfl) ?_
        go_simp
        refine hc.mono ?_
        rintro en v1 ⟨x1, rfl, hl1, bb⟩
        obtain ⟨la1, lc1, rfl, _, _⟩ := hl1.form
        replace hl1 := hl1.strs
        replace hx := hx.below bb
        have qS : (fun W => Blk W w.heap.size #[.string nm, .slice da dn dm, vt, .slice ca cn cm] 26 ∧ Blk W (w.heap.size + 1) (Xv.cells ⟨xop, xnm, kd, b3, ⟨a4, n4, m4⟩, b5, ⟨a6, n6, m6⟩, i7, ⟨a8, n8, m8⟩⟩) 45) v1 := ⟨hx.cx.box, hx.ebox⟩
        clear hc bb
        go_simp
        try refine ⟨qS, ?_⟩
        have hc := rrefs_any K _ e (Nat.le_refl _) ⟨xop, xnm, kd, b3, ⟨a4, n4, m4⟩, b5, ⟨a6, n6, m6⟩, i7, ⟨a8, n8, m8⟩⟩ v1 hx.ex hx.cx.big (by omega)
        refine wpAnyD_one (i := 3) (by kernel_rfl) rfl (by kernel_rfl) ?_
        go_simp
        refine hc.mono ?_
        rintro en v3 ⟨x3, rfl, hl3, bb⟩
        obtain ⟨la3, lc3, rfl, _, _⟩ := hl3.form
        replace hl3 := hl3
        replace hx := hx.below bb
        replace hl1 := hl1.self bb
        have qS : (fun W => Blk W w.heap.size #[.string nm, .slice da dn dm, vt, .slice ca cn cm] 26 ∧ Blk W (w.heap.size + 1) (Xv.cells ⟨xop, xnm, kd, b3, ⟨a4, n4, m4⟩, b5, ⟨a6, n6, m6⟩, i7, ⟨a8, n8, m8⟩⟩) 45) v3 := ⟨hx.cx.box, hx.ebox⟩
        clear hc bb
        go_simp
        try refine ⟨qS, ?_⟩
        have hc := lsame_refl _ hl1 hl3
        refine wpAnyD_one (i := 4) (by kernel_rfl) rfl (by kernel_rfl) ?_
        go_simp
        refine hc.mono ?_
        rintro en v4 ⟨rfl, bb⟩
        replace hx := hx.below bb
        have qS : (fun W => Blk W w.heap.size #[.string nm, .slice da dn dm, vt, .slice ca cn cm] 26 ∧ Blk W (w.heap.size + 1) (Xv.cells ⟨xop, xnm, kd, b3, ⟨a4, n4, m4⟩, b5, ⟨a6, n6, m6⟩, i7, ⟨a8, n8, m8⟩⟩) 45) v4 := ⟨hx.cx.box, hx.ebox⟩
        clear hc bb hl1 hl3
        go_simp
        try refine ⟨qS, ?_⟩
        refine wpAnyD_one (i := 5) (by kernel_rfl) rfl (by kernel_rfl) ?_
        go_simp
        try refine ⟨qS, ?_⟩
        refine wpAnyD_take (i := 6) (v := .agg #[.string nm, .slice da dn dm, vt, .slice ca cn cm]) rfl (by kernel_rfl) (by kernel_rfl) (by kernel_rfl) (by kernel_rfl) (by kernel_rfl) (fun _ _ _ h => h) (.inl ⟨by kernel_rfl, fun W' hS => by obtain ⟨c0, c1, c2, c3⟩ := Blk.four hS.1; go_simp⟩) qS ?_
        refine wpAnyD_take (i := 8) (v := .agg #[.string nm, .slice da dn dm, vt, .slice ca cn cm]) rfl (by kernel_rfl) (by kernel_rfl) (by kernel_rfl) (by kernel_rfl) (by kernel_rfl) (fun _ _ _ h => h) (.inl ⟨by kernel_rfl, fun W' hS => by obtain ⟨c0, c1, c2, c3⟩ := Blk.four hS.1; go_simp⟩) qS ?_
        have hc := names_any K p nm _ vt (.slice ca cn cm) v4 hx.cx.plan.1 hx.cx.big (by omega)
        refine wpAnyD_one (i := 7) (by kernel_rfl) rfl (by kernel_rfl) ?_
        go_simp
        refine hc.mono ?_
        rintro en v7 ⟨x7, rfl, hl7, bb⟩
        obtain ⟨la7, lc7, rfl, _, _⟩ := hl7.form
        replace hl7 := hl7.strs
        replace hx := hx.below bb
        have qS : (fun W => Blk W w.heap.size #[.string nm, .slice da dn dm, vt, .slice ca cn cm] 26 ∧ Blk W (w.heap.size + 1) (Xv.cells ⟨xop, xnm, kd, b3, ⟨a4, n4, m4⟩, b5, ⟨a6, n6, m6⟩, i7, ⟨a8, n8, m8⟩⟩) 45) v7 := ⟨hx.cx.box, hx.ebox⟩
        clear hc bb
        go_simp
        try refine ⟨qS, ?_⟩
        have hc := rnames_any K p nm _ vt (.slice ca cn cm) v7 hx.cx.plan.1 hx.cx.big (by omega)
        refine wpAnyD_one (i := 9) (by kernel_rfl) rfl (by kernel_rfl) ?_
        go_simp
        refine hc.mono ?_
        rintro en v9 ⟨x9, rfl, hl9, bb⟩
        obtain ⟨la9, lc9, rfl, _, _⟩ := hl9.form
        replace hl9 := hl9
        replace hx := hx.below bb
        replace hl7 := hl7.self bb
        have qS : (fun W => Blk W w.heap.size #[.string nm, .slice da dn dm, vt, .slice ca cn cm] 26 ∧ Blk W (w.heap.size + 1) (Xv.cells ⟨xop, xnm, kd, b3, ⟨a4, n4, m4⟩, b5, ⟨a6, n6, m6⟩, i7, ⟨a8, n8, m8⟩⟩) 45) v9 := ⟨hx.cx.box, hx.ebox⟩
        clear hc bb
        go_simp
        try refine ⟨qS, ?_⟩
        have hc := lsame_refl _ hl7 hl9
        refine wpAnyD_one (i := 10) (by kernel_rfl) rfl (by kernel_rfl) ?_
        go_simp
        refine hc.mono ?_
        rintro en v10 ⟨rfl, bb⟩
        replace hx := hx.below bb
        have qS : (fun W => Blk W w.heap.size #[.string nm, .slice da dn dm, vt, .slice ca cn cm] 26 ∧ Blk W (w.heap.size + 1) (Xv.cells ⟨xop, xnm, kd, b3, ⟨a4, n4, m4⟩, b5, ⟨a6, n6, m6⟩, i7, ⟨a8, n8, m8⟩⟩) 45) v10 := ⟨hx.cx.box, hx.ebox⟩
        clear hc bb hl7 hl9
        go_simp
        try refine ⟨qS, ?_⟩
        refine wpAnyD_one (i := 11) (by kernel_rfl) rfl (by kernel_rfl) ?_
        go_simp
        try refine ⟨qS, ?_⟩
        refine wpAnyD_one (i := 12) (by kernel_rfl) rfl (by kernel_rfl) ?_
        go_simp
        try refine ⟨qS, ?_⟩
        refine wpAnyD_take (i := 13) (v := .agg #[.string nm, .slice da dn dm, vt, .slice ca cn cm]) rfl (by kernel_rfl) (by kernel_rfl) (by kernel_rfl) (by kernel_rfl) (by kernel_rfl) (fun _ _ _ h => h) (.inl ⟨by kernel_rfl, fun W' hS => by obtain ⟨c0, c1, c2, c3⟩ := Blk.four hS.1; go_simp⟩) qS ?_
        refine wpAnyD_take (i := 14) (v := S a) rfl (by kernel_rfl) (by kernel_rfl) (by kernel_rfl) (by kernel_rfl) (by kernel_rfl) (fun _ _ _ h => h) (.inl ⟨by kernel_rfl, fun W' hS => by go_simp⟩) qS ?_
        refine wpAnyD_take (i := 16) (v := .agg #[.string nm, .slice da dn dm, vt, .slice ca cn cm]) rfl (by kernel_rfl) (by kernel_rfl) (by kernel_rfl) (by kernel_rfl) (by kernel_rfl) (fun _ _ _ h => h) (.inl ⟨by kernel_rfl, fun W' hS => by obtain ⟨c0, c1, c2, c3⟩ := Blk.four hS.1; go_simp⟩) qS ?_
        refine wpAnyD_take (i := 17) (v := S a) rfl (by kernel_rfl) (by kernel_rfl) (by kernel_rfl) (by kernel_rfl) (by kernel_rfl) (fun _ _ _ h => h) (.inl ⟨by kernel_rfl, fun W' hS => by go_simp⟩) qS ?_
        have hc := depends_any K p nm _ vt _ a v10 hx.cx.plan hx.cx.big hsz ha
        refine wpAnyD_one (i := 15) (by kernel_rfl) rfl (by kernel_rfl) ?_
        go_simp
        refine hc.mono ?_
        rintro en v15 ⟨x15, rfl, hl15, bb⟩
        obtain ⟨la15, lc15, rfl, _, _⟩ := hl15.form
        replace hl15 := hl15.strs
        replace hx := hx.below bb
        have qS : (fun W => Blk W w.heap.size #[.string nm, .slice da dn dm, vt, .slice ca cn cm] 26 ∧ Blk W (w.heap.size + 1) (Xv.cells ⟨xop, xnm, kd, b3, ⟨a4, n4, m4⟩, b5, ⟨a6, n6, m6⟩, i7, ⟨a8, n8, m8⟩⟩) 45) v15 := ⟨hx.cx.box, hx.ebox⟩
        clear hc bb
        go_simp
        try refine ⟨qS, ?_⟩
        have hc := rdepends_any K p nm _ vt _ a v15 hx.cx.plan hx.cx.big hsz ha
        refine wpAnyD_one (i := 18) (by kernel_rfl) rfl (by kernel_rfl) ?_
        go_simp
        refine hc.mono ?_
        rintro en v18 ⟨x18, rfl, hl18, bb⟩
        obtain ⟨la18, lc18, rfl, _, _⟩ := hl18.form
        replace hl18 := hl18.strs
        replace hx := hx.below bb
        replace hl15 := hl15.self bb
        have qS : (fun W => Blk W w.heap.size #[.string nm, .slice da dn dm, vt, .slice ca cn cm] 26 ∧ Blk W (w.heap.size + 1) (Xv.cells ⟨xop, xnm, kd, b3, ⟨a4, n4, m4⟩, b5, ⟨a6, n6, m6⟩, i7, ⟨a8, n8, m8⟩⟩) 45) v18 := ⟨hx.cx.box, hx.ebox⟩
        clear hc bb
        go_simp
        try refine ⟨qS, ?_⟩
        have hc := lsame_refl _ hl15 hl18
        refine wpAnyD_one (i := 19) (by kernel_rfl) rfl (by kernel_rfl) ?_
        go_simp
        refine hc.mono ?_
        rintro en v19 ⟨rfl, bb⟩
        replace hx := hx.below bb
        have qS : (fun W => Blk W w.heap.size #[.string nm, .slice da dn dm, vt, .slice ca cn cm] 26 ∧ Blk W (w.heap.size + 1) (Xv.cells ⟨xop, xnm, kd, b3, ⟨a4, n4, m4⟩, b5, ⟨a6, n6, m6⟩, i7, ⟨a8, n8, m8⟩⟩) 45) v19 := ⟨hx.cx.box, hx.ebox⟩
        clear hc bb hl15 hl18
        go_simp
        try refine ⟨qS, ?_⟩
        refine wpAnyD_one (i := 20) (by kernel_rfl) rfl (by kernel_rfl) ?_
        go_simp
        try refine ⟨qS, ?_⟩
        refine wpAnyD_one (i := 21) (by kernel_rfl) rfl (by kernel_rfl) ?_
        go_simp
        try refine ⟨qS, ?_⟩
        refine wpAnyD_take (i := 22) (v := .agg #[.string nm, .slice da dn dm, vt, .slice ca cn cm]) rfl (by kernel_rfl) (by kernel_rfl) (by kernel_rfl) (by kernel_rfl) (by kernel_rfl) (fun _ _ _ h => h) (.inl ⟨by kernel_rfl, fun W' hS => by obtain ⟨c0, c1, c2, c3⟩ := Blk.four hS.1; go_simp⟩) qS ?_
        refine wpAnyD_take (i := 23) (v := S a) rfl (by kernel_rfl) (by kernel_rfl) (by kernel_rfl) (by kernel_rfl) (by kernel_rfl) (fun _ _ _ h => h) (.inl ⟨by kernel_rfl, fun W' hS => by go_simp⟩) qS ?_
        refine wpAnyD_take (i := 25) (v := .agg #[.string nm, .slice da dn dm, vt, .slice ca cn cm]) rfl (by kernel_rfl) (by kernel_rfl) (by kernel_rfl) (by kernel_rfl) (by kernel_rfl) (fun _ _ _ h => h) (.inl ⟨by kernel_rfl, fun W' hS => by obtain ⟨c0, c1, c2, c3⟩ := Blk.four hS.1; go_simp⟩) qS ?_
        refine wpAnyD_take (i := 26) (v := S a) rfl (by kernel_rfl) (by kernel_rfl) (by kernel_rfl) (by kernel_rfl) (by kernel_rfl) (fun _ _ _ h => h) (.inl ⟨by kernel_rfl, fun W' hS => by go_simp⟩) qS ?_
        have hc := reach_any K p nm _ vt _ a v19 hx.cx.plan hx.cx.big hsz ha
        refine wpAnyD_one (i := 24) (by kernel_rfl) rfl (by kernel_rfl) ?_
        go_simp
        refine hc.mono ?_
        rintro en v24 ⟨x24, rfl, hl24, bb⟩
        obtain ⟨la24, lc24, rfl, _, _⟩ := hl24.form
        replace hl24 := hl24.strs
        replace hx := hx.below bb
        have qS : (fun W => Blk W w.heap.size #[.string nm, .slice da dn dm, vt, .slice ca cn cm] 26 ∧ Blk W (w.heap.size + 1) (Xv.cells ⟨xop, xnm, kd, b3, ⟨a4, n4, m4⟩, b5, ⟨a6, n6, m6⟩, i7, ⟨a8, n8, m8⟩⟩) 45) v24 := ⟨hx.cx.box, hx.ebox⟩
        clear hc bb
        go_simp
        try refine ⟨qS, ?_⟩
        have hc := rreach_any K p nm _ vt _ a v24 hx.cx.plan hx.cx.big hsz ha
        refine wpAnyD_one (i := 27) (by kernel_rfl) rfl (by kernel_rfl) ?_
        go_simp
        refine hc.mono ?_
        rintro en v27 ⟨x27, rfl, hl27, bb⟩
        obtain ⟨la27, lc27, rfl, _, _⟩ := hl27.form
        replace hl27 := hl27.strs
        replace hx := hx.below bb
        replace hl24 := hl24.self bb
        have qS : (fun W => Blk W w.heap.size #[.string nm, .slice da dn dm, vt, .slice ca cn cm] 26 ∧ Blk W (w.heap.size + 1) (Xv.cells ⟨xop, xnm, kd, b3, ⟨a4, n4, m4⟩, b5, ⟨a6, n6, m6⟩, i7, ⟨a8, n8, m8⟩⟩) 45) v27 := ⟨hx.cx.box, hx.ebox⟩
        clear hc bb
        go_simp
        try refine ⟨qS, ?_⟩
        have hc := lsame_refl _ hl24 hl27
        refine wpAnyD_one (i := 28) (by kernel_rfl) rfl (by kernel_rfl) ?_
        go_simp
        refine hc.mono ?_
        rintro en v28 ⟨rfl, bb⟩
        replace hx := hx.below bb
        have qS : (fun W => Blk W w.heap.size #[.string nm, .slice da dn dm, vt, .slice ca cn cm] 26 ∧ Blk W (w.heap.size + 1) (Xv.cells ⟨xop, xnm, kd, b3, ⟨a4, n4, m4⟩, b5, ⟨a6, n6, m6⟩, i7, ⟨a8, n8, m8⟩⟩) 45) v28 := ⟨hx.cx.box, hx.ebox⟩
        clear hc bb hl24 hl27
        go_simp
        try refine ⟨qS, ?_⟩
        refine wpAnyD_one (i := 29) (by kernel_rfl) rfl (by kernel_rfl) ?_
        go_simp
        try refine ⟨qS, ?_⟩
        refine wpAnyD_one (i := 30) (by kernel_rfl) rfl (by kernel_rfl) ?_
        go_simp
        try refine ⟨qS, ?_⟩
        refine wpAnyD_take (i := 31) (v := .agg #[.string nm, .slice da dn dm, vt, .slice ca cn cm]) rfl (by kernel_rfl) (by kernel_rfl) (by kernel_rfl) (by kernel_rfl) (by kernel_rfl) (fun _ _ _ h => h) (.inl ⟨by kernel_rfl, fun W' hS => by obtain ⟨c0, c1, c2, c3⟩ := Blk.four hS.1; go_simp⟩) qS ?_
        refine wpAnyD_take (i := 33) (v := .agg #[.string nm, .slice da dn dm, vt, .slice ca cn cm]) rfl (by kernel_rfl) (by kernel_rfl) (by kernel_rfl) (by kernel_rfl) (by kernel_rfl) (fun _ _ _ h => h) (.inl ⟨by kernel_rfl, fun W' hS => by obtain ⟨c0, c1, c2, c3⟩ := Blk.four hS.1; go_simp⟩) qS ?_
        have hc := cycle_any K p nm _ vt _ v28 hx.cx.plan hx.cx.big hsz
        refine wpAnyD_one (i := 32) (by kernel_rfl) rfl (by kernel_rfl) ?_
        go_simp
        refine hc.mono ?_
        rintro en v32 ⟨x32, rfl, hl32, bb⟩
        obtain ⟨la32, lc32, rfl, _, _⟩ := hl32.form
        replace hl32 := hl32.strs
        replace hx := hx.below bb
        have qS : (fun W => Blk W w.heap.size #[.string nm, .slice da dn dm, vt, .slice ca cn cm] 26 ∧ Blk W (w.heap.size + 1) (Xv.cells ⟨xop, xnm, kd, b3, ⟨a4, n4, m4⟩, b5, ⟨a6, n6, m6⟩, i7, ⟨a8, n8, m8⟩⟩) 45) v32 := ⟨hx.cx.box, hx.ebox⟩
        clear hc bb
        go_simp
        try refine ⟨qS, ?_⟩
        have hc := rcycle_any K p nm _ vt _ v32 hx.cx.plan hx.cx.big hsz
        refine wpAnyD_one (i := 34) (by kernel_rfl) rfl (by kernel_rfl) ?_
        go_simp
        refine hc.mono ?_
        rintro en v34 ⟨x34, rfl, hl34, bb⟩
        obtain ⟨la34, lc34, rfl, _, _⟩ := hl34.form
        replace hl34 := hl34
        replace hx := hx.below bb
        replace hl32 := hl32.self bb
        have qS : (fun W => Blk W w.heap.size #[.string nm, .slice da dn dm, vt, .slice ca cn cm] 26 ∧ Blk W (w.heap.size + 1) (Xv.cells ⟨xop, xnm, kd, b3, ⟨a4, n4, m4⟩, b5, ⟨a6, n6, m6⟩, i7, ⟨a8, n8, m8⟩⟩) 45) v34 := ⟨hx.cx.box, hx.ebox⟩
        clear hc bb
        go_simp
        try refine ⟨qS, ?_⟩
        have hc := lsame_refl _ hl32 hl34
        refine wpAnyD_one (i := 35) (by kernel_rfl) rfl (by kernel_rfl) ?_
        go_simp
        refine hc.mono ?_
        rintro en v35 ⟨rfl, bb⟩
        replace hx := hx.below bb
        have qS : (fun W => Blk W w.heap.size #[.string nm, .slice da dn dm, vt, .slice ca cn cm] 26 ∧ Blk W (w.heap.size + 1) (Xv.cells ⟨xop, xnm, kd, b3, ⟨a4, n4, m4⟩, b5, ⟨a6, n6, m6⟩, i7, ⟨a8, n8, m8⟩⟩) 45) v35 := ⟨hx.cx.box, hx.ebox⟩
        clear hc bb hl32 hl34
        go_simp
        try refine ⟨qS, ?_⟩
        refine wpAnyD_one (i := 36) (by kernel_rfl) rfl (by kernel_rfl) ?_
        go_simp
        try refine ⟨qS, ?_⟩
        refine wpAnyD_one (i := 37) (by kernel_rfl) rfl (by kernel_rfl) ?_
        go_simp
        try refine ⟨qS, ?_⟩
        refine wpAnyD_one (i := 38) (by kernel_rfl) rfl (by kernel_rfl) ?_
        go_simp
        refine (awake_any v35).mono ?_
        rintro en v38 ⟨rfl, bb⟩
        replace hx := hx.below bb
        have qS : (fun W => Blk W w.heap.size #[.string nm, .slice da dn dm, vt, .slice ca cn cm] 26 ∧ Blk W (w.heap.size + 1) (Xv.cells ⟨xop, xnm, kd, b3, ⟨a4, n4, m4⟩, b5, ⟨a6, n6, m6⟩, i7, ⟨a8, n8, m8⟩⟩) 45) v38 := ⟨hx.cx.box, hx.ebox⟩
        clear bb
        go_simp
        try refine ⟨qS, ?_⟩
        refine wpAnyD_one (i := 39) (by kernel_rfl) rfl (by kernel_rfl) ?_
        go_simp
        try refine ⟨qS, ?_⟩
        refine wpAnyD_one (i := 40) (by kernel_rfl) rfl (by kernel_rfl) ?_
        go_simp
        try refine ⟨qS, ?_⟩
        refine wpAnyD_done (by kernel_rfl) ?_ _
        refine onlyN_mk ?_
        go_simp
        try go_wp2_with fail
        go_ret
        exact ⟨rfl, hx.cx.bel⟩
      | false =>
        have hrl : ¬ (restP p).length = 0 := fun h => by rw [HRO.out.1 h] at hob; cases hob
        have hrp : 0 < (restP p).length := by omega
        have hll : orderL p = [] := by rw [HOL.out, hob]; rfl
        have hoe : orderE p = 150 := by rw [HOE.out, hob]; rfl
        rw [hll] at hls ⊢
        rw [hoe] at ⊢
        have hs := lsame_refl _ hls (OwnS.nil 0 w6).strs
        have hrb : ((restP p).length == 0) = false := by rw [beq_eq_false_iff_ne]; omega
        have hrb2 : (((restP p).length : Int) == 0) = false := by rw [beq_eq_false_iff_ne]; omega
        obtain ⟨rl, hrlE⟩ : ∃ rl, (restP p).length = rl := ⟨_, rfl⟩
        rw [hrlE] at hrp hrb hrb2 ⊢
        clear hob hrl hll hoe HRO HOL HOE hr1 hr6 hrlE
        go_wp2_with fail
        refine hs.mono ?_
        rintro en w7 ⟨rfl, b7⟩
        replace hx := hx.below b7
        clear hs b7 hls hw6
        go_upto_region 9 with fail
        refine wp_onlyN ?_
        refine region_plain (fun W => Blk W w.heap.size #[.string nm, .slice da dn dm, vt, .slice ca cn cm] 26 ∧ Blk W (w.heap.size + 1) (Xv.cells ⟨xop, xnm, kd, b3, ⟨a4, n4, m4⟩, b5, ⟨a6, n6, m6⟩, i7, ⟨a8, n8, m8⟩⟩) 45) [] (by kernel_rfl) ?_
        replace hx := hx.below (Below.refl _ w7).drew
        have qS : (fun W => Blk W w.heap.size #[.string nm, .slice da dn dm, vt, .slice ca cn cm] 26 ∧ Blk W (w.heap.size + 1) (Xv.cells ⟨xop, xnm, kd, b3, ⟨a4, n4, m4⟩, b5, ⟨a6, n6, m6⟩, i7, ⟨a8, n8, m8⟩⟩) 45) w7.drew := ⟨hx.cx.box, hx.ebox⟩
        refine wpAnyD_take (i := 0) (v := Xv.agg ⟨xop, xnm, kd, b3, ⟨a4, n4, m4⟩, b5, ⟨a6, n6, m6⟩, i7, ⟨a8, n8, m8⟩⟩) rfl (by kernel_rfl) (by kernel_rfl) (by kernel_rfl) (by kernel_rfl) (by kernel_rfl) (fun _ _ _ h => h) (.inl ⟨by kernel_rfl, fun W' hS => by obtain ⟨c0, c1, c2, c3, c4, c5, c6, c7, c8⟩ := Blk.nine hS.2; dsimp only [Xv.agg]; go_simp⟩) qS ?_
        refine wpAnyD_take (i := 2) (v := Xv.agg ⟨xop, xnm, kd, b3, ⟨a4, n4, m4⟩, b5, ⟨a6, n6, m6⟩, i7, ⟨a8, n8, m8⟩⟩) rfl (by kernel_rfl) (by kernel_rfl) (by kernel_rfl) (by kernel_rfl) (by kernel_rfl) (fun _ _ _ h => h) (.inl ⟨by kernel_rfl, fun W' hS => by obtain ⟨c0, c1, c2, c3, c4, c5, c6, c7, c8⟩ := Blk.nine hS.2; dsimp only [Xv.agg]; go_simp⟩) qS ?_
        have hc := refs_any K e ⟨xop, xnm, kd, b3, ⟨a4, n4, m4⟩, b5, ⟨a6, n6, m6⟩, i7, ⟨a8, n8, m8⟩⟩ w7.drew hx.ex hx.cx.big (by omega)
        refine wpAnyD_one (i := 1) (by kernel_rfl) rfl (by kernel_rfl) ?_
        go_simp
        refine hc.mono ?_
        rintro en v1 ⟨x1, rfl, hl1, bb⟩
        obtain ⟨la1, lc1, rfl, _, _⟩ := hl1.form
        replace hl1 := hl1.strs
        replace hx := hx.below bb
        have qS : (fun W => Blk W w.heap.size #[.string nm, .slice da dn dm, vt, .slice ca cn cm] 26 ∧ Blk W (w.heap.size + 1) (Xv.cells ⟨xop, xnm, kd, b3, ⟨a4, n4, m4⟩, b5, ⟨a6, n6, m6⟩, i7, ⟨a8, n8, m8⟩⟩) 45) v1 := ⟨hx.cx.box, hx.ebox⟩
        clear hc bb
        go_simp
        try refine ⟨qS, ?_⟩
        have hc := rrefs_any K _ e (Nat.le_refl _) ⟨xop, xnm, kd, b3, ⟨a4, n4, m4⟩, b5, ⟨a6, n6, m6⟩, i7, ⟨a8, n8, m8⟩⟩ v1 hx.ex hx.cx.big (by omega)
        refine wpAnyD_one (i := 3) (by kernel_rfl) rfl (by kernel_rfl) ?_
        go_simp
        refine hc.mono ?_
        rintro en v3 ⟨x3, rfl, hl3, bb⟩
        obtain ⟨la3, lc3, rfl, _, _⟩ := hl3.form
        replace hl3 := hl3
        replace hx := hx.below bb
        replace hl1 := hl1.self bb
        have qS : (fun W => Blk W w.heap.size #[.string nm, .slice da dn dm, vt, .slice ca cn cm] 26 ∧ Blk W (w.heap.size + 1) (Xv.cells ⟨xop, xnm, kd, b3, ⟨a4, n4, m4⟩, b5, ⟨a6, n6, m6⟩, i7, ⟨a8, n8, m8⟩⟩) 45) v3 := ⟨hx.cx.box, hx.ebox⟩
        clear hc bb
        go_simp
        try refine ⟨qS, ?_⟩
        have hc := lsame_refl _ hl1 hl3
        refine wpAnyD_one (i := 4) (by kernel_rfl) rfl (by kernel_rfl) ?_
        go_simp
        refine hc.mono ?_
        rintro en v4 ⟨rfl, bb⟩
        replace hx := hx.below bb
        have qS : (fun W => Blk W w.heap.size #[.string nm, .slice da dn dm, vt, .slice ca cn cm] 26 ∧ Blk W (w.heap.size + 1) (Xv.cells ⟨xop, xnm, kd, b3, ⟨a4, n4, m4⟩, b5, ⟨a6, n6, m6⟩, i7, ⟨a8, n8, m8⟩⟩) 45) v4 := ⟨hx.cx.box, hx.ebox⟩
        clear hc bb hl1 hl3
        go_simp
        try refine ⟨qS, ?_⟩
        refine wpAnyD_one (i := 5) (by kernel_rfl) rfl (by kernel_rfl) ?_
        go_simp
        try refine ⟨qS, ?_⟩
        refine wpAnyD_take (i := 6) (v := .agg #[.string nm, .slice da dn dm, vt, .slice ca cn cm]) rfl (by kernel_rfl) (by kernel_rfl) (by kernel_rfl) (by kernel_rfl) (by kernel_rfl) (fun _ _ _ h => h) (.inl ⟨by kernel_rfl, fun W' hS => by obtain ⟨c0, c1, c2, c3⟩ := Blk.four hS.1; go_simp⟩) qS ?_
        refine wpAnyD_take (i := 8) (v := .agg #[.string nm, .slice da dn dm, vt, .slice ca cn cm]) rfl (by kernel_rfl) (by kernel_rfl) (by kernel_rfl) (by kernel_rfl) (by kernel_rfl) (fun _ _ _ h => h) (.inl ⟨by kernel_rfl, fun W' hS => by obtain ⟨c0, c1, c2, c3⟩ := Blk.four hS.1; go_simp⟩) qS ?_
        have hc := names_any K p nm _ vt (.slice ca cn cm) v4 hx.cx.plan.1 hx.cx.big (by omega)
        refine wpAnyD_one (i := 7) (by kernel_rfl) rfl (by kernel_rfl) ?_
        go_simp
        refine hc.mono ?_
        rintro en v7 ⟨x7, rfl, hl7, bb⟩
        obtain ⟨la7, lc7, rfl, _, _⟩ := hl7.form
        replace hl7 := hl7.strs
        replace hx := hx.below bb
        have qS : (fun W => Blk W w.heap.size #[.string nm, .slice da dn dm, vt, .slice ca cn cm] 26 ∧ Blk W (w.heap.size + 1) (Xv.cells ⟨xop, xnm, kd, b3, ⟨a4, n4, m4⟩, b5, ⟨a6, n6, m6⟩, i7, ⟨a8, n8, m8⟩⟩) 45) v7 := ⟨hx.cx.box, hx.ebox⟩
        clear hc bb
        go_simp
        try refine ⟨qS, ?_⟩
        have hc := rnames_any K p nm _ vt (.slice ca cn cm) v7 hx.cx.plan.1 hx.cx.big (by omega)
        refine wpAnyD_one (i := 9) (by kernel_rfl) rfl (by kernel_rfl) ?_
        go_simp
        refine hc.mono ?_
        rintro en v9 ⟨x9, rfl, hl9, bb⟩
        obtain ⟨la9, lc9, rfl, _, _⟩ := hl9.form
        replace hl9 := hl9
        replace hx := hx.below bb
        replace hl7 := hl7.self bb
        have qS : (fun W => Blk W w.heap.size #[.string nm, .slice da dn dm, vt, .slice ca cn cm] 26 ∧ Blk W (w.heap.size + 1) (Xv.cells ⟨xop, xnm, kd, b3, ⟨a4, n4, m4⟩, b5, ⟨a6, n6, m6⟩, i7, ⟨a8, n8, m8⟩⟩) 45) v9 := ⟨hx.cx.box, hx.ebox⟩
        clear hc bb
        go_simp
        try refine ⟨qS, ?_⟩
        have hc := lsame_refl _ hl7 hl9
        refine wpAnyD_one (i := 10) (by kernel_rfl) rfl (by kernel_rfl) ?_
        go_simp
        refine hc.mono ?_
        rintro en v10 ⟨rfl, bb⟩
        replace hx := hx.below bb
        have qS : (fun W => Blk W w.heap.size #[.string nm, .slice da dn dm, vt, .slice ca cn cm] 26 ∧ Blk W (w.heap.size + 1) (Xv.cells ⟨xop, xnm, kd, b3, ⟨a4, n4, m4⟩, b5, ⟨a6, n6, m6⟩, i7, ⟨a8, n8, m8⟩⟩) 45) v10 := ⟨hx.cx.box, hx.ebox⟩
        clear hc bb hl7 hl9
        go_simp
        try refine ⟨qS, ?_⟩
        refine wpAnyD_one (i := 11) (by kernel_rfl) rfl (by kernel_rfl) ?_
        go_simp
        try refine ⟨qS, ?_⟩
        refine wpAnyD_one (i := 12) (by kernel_rfl) rfl (by kernel_rfl) ?_
        go_simp
        try refine ⟨qS, ?_⟩
        refine wpAnyD_take (i := 13) (v := .agg #[.string nm, .slice da dn dm, vt, .slice ca cn cm]) rfl (by kernel_rfl) (by kernel_rfl) (by kernel_rfl) (by kernel_rfl) (by kernel_rfl) (fun _ _ _ h => h) (.inl ⟨by kernel_rfl, fun W' hS => by obtain ⟨c0, c1, c2, c3⟩ := Blk.four hS.1; go_simp⟩) qS ?_
        refine wpAnyD_take (i := 14) (v := S a) rfl (by kernel_rfl) (by kernel_rfl) (by kernel_rfl) (by kernel_rfl) (by kernel_rfl) (fun _ _ _ h => h) (.inl ⟨by kernel_rfl, fun W' hS => by go_simp⟩) qS ?_
        refine wpAnyD_take (i := 16) (v := .agg #[.string nm, .slice da dn dm, vt, .slice ca cn cm]) rfl (by kernel_rfl) (by kernel_rfl) (by kernel_rfl) (by kernel_rfl) (by kernel_rfl) (fun _ _ _ h => h) (.inl ⟨by kernel_rfl, fun W' hS => by obtain ⟨c0, c1, c2, c3⟩ := Blk.four hS.1; go_simp⟩) qS ?_
        refine wpAnyD_take (i := 17) (v := S a) rfl (by kernel_rfl) (by kernel_rfl) (by kernel_rfl) (by kernel_rfl) (by kernel_rfl) (fun _ _ _ h => h) (.inl ⟨by kernel_rfl, fun W' hS => by go_simp⟩) qS ?_
        have hc := depends_any K p nm _ vt _ a v10 hx.cx.plan hx.cx.big hsz ha
        refine wpAnyD_one (i := 15) (by kernel_rfl) rfl (by kernel_rfl) ?_
        go_simp
        refine hc.mono ?_
        rintro en v15 ⟨x15, rfl, hl15, bb⟩
        obtain ⟨la15, lc15, rfl, _, _⟩ := hl15.form
        replace hl15 := hl15.strs
        replace hx := hx.below bb
        have qS : (fun W => Blk W w.heap.size #[.string nm, .slice da dn dm, vt, .slice ca cn cm] 26 ∧ Blk W (w.heap.size + 1) (Xv.cells ⟨xop, xnm, kd, b3, ⟨a4, n4, m4⟩, b5, ⟨a6, n6, m6⟩, i7, ⟨a8, n8, m8⟩⟩) 45) v15 := ⟨hx.cx.box, hx.ebox⟩
        clear hc bb
        go_simp
        try refine ⟨qS, ?_⟩
        have hc := rdepends_any K p nm _ vt _ a v15 hx.cx.plan hx.cx.big hsz ha
        refine wpAnyD_one (i := 18) (by kernel_rfl) rfl (by kernel_rfl) ?_
        go_simp
        refine hc.mono ?_
        rintro en v18 ⟨x18, rfl, hl18, bb⟩
        obtain ⟨la18, lc18, rfl, _, _⟩ := hl18.form
        replace hl18 := hl18.strs
        replace hx := hx.below bb
        replace hl15 := hl15.self bb
        have qS : (fun W => Blk W w.heap.size #[.string nm, .slice da dn dm, vt, .slice ca cn cm] 26 ∧ Blk W (w.heap.size + 1) (Xv.cells ⟨xop, xnm, kd, b3, ⟨a4, n4, m4⟩, b5, ⟨a6, n6, m6⟩, i7, ⟨a8, n8, m8⟩⟩) 45) v18 := ⟨hx.cx.box, hx.ebox⟩
        clear hc bb
        go_simp
        try refine ⟨qS, ?_⟩
        have hc := lsame_refl _ hl15 hl18
        refine wpAnyD_one (i := 19) (by kernel_rfl) rfl (by kernel_rfl) ?_
        go_simp
        refine hc.mono ?_
        rintro en v19 ⟨rfl, bb⟩
        replace hx := hx.below bb
        have qS : (fun W => Blk W w.heap.size #[.string nm, .slice da dn dm, vt, .slice ca cn cm] 26 ∧ Blk W (w.heap.size + 1) (Xv.cells ⟨xop, xnm, kd, b3, ⟨a4, n4, m4⟩, b5, ⟨a6, n6, m6⟩, i7, ⟨a8, n8, m8⟩⟩) 45) v19 := ⟨hx.cx.box, hx.ebox⟩
        clear hc bb hl15 hl18
        go_simp
        try refine ⟨qS, ?_⟩
        refine wpAnyD_one (i := 20) (by kernel_rfl) rfl (by kernel_rfl) ?_
        go_simp
        try refine ⟨qS, ?_⟩
        refine wpAnyD_one (i := 21) (by kernel_rfl) rfl (by kernel_rfl) ?_
        go_simp
        try refine ⟨qS, ?_⟩
        refine wpAnyD_take (i := 22) (v := .agg #[.string nm, .slice da dn dm, vt, .slice ca cn cm]) rfl (by kernel_rfl) (by kernel_rfl) (by kernel_rfl) (by kernel_rfl) (by kernel_rfl) (fun _ _ _ h => h) (.inl ⟨by kernel_rfl, fun W' hS => by obtain ⟨c0, c1, c2, c3⟩ := Blk.four hS.1; go_simp⟩) qS ?_
        refine wpAnyD_take (i := 23) (v := S a) rfl (by kernel_rfl) (by kernel_rfl) (by kernel_rfl) (by kernel_rfl) (by kernel_rfl) (fun _ _ _ h => h) (.inl ⟨by kernel_rfl, fun W' hS => by go_simp⟩) qS ?_
        refine wpAnyD_take (i := 25) (v := .agg #[.string nm, .slice da dn dm, vt, .slice ca cn cm]) rfl (by kernel_rfl) (by kernel_rfl) (by kernel_rfl) (by kernel_rfl) (by kernel_rfl) (fun _ _ _ h => h) (.inl ⟨by kernel_rfl, fun W' hS => by obtain ⟨c0, c1, c2, c3⟩ := Blk.four hS.1; go_simp⟩) qS ?_
        refine wpAnyD_take (i := 26) (v := S a) rfl (by kernel_rfl) (by kernel_rfl) (by kernel_rfl) (by kernel_rfl) (by kernel_rfl) (fun _ _ _ h => h) (.inl ⟨by kernel_rfl, fun W' hS => by go_simp⟩) qS ?_
        have hc := reach_any K p nm _ vt _ a v19 hx.cx.plan hx.cx.big hsz ha
        refine wpAnyD_one (i := 24) (by kernel_rfl) rfl (by kernel_rfl) ?_
        go_simp
        refine hc.mono ?_
        rintro en v24 ⟨x24, rfl, hl24, bb⟩
        obtain ⟨la24, lc24, rfl, _, _⟩ := hl24.form
        replace hl24 := hl24.strs
        replace hx := hx.below bb
        have qS : (fun W => Blk W w.heap.size #[.string nm, .slice da dn dm, vt, .slice ca cn cm] 26 ∧ Blk W (w.heap.size + 1) (Xv.cells ⟨xop, xnm, kd, b3, ⟨a4, n4, m4⟩, b5, ⟨a6, n6, m6⟩, i7, ⟨a8, n8, m8⟩⟩) 45) v24 := ⟨hx.cx.box, hx.ebox⟩
        clear hc bb
        go_simp
        try refine ⟨qS, ?_⟩
        have hc := rreach_any K p nm _ vt _ a v24 hx.cx.plan hx.cx.big hsz ha
        refine wpAnyD_one (i := 27) (by kernel_rfl) rfl (by kernel_rfl) ?_
        go_simp
        refine hc.mono ?_
        rintro en v27 ⟨x27, rfl, hl27, bb⟩
        obtain ⟨la27, lc27, rfl, _, _⟩ := hl27.form
        replace hl27 := hl27.strs
        replace hx := hx.below bb
        replace hl24 := hl24.self bb
        have qS : (fun W => Blk W w.heap.size #[.string nm, .slice da dn dm, vt, .slice ca cn cm] 26 ∧ Blk W (w.heap.size + 1) (Xv.cells ⟨xop, xnm, kd, b3, ⟨a4, n4, m4⟩, b5, ⟨a6, n6, m6⟩, i7, ⟨a8, n8, m8⟩⟩) 45) v27 := ⟨hx.cx.box, hx.ebox⟩
        clear hc bb
        go_simp
        try refine ⟨qS, ?_⟩
        have hc := lsame_refl _ hl24 hl27
        refine wpAnyD_one (i := 28) (by kernel_rfl) rfl (by kernel_rfl) ?_
        go_simp
        refine hc.mono ?_
        rintro en v28 ⟨rfl, bb⟩
        replace hx := hx.below bb
        have qS : (fun W => Blk W w.heap.size #[.string nm, .slice da dn dm, vt, .slice ca cn cm] 26 ∧ Blk W (w.heap.size + 1) (Xv.cells ⟨xop, xnm, kd, b3, ⟨a4, n4, m4⟩, b5, ⟨a6, n6, m6⟩, i7, ⟨a8, n8, m8⟩⟩) 45) v28 := ⟨hx.cx.box, hx.ebox⟩
        clear hc bb hl24 hl27
        go_simp
        try refine ⟨qS, ?_⟩
        refine wpAnyD_one (i := 29) (by kernel_rfl) rfl (by kernel_rfl) ?_
        go_simp
        try refine ⟨qS, ?_⟩
        refine wpAnyD_one (i := 30) (by kernel_rfl) rfl (by kernel_rfl) ?_
        go_simp
        try refine ⟨qS, ?_⟩
        refine wpAnyD_take (i := 31) (v := .agg #[.string nm, .slice da dn dm, vt, .slice ca cn cm]) rfl (by kernel_rfl) (by kernel_rfl) (by kernel_rfl) (by kernel_rfl) (by kernel_rfl) (fun _ _ _ h => h) (.inl ⟨by kernel_rfl, fun W' hS => by obtain ⟨c0, c1, c2, c3⟩ := Blk.four hS.1; go_simp⟩) qS ?_
        refine wpAnyD_take (i := 33) (v := .agg #[.string nm, .slice da dn dm, vt, .slice ca cn cm]) rfl (by kernel_rfl) (by kernel_rfl) (by kernel_rfl) (by kernel_rfl) (by kernel_rfl) (fun _ _ _ h => h) (.inl ⟨by kernel_rfl, fun W' hS => by obtain ⟨c0, c1, c2, c3⟩ := Blk.four hS.1; go_simp⟩) qS ?_
        have hc := cycle_any K p nm _ vt _ v28 hx.cx.plan hx.cx.big hsz
        refine wpAnyD_one (i := 32) (by kernel_rfl) rfl (by kernel_rfl) ?_
        go_simp
        refine hc.mono ?_
        rintro en v32 ⟨x32, rfl, hl32, bb⟩
        obtain ⟨la32, lc32, rfl, _, _⟩ := hl32.form
        replace hl32 := hl32.strs
        replace hx := hx.below bb
        have qS : (fun W => Blk W w.heap.size #[.string nm, .slice da dn dm, vt, .slice ca cn cm] 26 ∧ Blk W (w.heap.size + 1) (Xv.cells ⟨xop, xnm, kd, b3, ⟨a4, n4, m4⟩, b5, ⟨a6, n6, m6⟩, i7, ⟨a8, n8, m8⟩⟩) 45) v32 := ⟨hx.cx.box, hx.ebox⟩
        clear hc bb
        go_simp
        try refine ⟨qS, ?_⟩
        have hc := rcycle_any K p nm _ vt _ v32 hx.cx.plan hx.cx.big hsz
        refine wpAnyD_one (i := 34) (by kernel_rfl) rfl (by kernel_rfl) ?_
        go_simp
        refine hc.mono ?_
        rintro en v34 ⟨x34, rfl, hl34, bb⟩
        obtain ⟨la34, lc34, rfl, _, _⟩ := hl34.form
        replace hl34 := hl34
        replace hx := hx.below bb
        replace hl32 := hl32.self bb
        have qS : (fun W => Blk W w.heap.size #[.string nm, .slice da dn dm, vt, .slice ca cn cm] 26 ∧ Blk W (w.heap.size + 1) (Xv.cells ⟨xop, xnm, kd, b3, ⟨a4, n4, m4⟩, b5, ⟨a6, n6, m6⟩, i7, ⟨a8, n8, m8⟩⟩) 45) v34 := ⟨hx.cx.box, hx.ebox⟩
        clear hc bb
        go_simp
        try refine ⟨qS, ?_⟩
        have hc := lsame_refl _ hl32 hl34
        refine wpAnyD_one (i := 35) (by kernel_rfl) rfl (by kernel_rfl) ?_
        go_simp
        refine hc.mono ?_
        rintro en v35 ⟨rfl, bb⟩
        replace hx := hx.below bb
        have qS : (fun W => Blk W w.heap.size #[.string nm, .slice da dn dm, vt, .slice ca cn cm] 26 ∧ Blk W (w.heap.size + 1) (Xv.cells ⟨xop, xnm, kd, b3, ⟨a4, n4, m4⟩, b5, ⟨a6, n6, m6⟩, i7, ⟨a8, n8, m8⟩⟩) 45) v35 := ⟨hx.cx.box, hx.ebox⟩
        clear hc bb hl32 hl34
        go_simp
        try refine ⟨qS, ?_⟩
        refine wpAnyD_one (i := 36) (by kernel_rfl) rfl (by kernel_rfl) ?_
        go_simp
        try refine ⟨qS, ?_⟩
        refine wpAnyD_one (i := 37) (by kernel_rfl) rfl (by kernel_rfl) ?_
        go_simp
        try refine ⟨qS, ?_⟩
        refine wpAnyD_one (i := 38) (by kernel_rfl) rfl (by kernel_rfl) ?_
        go_simp
        refine (awake_any v35).mono ?_
        rintro en v38 ⟨rfl, bb⟩
        replace hx := hx.below bb
        have qS : (fun W => Blk W w.heap.size #[.string nm, .slice da dn dm, vt, .slice ca cn cm] 26 ∧ Blk W (w.heap.size + 1) (Xv.cells ⟨xop, xnm, kd, b3, ⟨a4, n4, m4⟩, b5, ⟨a6, n6, m6⟩, i7, ⟨a8, n8, m8⟩⟩) 45) v38 := ⟨hx.cx.box, hx.ebox⟩
        clear bb
        go_simp
        try refine ⟨qS, ?_⟩
        refine wpAnyD_one (i := 39) (by kernel_rfl) rfl (by kernel_rfl) ?_
        go_simp
        try refine ⟨qS, ?_⟩
        refine wpAnyD_one (i := 40) (by kernel_rfl) rfl (by kernel_rfl) ?_
        go_simp
        try refine ⟨qS, ?_⟩
        refine wpAnyD_done (by kernel_rfl) ?_ _
        refine onlyN_mk ?_
        go_simp
        try go_wp2_with fail
        go_ret
        exact ⟨rfl, hx.cx.bel⟩
end Go.Proofs.Ythbnbjigmgoldaa
