/- OrderSorts: the walk. No conditions beyond the readings of the arguments. -/
import Derived.Test.YthbnbjigmgoldaaOlCx
import Derived.Test.YthbnbjigmgoldaaOlSortS
namespace Go.Proofs.Ythbnbjigmgoldaa
open Go.RowKit
set_option linter.unusedVariables false

set_option maxRecDepth 100000 in
set_option maxHeartbeats 4000000 in
theorem sorts_cyc (K : Nat) (p : Pl) (nm : ByteArray) (vd vt vc : Value) (w : World) (h : PlanIs K w vd vc p) (hob : ordB p = false) (hK : K ≤ w.heap.size) :
    Calls Try.prog 5 #[.agg #[.string nm, vd, vt, vc]] w fun e w' => e = .returned (.bool true) ∧ Below w.heap.size w w' := by
  obtain ⟨da, dn, dm, rfl⟩ : ∃ a n m, vd = .slice a n m := by obtain ⟨g, hg, _⟩ := h.1; obtain ⟨a, m, hv, _⟩ := hg.form; exact ⟨a, _, m, hv⟩
  obtain ⟨ca, cn, cm, rfl⟩ : ∃ a n m, vc = .slice a n m := by obtain ⟨g, hg, _⟩ := h.2; obtain ⟨a, m, hv, _⟩ := hg.form; exact ⟨a, _, m, hv⟩
  have hx := Cx.start (nm := nm) (vt := vt) h hK
  obtain ⟨W1, hW1⟩ : ∃ W1, w.alloc (.cells #[.string nm, .slice da dn dm, vt, .slice ca cn cm] 26) = W1 := ⟨_, rfl⟩
  rw [hW1] at hx
  have HW1 := Lib.hid hW1
  clear hW1
  obtain ⟨d0, d1, d2, d3⟩ := hx.box.four
  have hf := few_any K p nm _ vt _ W1 hx.plan hx.big
  go_enter Try.func5, Try.ntmps5
  go_wp2_with fail
  rw [HW1.out]
  go_wp2_with fail
  refine hf.mono ?_
  rintro e w2 ⟨rfl, b2⟩
  replace hx := hx.below b2
  obtain ⟨fb, hfb⟩ : ∃ fb, fewB p = fb := ⟨_, rfl⟩
  rw [hfb]
  clear hf b2 d0 d1 d2 d3
  cases fb with
  | false =>
    go_wp2_with fail
    refine (awake_any w2).mono ?_
    rintro e w3 ⟨rfl, b3⟩
    go_wp2_with fail
    go_ret
    exact ⟨rfl, (hx.below b3).bel⟩
  | true =>
    have hsz := few_size hfb
    have hnl := few_names hfb
    have hdl := (few_parts hfb).1
    have HFB := Lib.hid hfb
    clear hfb
    obtain ⟨d0, d1, d2, d3⟩ := hx.box.four
    have hc := names_any K p nm _ vt (.slice ca cn cm) w2 hx.plan.1 hx.big (by omega)
    go_wp2_with fail
    refine hc.mono ?_
    rintro e w3 ⟨x3, rfl, hn3, b3⟩
    obtain ⟨na, nc, rfl, hn1, hn2⟩ := hn3.form
    replace hx := hx.below b3
    have hns : Strs w3.heap.size w3 (.slice na (names p).length nc) (names p) := hn3.strs
    clear hc b3 hn3 d0 d1 d2 d3
    obtain ⟨d0, d1, d2, d3⟩ := hx.box.four
    have hc := order_any K p nm _ vt _ w3 hx.plan hx.big hsz
    go_wp2_with fail
    refine hc.mono ?_
    rintro e w4 ⟨x4, rfl, hl4, b4⟩
    obtain ⟨la, lc, rfl, hl1, hl2⟩ := hl4.form
    replace hx := hx.below b4
    replace hns := hns.self b4
    have hls : Strs w4.heap.size w4 (.slice la (orderL p).length lc) (orderL p) := hl4.strs
    clear hc b4 hl4 d0 d1 d2 d3
    obtain ⟨d0, d1, d2, d3⟩ := hx.box.four
    have hc := cycle_any K p nm _ vt _ w4 hx.plan hx.big hsz
    go_wp2_with fail
    refine hc.mono ?_
    rintro e w5 ⟨x5, rfl, hc5, b5⟩
    obtain ⟨sa, sc, rfl, hs1, hs2⟩ := hc5.form
    replace hx := hx.below b5
    replace hns := hns.self b5
    replace hls := hls.self b5
    have hcs : Strs w5.heap.size w5 (.slice sa (cycle p).length sc) (cycle p) := hc5.strs
    clear hc b5 hc5 d0 d1 d2 d3
    unfold maxLen at hn2 hl2 hs2
    obtain ⟨N0, hN0⟩ : ∃ N0, w5.heap.size = N0 := ⟨_, rfl⟩
    rw [hN0] at hns hls hcs
    have hN5 : N0 ≤ w5.heap.size := by omega
    clear hN0
    obtain ⟨hc0, hcl, hck⟩ := sorts_cycle hob
    rw [orderE_no hob, orderL_no hob]
    rw [orderL_no hob] at hl1
    simp only [List.length_nil] at hl1 ⊢
    clear hls hob
    obtain ⟨ns, hnsE⟩ : ∃ ns, names p = ns := ⟨_, rfl⟩
    obtain ⟨cs, hcsE⟩ : ∃ cs, cycle p = cs := ⟨_, rfl⟩
    rw [hnsE] at hns hn1 hnl hcl hck ⊢
    rw [hcsE] at hcs hs1 hc0 hcl hck ⊢
    have HCK := Lib.hid hck
    clear hnsE hcsE hck
    have hcz : ¬ ((cs.length : Int) = 0) := by omega
    go_wp2_with fail
    go_loopw [43] (fun i wr => ∃ (k : Nat), k ≤ cs.length ∧ i = .int .i64 k ∧ Cx K nm (.slice da dn dm) vt (.slice ca cn cm) p w wr ∧ Strs N0 wr (.slice na ns.length nc) ns ∧ Strs N0 wr (.slice sa cs.length sc) cs ∧ N0 ≤ wr.heap.size) (fun i _ => cs.length - (intOf i).toNat)
    case atStart => exact ⟨0, Nat.zero_le _, rfl, hx, hns, hcs, hN5⟩
    case round =>
      obtain ⟨k, hk, rfl, hx, hns, hcs, hN⟩ := hrel
      by_cases hlt : k < cs.length
      · obtain ⟨⟨hI0, q1, hI1⟩, q2, hI2⟩ : (idxI cs (cs[k]?.getD []) = (k : Nat) ∧ ∃ q : Nat, idxI ns (cs[k]?.getD []) = q) ∧ ∃ q : Nat, idxI (depends p (cs[k]?.getD [])) (cs[(k + 1) % cs.length]?.getD []) = q := ⟨⟨(HCK.out k hlt).1, (HCK.out k hlt).2.1⟩, (HCK.out k hlt).2.2⟩
        have hmod : (k + 1) % cs.length < cs.length := Nat.mod_lt _ (by omega)
        have hi0 := lindex_any N0 _ cs (cs[k]?.getD []) wr.drew hcs hcs.len
        have hi1 := lindex_any N0 _ ns (cs[k]?.getD []) wr.drew hns hcs.len
        rw [hI0] at hi0
        rw [hI1] at hi1
        obtain ⟨b, o, cap, he, _, _, hbK, hc⟩ := hcs.pos (by omega)
        simp only [Value.slice.injEq, true_and] at he
        obtain ⟨rfl, rfl⟩ := he
        have c0 := hc k hlt
        have c1 := hc _ hmod
        have hsl : (cs[k]?.getD []).length ≤ maxLen := hcs.len
        have hsl2 : (cs[(k + 1) % cs.length]?.getD []).length ≤ maxLen := hcs.len
        have hrem : Int.tmod ((k : Int) + 1) (cs.length : Int) = (((k + 1) % cs.length : Nat) : Int) := by rw [Int.natCast_emod, Int.natCast_add, Int.natCast_one]; exact Int.tmod_eq_emod_of_nonneg (by omega)
        obtain ⟨s, hs⟩ : ∃ s, cs[k]?.getD [] = s := ⟨_, rfl⟩
        obtain ⟨s2, hs2⟩ : ∃ s, cs[(k + 1) % cs.length]?.getD [] = s := ⟨_, rfl⟩
        rw [hs] at c0 hsl hi0 hi1 hI2
        rw [hs2] at c1 hsl2 hI2
        obtain ⟨m2, hm2⟩ : ∃ m, (k + 1) % cs.length = m := ⟨_, rfl⟩
        rw [hm2] at c1 hmod hrem
        clear hc hs hs2 hm2 hI0 hI1
        have hw1 : IntKind.i64.wrap ((k : Int) + 1) = (k : Int) + 1 := IntWalk.i64_in _ (by omega)
        have hcn : ¬ cs = [] := fun e => by rw [e] at hc0; simp at hc0
        go_upto_region 12 with fail
        refine wp_onlyN ?_
        refine region_plain (fun W => Blk W w.heap.size #[.string nm, .slice da dn dm, vt, .slice ca cn cm] 26 ∧ W.cell? ⟨b, o + m2, none⟩ = some (S s2)) [] (by kernel_rfl) ?_
        have qS : (fun W => Blk W w.heap.size #[.string nm, .slice da dn dm, vt, .slice ca cn cm] 26 ∧ W.cell? ⟨b, o + m2, none⟩ = some (S s2)) wr.drew := ⟨hx.box, c1⟩
        refine wpAnyD_take (i := 0) (v := .slice (some ⟨b, o, none⟩) cs.length sc) rfl (by kernel_rfl) (by kernel_rfl) (by kernel_rfl) (by kernel_rfl) (by kernel_rfl) (fun _ _ _ h => h) (.inl ⟨by kernel_rfl, fun W' hS => by go_simp⟩) qS ?_
        refine wpAnyD_take (i := 1) (v := S s) rfl (by kernel_rfl) (by kernel_rfl) (by kernel_rfl) (by kernel_rfl) (by kernel_rfl) (fun _ _ _ h => h) (.inl ⟨by kernel_rfl, fun W' hS => by go_simp⟩) qS ?_
        refine wpAnyD_take (i := 3) (v := .int .i64 k) rfl (by kernel_rfl) (by kernel_rfl) (by kernel_rfl) (by kernel_rfl) (by kernel_rfl) (fun _ _ _ h => h) (.inl ⟨by kernel_rfl, fun W' hS => by go_simp⟩) qS ?_
        refine wpAnyD_one (i := 2) (by kernel_rfl) rfl (by kernel_rfl) ?_
        go_simp
        refine hi0.mono ?_
        rintro e w6 ⟨rfl, rfl⟩
        go_simp
        try refine ⟨qS, ?_⟩
        refine wpAnyD_take (i := 4) (v := .bool false) rfl (by kernel_rfl) (by kernel_rfl) (by kernel_rfl) (by kernel_rfl) (by kernel_rfl) (fun _ _ _ h => h) (.inl ⟨by kernel_rfl, fun W' hS => by go_simp⟩) qS ?_
        refine wpAnyD_take (i := 5) (v := .bool false) rfl (by kernel_rfl) (by kernel_rfl) (by kernel_rfl) (by kernel_rfl) (by kernel_rfl) (fun _ _ _ h => h) (.inl ⟨by kernel_rfl, fun W' hS => by go_simp⟩) qS ?_
        refine wpAnyD_take (i := 6) (v := .slice na ns.length nc) rfl (by kernel_rfl) (by kernel_rfl) (by kernel_rfl) (by kernel_rfl) (by kernel_rfl) (fun _ _ _ h => h) (.inl ⟨by kernel_rfl, fun W' hS => by go_simp⟩) qS ?_
        refine wpAnyD_take (i := 7) (v := S s) rfl (by kernel_rfl) (by kernel_rfl) (by kernel_rfl) (by kernel_rfl) (by kernel_rfl) (fun _ _ _ h => h) (.inl ⟨by kernel_rfl, fun W' hS => by go_simp⟩) qS ?_
        refine wpAnyD_one (i := 8) (by kernel_rfl) rfl (by kernel_rfl) ?_
        go_simp
        refine hi1.mono ?_
        rintro e w7 ⟨rfl, rfl⟩
        go_simp
        try refine ⟨qS, ?_⟩
        refine wpAnyD_take (i := 9) (v := .bool false) rfl (by kernel_rfl) (by kernel_rfl) (by kernel_rfl) (by kernel_rfl) (by kernel_rfl) (fun _ _ _ h => h) (.inl ⟨by kernel_rfl, fun W' hS => by go_simp⟩) qS ?_
        refine wpAnyD_take (i := 10) (v := .bool false) rfl (by kernel_rfl) (by kernel_rfl) (by kernel_rfl) (by kernel_rfl) (by kernel_rfl) (fun _ _ _ h => h) (.inl ⟨by kernel_rfl, fun W' hS => by go_simp⟩) qS ?_
        refine wpAnyD_take (i := 11) (v := .bool false) rfl (by kernel_rfl) (by kernel_rfl) (by kernel_rfl) (by kernel_rfl) (by kernel_rfl) (fun _ _ _ h => h) (.inl ⟨by kernel_rfl, fun W' hS => by go_simp⟩) qS ?_
        refine wpAnyD_take (i := 12) (v := .agg #[.string nm, .slice da dn dm, vt, .slice ca cn cm]) rfl (by kernel_rfl) (by kernel_rfl) (by kernel_rfl) (by kernel_rfl) (by kernel_rfl) (fun _ _ _ h => h) (.inl ⟨by kernel_rfl, fun W' hS => by obtain ⟨c0, c1, c2, c3⟩ := hS.1.four; go_simp⟩) qS ?_
        refine wpAnyD_take (i := 13) (v := S s) rfl (by kernel_rfl) (by kernel_rfl) (by kernel_rfl) (by kernel_rfl) (by kernel_rfl) (fun _ _ _ h => h) (.inl ⟨by kernel_rfl, fun W' hS => by go_simp⟩) qS ?_
        refine wpAnyD_take (i := 15) (v := .slice (some ⟨b, o, none⟩) cs.length sc) rfl (by kernel_rfl) (by kernel_rfl) (by kernel_rfl) (by kernel_rfl) (by kernel_rfl) (fun _ _ _ h => h) (.inl ⟨by kernel_rfl, fun W' hS => by go_simp⟩) qS ?_
        refine wpAnyD_take (i := 16) (v := .int .i64 k) rfl (by kernel_rfl) (by kernel_rfl) (by kernel_rfl) (by kernel_rfl) (by kernel_rfl) (fun _ _ _ h => h) (.inl ⟨by kernel_rfl, fun W' hS => by go_simp⟩) qS ?_
        refine wpAnyD_take (i := 17) (v := .int .i64 (k + 1)) rfl (by kernel_rfl) (by kernel_rfl) (by kernel_rfl) (by kernel_rfl) (by kernel_rfl) (fun _ _ _ h => h) (.inl ⟨by kernel_rfl, fun W' hS => by go_simp⟩) qS ?_
        refine wpAnyD_take (i := 18) (v := .slice (some ⟨b, o, none⟩) cs.length sc) rfl (by kernel_rfl) (by kernel_rfl) (by kernel_rfl) (by kernel_rfl) (by kernel_rfl) (fun _ _ _ h => h) (.inl ⟨by kernel_rfl, fun W' hS => by go_simp⟩) qS ?_
        refine wpAnyD_take (i := 19) (v := .int .i64 cs.length) rfl (by kernel_rfl) (by kernel_rfl) (by kernel_rfl) (by kernel_rfl) (by kernel_rfl) (fun _ _ _ h => h) (.inl ⟨by kernel_rfl, fun W' hS => by go_simp⟩) qS ?_
        refine wpAnyD_take (i := 20) (v := .int .i64 m2) rfl (by kernel_rfl) (by kernel_rfl) (by kernel_rfl) (by kernel_rfl) (by kernel_rfl) (fun _ _ _ h => h) (.inl ⟨by kernel_rfl, fun W' hS => by go_simp⟩) qS ?_
        refine wpAnyD_take (i := 21) (v := .pointer (some ⟨b, o + m2, none⟩)) rfl (by kernel_rfl) (by kernel_rfl) (by kernel_rfl) (by kernel_rfl) (by kernel_rfl) (fun _ _ _ h => h) (.inl ⟨by kernel_rfl, fun W' hS => by go_simp⟩) qS ?_
        refine wpAnyD_take (i := 22) (v := S s2) rfl (by kernel_rfl) (by kernel_rfl) (by kernel_rfl) (by kernel_rfl) (by kernel_rfl) (fun _ _ _ h => h) (.inl ⟨by kernel_rfl, fun W' hS => by have c2 := hS.2; go_simp⟩) qS ?_
        have hx := hx.below (W' := wr.drew) (Below.refl _ wr).drew
        have hd := depends_any K p nm _ vt _ s wr.drew hx.plan hx.big hsz hsl
        refine wpAnyD_one (i := 14) (by kernel_rfl) rfl (by kernel_rfl) ?_
        go_simp
        refine hd.mono ?_
        rintro e w8 ⟨x8, rfl, hd8, b8⟩
        obtain ⟨ea, ec, rfl, _, _⟩ := hd8.form
        have hx8 := hx.below b8
        have hns8 := hns.below (B := wr.heap.size) ((Below.refl _ wr).drew.trans b8) hN (Nat.le_refl _)
        have hcs8 := hcs.below (B := wr.heap.size) ((Below.refl _ wr).drew.trans b8) hN (Nat.le_refl _)
        have hi2 := lindex_any w8.heap.size _ (depends p s) s2 w8 hd8.strs hsl2
        rw [hI2] at hi2
        have sz8 : wr.heap.size ≤ w8.heap.size := b8.size
        have qS8 : (fun W => Blk W w.heap.size #[.string nm, .slice da dn dm, vt, .slice ca cn cm] 26 ∧ W.cell? ⟨b, o + m2, none⟩ = some (S s2)) w8 := ⟨hx8.box, (b8.cell (p := ⟨b, o + m2, none⟩) (by show b < wr.heap.size; omega)).trans c1⟩
        go_simp
        try refine ⟨qS8, ?_⟩
        refine wpAnyD_one (i := 23) (by kernel_rfl) rfl (by kernel_rfl) ?_
        go_simp
        refine hi2.mono ?_
        rintro e w9 ⟨rfl, rfl⟩
        go_simp
        try refine ⟨qS8, ?_⟩
        refine wpAnyD_take (i := 24) (v := .bool false) rfl (by kernel_rfl) (by kernel_rfl) (by kernel_rfl) (by kernel_rfl) (by kernel_rfl) (fun _ _ _ h => h) (.inl ⟨by kernel_rfl, fun W' hS => by go_simp⟩) qS8 ?_
        refine wpAnyD_take (i := 25) (v := .bool false) rfl (by kernel_rfl) (by kernel_rfl) (by kernel_rfl) (by kernel_rfl) (by kernel_rfl) (fun _ _ _ h => h) (.inl ⟨by kernel_rfl, fun W' hS => by go_simp⟩) qS8 ?_
        refine wpAnyD_done (by kernel_rfl) ?_ _
        refine onlyN_mk ?_
        go_simp
        go_wp2_with fail
        exact ⟨⟨_, _, _, _, ⟨k + 1, by omega, by go_num, by omega⟩, rfl, rfl, rfl, rfl⟩, by simp [intOf]; omega⟩
      · obtain rfl : k = cs.length := by omega
        go_wp2_with fail
        refine (awake_any wr).mono ?_
        rintro e w7 ⟨rfl, b7⟩
        go_wp2_with fail
        go_ret
        exact ⟨rfl, (hx.below b7).bel⟩

set_option maxRecDepth 100000 in
set_option maxHeartbeats 4000000 in
theorem sorts_ord (K : Nat) (p : Pl) (nm : ByteArray) (vd vt vc : Value) (w : World) (h : PlanIs K w vd vc p) (hob : ordB p = true) (hK : K ≤ w.heap.size) :
    Calls Try.prog 5 #[.agg #[.string nm, vd, vt, vc]] w fun e w' => e = .returned (.bool true) ∧ Below w.heap.size w w' := by
  obtain ⟨da, dn, dm, rfl⟩ : ∃ a n m, vd = .slice a n m := by obtain ⟨g, hg, _⟩ := h.1; obtain ⟨a, m, hv, _⟩ := hg.form; exact ⟨a, _, m, hv⟩
  obtain ⟨ca, cn, cm, rfl⟩ : ∃ a n m, vc = .slice a n m := by obtain ⟨g, hg, _⟩ := h.2; obtain ⟨a, m, hv, _⟩ := hg.form; exact ⟨a, _, m, hv⟩
  have hx := Cx.start (nm := nm) (vt := vt) h hK
  obtain ⟨W1, hW1⟩ : ∃ W1, w.alloc (.cells #[.string nm, .slice da dn dm, vt, .slice ca cn cm] 26) = W1 := ⟨_, rfl⟩
  rw [hW1] at hx
  have HW1 := Lib.hid hW1
  clear hW1
  obtain ⟨d0, d1, d2, d3⟩ := hx.box.four
  have hf := few_any K p nm _ vt _ W1 hx.plan hx.big
  go_enter Try.func5, Try.ntmps5
  go_wp2_with fail
  rw [HW1.out]
  go_wp2_with fail
  refine hf.mono ?_
  rintro e w2 ⟨rfl, b2⟩
  replace hx := hx.below b2
  obtain ⟨fb, hfb⟩ : ∃ fb, fewB p = fb := ⟨_, rfl⟩
  rw [hfb]
  clear hf b2 d0 d1 d2 d3
  cases fb with
  | false =>
    go_wp2_with fail
    refine (awake_any w2).mono ?_
    rintro e w3 ⟨rfl, b3⟩
    go_wp2_with fail
    go_ret
    exact ⟨rfl, (hx.below b3).bel⟩
  | true =>
    have hsz := few_size hfb
    have hnl := few_names hfb
    have hdl := (few_parts hfb).1
    have HFB := Lib.hid hfb
    clear hfb
    obtain ⟨d0, d1, d2, d3⟩ := hx.box.four
    have hc := names_any K p nm _ vt (.slice ca cn cm) w2 hx.plan.1 hx.big (by omega)
    go_wp2_with fail
    refine hc.mono ?_
    rintro e w3 ⟨x3, rfl, hn3, b3⟩
    obtain ⟨na, nc, rfl, hn1, hn2⟩ := hn3.form
    replace hx := hx.below b3
    have hns : Strs w3.heap.size w3 (.slice na (names p).length nc) (names p) := hn3.strs
    clear hc b3 hn3 d0 d1 d2 d3
    obtain ⟨d0, d1, d2, d3⟩ := hx.box.four
    have hc := order_any K p nm _ vt _ w3 hx.plan hx.big hsz
    go_wp2_with fail
    refine hc.mono ?_
    rintro e w4 ⟨x4, rfl, hl4, b4⟩
    obtain ⟨la, lc, rfl, hl1, hl2⟩ := hl4.form
    replace hx := hx.below b4
    replace hns := hns.self b4
    have hls : Strs w4.heap.size w4 (.slice la (orderL p).length lc) (orderL p) := hl4.strs
    clear hc b4 hl4 d0 d1 d2 d3
    obtain ⟨d0, d1, d2, d3⟩ := hx.box.four
    have hc := cycle_any K p nm _ vt _ w4 hx.plan hx.big hsz
    go_wp2_with fail
    refine hc.mono ?_
    rintro e w5 ⟨x5, rfl, hc5, b5⟩
    obtain ⟨sa, sc, rfl, hs1, hs2⟩ := hc5.form
    replace hx := hx.below b5
    replace hns := hns.self b5
    replace hls := hls.self b5
    have hcs : Strs w5.heap.size w5 (.slice sa (cycle p).length sc) (cycle p) := hc5.strs
    clear hc b5 hc5 d0 d1 d2 d3
    unfold maxLen at hn2 hl2 hs2
    obtain ⟨N0, hN0⟩ : ∃ N0, w5.heap.size = N0 := ⟨_, rfl⟩
    rw [hN0] at hns hls hcs
    have hN5 : N0 ≤ w5.heap.size := by omega
    clear hN0
    have hcy := cycle_of hob
    have hoL := orderL_length hob
    have hpos : ∀ k, k < (orderL p).length → idxI (orderL p) ((orderL p)[k]?.getD []) = (k : Nat) := fun k hk => idxI_get (orderL_nodup p) hk
    have hin : ∀ k, k < (orderL p).length → ∃ q : Nat, idxI (names p) ((orderL p)[k]?.getD []) = q := fun k hk => ⟨_, (Int.toNat_of_nonneg (idxI_mem.2 (orderL_names (s := (orderL p)[k]?.getD []) (by rw [List.getElem?_eq_getElem hk]; exact List.getElem_mem hk)))).symm⟩
    have hre : ∀ k, k < (orderL p).length → ∀ d ∈ reach p ((orderL p)[k]?.getD []), ∃ m, m < k ∧ idxI (orderL p) d = (m : Nat) := fun k hk d hd => sorts_reach hob hk hd
    rw [orderE_of hob]
    rw [hcy] at hs1 ⊢
    simp only [List.length_nil] at hs1 ⊢
    clear hcs hob hcy
    obtain ⟨ns, hnsE⟩ : ∃ ns, names p = ns := ⟨_, rfl⟩
    obtain ⟨ls, hlsE⟩ : ∃ ls, orderL p = ls := ⟨_, rfl⟩
    rw [hnsE] at hns hn1 hnl hoL ⊢
    simp only [hnsE] at hin
    rw [hlsE] at hls hl1 hoL ⊢
    simp only [hlsE] at hpos hin hre
    have HPOS := Lib.hid hpos
    have HIN := Lib.hid hin
    have HRE := Lib.hid hre
    have hlsl : ls.length ≤ 40 := by omega
    rw [hoL] at hls hl1 ⊢
    have HOL := Lib.hid hoL
    clear hnsE hlsE hpos hin hre hoL
    go_wp2_with fail
    go_loopw [88] (fun i wr => ∃ (k : Nat), k ≤ ns.length ∧ i = .int .i64 k ∧ Cx K nm (.slice da dn dm) vt (.slice ca cn cm) p w wr ∧ Strs N0 wr (.slice na ns.length nc) ns ∧ Strs N0 wr (.slice la ns.length lc) ls ∧ N0 ≤ wr.heap.size) (fun i _ => ns.length - (intOf i).toNat)
    case atStart => exact ⟨0, Nat.zero_le _, rfl, hx, hns, hls, hN5⟩
    case round =>
      obtain ⟨k, hk, rfl, hx, hns, hls, hN⟩ := hrel
      by_cases hlt : k < ns.length
      · have hkl : k < ls.length := by rw [HOL.out]; exact hlt
        obtain ⟨q1, hI1⟩ := HIN.out k hkl
        have hi0 := lindex_any N0 _ ls (ls[k]?.getD []) wr hls hls.len
        have hi1 := lindex_any N0 _ ns (ls[k]?.getD []) wr hns hls.len
        rw [HPOS.out k hkl] at hi0
        rw [hI1] at hi1
        obtain ⟨b, o, cap, he, _, _, hbK, hc⟩ := hls.pos (by omega)
        simp only [Value.slice.injEq] at he
        obtain ⟨rfl, h33, rfl⟩ := he
        clear h33
        have c0 := hc k hkl
        have hsl : (ls[k]?.getD []).length ≤ maxLen := hls.len
        have HR : Hid (∀ d ∈ reach p (ls[k]?.getD []), ∃ m, m < k ∧ idxI ls d = (m : Nat)) := Lib.hid (HRE.out k hkl)
        obtain ⟨s, hs⟩ : ∃ s, ls[k]?.getD [] = s := ⟨_, rfl⟩
        rw [hs] at c0 hsl hi0 hi1 HR
        obtain ⟨d0, d1, d2, d3⟩ := hx.box.four
        have hre := reach_any K p nm _ vt _ s wr hx.plan hx.big hsz hsl
        clear hc hs hI1
        go_wp2_with fail
        refine hi0.mono ?_
        rintro e w6 ⟨rfl, rfl⟩
        go_wp2_with fail
        refine hi1.mono ?_
        rintro e w6 ⟨rfl, rfl⟩
        go_wp2_with fail
        refine hre.mono ?_
        rintro e w7 ⟨x7, rfl, hr7, b7⟩
        obtain ⟨ra, rc, rfl, hr1, hr2⟩ := hr7.form
        have hx7 := hx.below b7
        have hns7 := hns.below b7 hN (Nat.le_refl _)
        have hls7 := hls.below b7 hN (Nat.le_refl _)
        have hrs : Strs w7.heap.size w7 (.slice ra (reach p s).length rc) (reach p s) := hr7.strs
        have sz7 : wr.heap.size ≤ w7.heap.size := b7.size
        obtain ⟨rl, hrl⟩ : ∃ rl, reach p s = rl := ⟨_, rfl⟩
        rw [hrl] at hrs hr1 HR ⊢
        unfold maxLen at hr2
        clear hre hi0 hi1 hrl hr7 b7 c0 d0 d1 d2 d3 hx hns hls
        go_wp2_with fail
        go_loopw [108] (fun i w8 => w7 = w8 ∧ ∃ (m : Nat), m ≤ rl.length ∧ i = .int .i64 m) (fun i _ => rl.length - (intOf i).toNat)
        case atStart => exact ⟨rfl, 0, Nat.zero_le _, rfl⟩
        case round =>
          obtain ⟨rfl, m, hm, rfl⟩ := hrel
          by_cases hml : m < rl.length
          · obtain ⟨b2, o2, cap2, he, _, _, _, hc2⟩ := hrs.pos (by omega)
            simp only [Value.slice.injEq, true_and] at he
            obtain ⟨rfl, rfl⟩ := he
            have c2 := hc2 m hml
            have hdl2 : (rl[m]?.getD []).length ≤ maxLen := hrs.len
            have hi2 := lindex_any N0 _ ls (rl[m]?.getD []) w7 hls7 hrs.len
            obtain ⟨m2, hm2, hI2⟩ := HR.out (rl[m]?.getD []) (by rw [List.getElem?_eq_getElem hml]; exact List.getElem_mem hml)
            rw [hI2] at hi2
            obtain ⟨d, hd⟩ : ∃ d, rl[m]?.getD [] = d := ⟨_, rfl⟩
            rw [hd] at c2 hdl2 hi2
            have hz1 : ¬ ((m2 : Int) < 0) := by omega
            have hz2 : ¬ ((k : Int) ≤ (m2 : Int)) := by omega
            clear hc2 hI2 hd
            go_wp2_with fail
            refine hi2.mono ?_
            rintro e w8 ⟨rfl, rfl⟩
            clear hi2 c2
            go_wp2_with fail
            exact ⟨⟨by first | trivial | rfl, m + 1, by omega, by go_num⟩, by simp [intOf]; omega⟩
          · obtain rfl : m = rl.length := by omega
            go_wp2_with fail
            exact ⟨⟨k + 1, by omega, by go_num, hx7, hns7, hls7, by omega⟩, by simp [intOf]; omega⟩
      · obtain rfl : k = ns.length := by omega
        go_wp2_with fail
        refine (awake_any wr).mono ?_
        rintro e w7 ⟨rfl, b7⟩
        go_wp2_with fail
        go_ret
        exact ⟨rfl, (hx.below b7).bel⟩
theorem sorts_walk (K : Nat) (p : Pl) (nm : ByteArray) (vd vt vc : Value) (w : World) (h : PlanIs K w vd vc p) (hK : K ≤ w.heap.size) :
    Calls Try.prog 5 #[.agg #[.string nm, vd, vt, vc]] w fun e w' => e = .returned (.bool true) ∧ Below w.heap.size w w' := by
  cases hob : ordB p with
  | false => exact sorts_cyc K p nm vd vt vc w h hob hK
  | true => exact sorts_ord K p nm vd vt vc w h hob hK
end Go.Proofs.Ythbnbjigmgoldaa
