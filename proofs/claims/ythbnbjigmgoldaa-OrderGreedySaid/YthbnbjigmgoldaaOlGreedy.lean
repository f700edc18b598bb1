/- OrderGreedy: the walk. No conditions beyond the readings of the arguments. -/
import Derived.Test.YthbnbjigmgoldaaOlCx
import Derived.Test.YthbnbjigmgoldaaOlGreedyS
namespace Go.Proofs.Ythbnbjigmgoldaa
open Go.RowKit
set_option linter.unusedVariables false

set_option maxRecDepth 100000 in
set_option maxHeartbeats 4000000 in
theorem greedy_walk (K : Nat) (p : Pl) (nm : ByteArray) (vd vt vc : Value) (w : World) (h : PlanIs K w vd vc p) (hK : K ≤ w.heap.size) :
    Calls Try.prog 3 #[.agg #[.string nm, vd, vt, vc]] w fun e w' => e = .returned (.bool true) ∧ Below w.heap.size w w' := by
  obtain ⟨da, dn, dm, rfl⟩ : ∃ a n m, vd = .slice a n m := by obtain ⟨g, hg, _⟩ := h.1; obtain ⟨a, m, hv, _⟩ := hg.form; exact ⟨a, _, m, hv⟩
  obtain ⟨ca, cn, cm, rfl⟩ : ∃ a n m, vc = .slice a n m := by obtain ⟨g, hg, _⟩ := h.2; obtain ⟨a, m, hv, _⟩ := hg.form; exact ⟨a, _, m, hv⟩
  have hx := Cx.start (nm := nm) (vt := vt) h hK
  obtain ⟨W1, hW1⟩ : ∃ W1, w.alloc (.cells #[.string nm, .slice da dn dm, vt, .slice ca cn cm] 26) = W1 := ⟨_, rfl⟩
  rw [hW1] at hx
  have HW1 := Lib.hid hW1
  clear hW1
  obtain ⟨d0, d1, d2, d3⟩ := hx.box.four
  have hf := few_any K p nm _ vt _ W1 hx.plan hx.big
  go_enter Try.func3, Try.ntmps3
  go_wp2_with fail
  rw [HW1.out]
  go_wp2_with fail
  refine hf.mono ?_
  rintro e w2 ⟨rfl, b2⟩
  replace hx := hx.below b2
  obtain ⟨fb, hfb⟩ : ∃ fb, fewB p = fb := ⟨_, rfl⟩
  rw [hfb]
  clear hf b2 d0 d1 d2 d3
  cases fb with
  | false =>
    go_wp2_with fail
    refine (awake_any w2).mono ?_
    rintro e w3 ⟨rfl, b3⟩
    go_wp2_with fail
    go_ret
    exact ⟨rfl, (hx.below b3).bel⟩
  | true =>
    have hsz := few_size hfb
    have hnl := few_names hfb
    have hdl := (few_parts hfb).1
    have HFB := Lib.hid hfb
    clear hfb
    obtain ⟨d0, d1, d2, d3⟩ := hx.box.four
    have hc := names_any K p nm _ vt (.slice ca cn cm) w2 hx.plan.1 hx.big (by omega)
    go_wp2_with fail
    refine hc.mono ?_
    rintro e w3 ⟨x3, rfl, hn3, b3⟩
    obtain ⟨na, nc, rfl, hn1, hn2⟩ := hn3.form
    replace hx := hx.below b3
    have hns : Strs w3.heap.size w3 (.slice na (names p).length nc) (names p) := hn3.strs
    clear hc b3 hn3 d0 d1 d2 d3
    obtain ⟨d0, d1, d2, d3⟩ := hx.box.four
    have hc := order_any K p nm _ vt _ w3 hx.plan hx.big hsz
    go_wp2_with fail
    refine hc.mono ?_
    rintro e w4 ⟨x4, rfl, hl4, b4⟩
    obtain ⟨la, lc, rfl, hl1, hl2⟩ := hl4.form
    replace hx := hx.below b4
    replace hns := hns.self b4
    have hls : Strs w4.heap.size w4 (.slice la (orderL p).length lc) (orderL p) := hl4.strs
    have hoL : (orderL p).length ≤ 40 := by
      cases hob : ordB p with
      | true => rw [orderL_length hob]; exact hnl
      | false => rw [orderL_no hob]; simp
    have hG : ∀ i k, i < k → k < (orderL p).length → ∃ a b : Nat, idxI (names p) ((orderL p)[k]?.getD []) = a ∧ idxI (names p) ((orderL p)[i]?.getD []) = b ∧
        (¬ b < a → ((depends p ((orderL p)[k]?.getD [])).any fun d => decide ((i : Int) ≤ idxI (orderL p) d)) = true) := fun i k h1 h2 => greedy_any h1 h2
    clear hc b4 hl4 d0 d1 d2 d3
    unfold maxLen at hn2 hl2
    obtain ⟨N0, hN0⟩ : ∃ N0, w4.heap.size = N0 := ⟨_, rfl⟩
    rw [hN0] at hns hls
    have hN5 : N0 ≤ w4.heap.size := by omega
    clear hN0
    obtain ⟨ns, hnsE⟩ : ∃ ns, names p = ns := ⟨_, rfl⟩
    obtain ⟨ls, hlsE⟩ : ∃ ls, orderL p = ls := ⟨_, rfl⟩
    rw [hnsE] at hns hn1 hnl ⊢
    simp only [hnsE, hlsE] at hG
    rw [hlsE] at hls hl1 hoL ⊢
    have HG := Lib.hid hG
    clear hnsE hlsE hG
    go_wp2_with fail
    go_loopw [25] (fun i wr => ∃ (k : Nat), k ≤ ls.length ∧ i = .int .i64 k ∧ Cx K nm (.slice da dn dm) vt (.slice ca cn cm) p w wr ∧ Strs N0 wr (.slice na ns.length nc) ns ∧ Strs N0 wr (.slice la ls.length lc) ls ∧ N0 ≤ wr.heap.size) (fun i _ => ls.length - (intOf i).toNat)
    case atStart => exact ⟨0, Nat.zero_le _, rfl, hx, hns, hls, hN5⟩
    case round =>
      obtain ⟨i, hk, rfl, hx, hns, hls, hN⟩ := hrel
      by_cases hlt : i < ls.length
      · obtain ⟨b, o, cap, he, _, _, hbK, hc⟩ := hls.pos (by omega)
        simp only [Value.slice.injEq, true_and] at he
        obtain ⟨rfl, rfl⟩ := he
        have c0 := hc i hlt
        have hsl : (ls[i]?.getD []).length ≤ maxLen := hls.len
        have HI : Hid (∀ k, i < k → k < ls.length → ∃ a b : Nat, idxI ns (ls[k]?.getD []) = a ∧ idxI ns (ls[i]?.getD []) = b ∧ (¬ b < a → ((depends p (ls[k]?.getD [])).any fun d => decide ((i : Int) ≤ idxI ls d)) = true)) := Lib.hid (HG.out i)
        obtain ⟨s, hs⟩ : ∃ s, ls[i]?.getD [] = s := ⟨_, rfl⟩
        rw [hs] at c0 hsl HI
        clear hc hs
        go_wp2_with fail
        clear c0
        obtain ⟨wo, rfl⟩ : ∃ wo : World, wo = wr := ⟨_, rfl⟩
        go_loopw [8] (fun kv wr => ∃ (j : Nat), i + 1 ≤ j ∧ j ≤ ls.length ∧ kv = .int .i64 j ∧ Cx K nm (.slice da dn dm) vt (.slice ca cn cm) p w wr ∧ Strs N0 wr (.slice na ns.length nc) ns ∧ Strs N0 wr (.slice (some ⟨b, o, none⟩) ls.length lc) ls ∧ N0 ≤ wr.heap.size) (fun kv _ => ls.length - (intOf kv).toNat)
        case atStart => exact ⟨i + 1, Nat.le_refl _, by omega, by go_num, hx, hns, hls, hN⟩
        case round =>
          obtain ⟨j, hj1, hj2, rfl, hx, hns, hls, hN⟩ := hrel
          by_cases hjl : j < ls.length
          · obtain ⟨b', o', cap', he, _, _, _, hc⟩ := hls.pos (by omega)
            simp only [Value.slice.injEq, Option.some.injEq, Addr.mk.injEq, and_true, true_and] at he
            obtain ⟨⟨rfl, rfl⟩, rfl⟩ := he
            have c1 := hc j hjl
            have hsl2 : (ls[j]?.getD []).length ≤ maxLen := hls.len
            obtain ⟨a, z, ha, hz, hab⟩ := HI.out j (by omega) hjl
            have hi0 := lindex_any N0 _ ns (ls[j]?.getD []) wr hns hsl2
            have hi1 := lindex_any N0 _ ns s wr hns hsl
            rw [ha] at hi0
            rw [hz] at hi1
            obtain ⟨s2, hs2⟩ : ∃ s, ls[j]?.getD [] = s := ⟨_, rfl⟩
            rw [hs2] at c1 hsl2 hi0 hab
            clear hc hs2 ha hz
            by_cases hza : z < a
            · have hza2 : (z : Int) < (a : Int) := by omega
              go_wp2_with fail
              refine hi0.mono ?_
              rintro e w6 ⟨rfl, rfl⟩
              go_wp2_with fail
              refine hi1.mono ?_
              rintro e w6 ⟨rfl, rfl⟩
              go_wp2_with fail
              exact ⟨⟨j + 1, by omega, by omega, by go_num, hx, hns, hls, hN⟩, by simp [intOf]; omega⟩
            · have hza2 : ¬ ((z : Int) < (a : Int)) := by omega
              have HW : Hid (((depends p s2).any fun d => decide ((i : Int) ≤ idxI ls d)) = true) := Lib.hid (hab hza)
              clear hab
              go_wp2_with fail
              refine hi0.mono ?_
              rintro e w6 ⟨rfl, rfl⟩
              go_wp2_with fail
              refine hi1.mono ?_
              rintro e w6 ⟨rfl, rfl⟩
              clear hi0 hi1
              go_upto_region 13 with fail
              refine wp_onlyN ?_
              refine region_plain (fun W => Blk W w.heap.size #[.string nm, .slice da dn dm, vt, .slice ca cn cm] 26 ∧ W.cell? ⟨b, o + j, none⟩ = some (S s2)) [] (by kernel_rfl) ?_
              have qS : (fun W => Blk W w.heap.size #[.string nm, .slice da dn dm, vt, .slice ca cn cm] 26 ∧ W.cell? ⟨b, o + j, none⟩ = some (S s2)) wr.drew := ⟨hx.box, c1⟩
              refine wpAnyD_take (i := 0) (v := .agg #[.string nm, .slice da dn dm, vt, .slice ca cn cm]) rfl (by kernel_rfl) (by kernel_rfl) (by kernel_rfl) (by kernel_rfl) (by kernel_rfl) (fun _ _ _ h => h) (.inl ⟨by kernel_rfl, fun W' hS => by obtain ⟨c0, c1, c2, c3⟩ := hS.1.four; go_simp⟩) qS ?_
              refine wpAnyD_take (i := 1) (v := .slice (some ⟨b, o, none⟩) ls.length lc) rfl (by kernel_rfl) (by kernel_rfl) (by kernel_rfl) (by kernel_rfl) (by kernel_rfl) (fun _ _ _ h => h) (.inl ⟨by kernel_rfl, fun W' hS => by go_simp⟩) qS ?_
              refine wpAnyD_take (i := 2) (v := .int .i64 j) rfl (by kernel_rfl) (by kernel_rfl) (by kernel_rfl) (by kernel_rfl) (by kernel_rfl) (fun _ _ _ h => h) (.inl ⟨by kernel_rfl, fun W' hS => by go_simp⟩) qS ?_
              refine wpAnyD_take (i := 3) (v := .pointer (some ⟨b, o + j, none⟩)) rfl (by kernel_rfl) (by kernel_rfl) (by kernel_rfl) (by kernel_rfl) (by kernel_rfl) (fun _ _ _ h => h) (.inl ⟨by kernel_rfl, fun W' hS => by go_simp⟩) qS ?_
              refine wpAnyD_take (i := 4) (v := S s2) rfl (by kernel_rfl) (by kernel_rfl) (by kernel_rfl) (by kernel_rfl) (by kernel_rfl) (fun _ _ _ h => h) (.inl ⟨by kernel_rfl, fun W' hS => by have c2 := hS.2; go_simp⟩) qS ?_
              refine wpAnyD_take (i := 7) (v := .int .i64 (0 : Nat)) rfl (by kernel_rfl) (by kernel_rfl) (by kernel_rfl) (by kernel_rfl) (by kernel_rfl) (fun _ _ _ h => h) (.inl ⟨by kernel_rfl, fun W' hS => by go_simp⟩) qS ?_
              have hx := hx.below (W' := wr.drew) (Below.refl _ wr).drew
              have hd := depends_any K p nm _ vt _ s2 wr.drew hx.plan hx.big hsz hsl2
              refine wpAnyD_one (i := 5) (by kernel_rfl) rfl (by kernel_rfl) ?_
              go_simp
              refine hd.mono ?_
              rintro e w8 ⟨x8, rfl, hd8, b8⟩
              obtain ⟨ea, ec, rfl, he1, he2⟩ := hd8.form
              have hx8 := hx.below b8
              have hns8 := hns.below (B := wr.heap.size) ((Below.refl _ wr).drew.trans b8) hN (Nat.le_refl _)
              have hls8 := hls.below (B := wr.heap.size) ((Below.refl _ wr).drew.trans b8) hN (Nat.le_refl _)
              have hds : Strs w8.heap.size w8 (.slice ea (depends p s2).length ec) (depends p s2) := hd8.strs
              have sz8 : wr.heap.size ≤ w8.heap.size := b8.size
              have qS8 : (fun W => Blk W w.heap.size #[.string nm, .slice da dn dm, vt, .slice ca cn cm] 26 ∧ W.cell? ⟨b, o + j, none⟩ = some (S s2)) w8 := ⟨hx8.box, (b8.cell (p := ⟨b, o + j, none⟩) (by show b < wr.heap.size; omega)).trans c1⟩
              obtain ⟨dl, hdlE⟩ : ∃ dl, depends p s2 = dl := ⟨_, rfl⟩
              rw [hdlE] at hds he1 HW ⊢
              unfold maxLen at he2
              clear hd8 hdlE hd b8 hx hns hls
              go_simp
              try refine ⟨qS8, ?_⟩
              refine wpAnyD_take (i := 6) (v := .int .i64 dl.length) rfl (by kernel_rfl) (by kernel_rfl) (by kernel_rfl) (by kernel_rfl) (by kernel_rfl) (fun _ _ _ h => h) (.inl ⟨by kernel_rfl, fun W' hS => by go_simp⟩) qS8 ?_
              clear qS8 qS
              refine wpAnyD_done (by kernel_rfl) ?_ _
              refine onlyN_mk ?_
              go_simp
              go_wp2_with fail
              clear c1
              go_loopw [9, 55] (fun bv q w9 => w8 = w9 ∧ ∃ (m : Nat) (bb : Bool), m ≤ dl.length ∧ q = .int .i64 m ∧ bv = .bool bb ∧ Hid (bb = (dl.take m).any fun d => decide ((i : Int) ≤ idxI ls d))) (fun _ q _ => dl.length - (intOf q).toNat)
              case atStart => exact ⟨rfl, 0, false, Nat.zero_le _, rfl, rfl, Lib.hid (by simp)⟩
              case round =>
                obtain ⟨rfl, m, bb, hm, rfl, rfl, HBB⟩ := hrel
                by_cases hml : m < dl.length
                · obtain ⟨b2, o2, cap2, he, _, _, _, hc2⟩ := hds.pos (by omega)
                  simp only [Value.slice.injEq, true_and] at he
                  obtain ⟨rfl, rfl⟩ := he
                  have c2 := hc2 m hml
                  have hdl2 : (dl[m]?.getD []).length ≤ maxLen := hds.len
                  have hi2 := lindex_any N0 _ ls (dl[m]?.getD []) w8 hls8 hds.len
                  have hts : (dl.take (m + 1)).any (fun d => decide ((i : Int) ≤ idxI ls d)) = (bb || decide ((i : Int) ≤ idxI ls (dl[m]?.getD []))) := by
                    rw [List.take_succ_eq_append_getElem hml, List.any_append, ← HBB.out, List.getElem?_eq_getElem hml]; simp
                  obtain ⟨d, hd⟩ : ∃ d, dl[m]?.getD [] = d := ⟨_, rfl⟩
                  rw [hd] at c2 hdl2 hi2 hts
                  obtain ⟨zi, hzi⟩ : ∃ zi, idxI ls d = zi := ⟨_, rfl⟩
                  rw [hzi] at hi2 hts
                  have HTS := Lib.hid hts
                  clear hc2 hd hts hzi
                  cases bb with
                  | true =>
                    go_wp2_with fail
                    exact ⟨⟨by first | trivial | rfl, m + 1, true, by omega, by go_num, rfl, Lib.hid (by rw [HTS.out]; rfl)⟩, by simp [intOf]; omega⟩
                  | false =>
                    go_wp2_with fail
                    refine hi2.mono ?_
                    rintro e w6 ⟨rfl, rfl⟩
                    clear hi2 c2
                    go_wp2_with fail
                    exact ⟨⟨by first | trivial | rfl, m + 1, _, by omega, by go_num, rfl, Lib.hid (by rw [HTS.out]; simp)⟩, by simp [intOf]; omega⟩
                · obtain rfl : m = dl.length := by omega
                  have hbt : bb = true := by rw [HBB.out, List.take_length]; exact HW.out
                  subst hbt
                  go_wp2_with fail
                  exact ⟨⟨j + 1, by omega, by omega, by go_num, hx8, hns8, hls8, by omega⟩, by simp [intOf]; omega⟩
          · obtain rfl : j = ls.length := by omega
            go_wp2_with fail
            exact ⟨⟨i + 1, by omega, by go_num, hx, hns, hls, hN⟩, by simp [intOf]; omega⟩
      · obtain rfl : i = ls.length := by omega
        go_wp2_with fail
        refine (awake_any wr).mono ?_
        rintro e w7 ⟨rfl, b7⟩
        go_wp2_with fail
        go_ret
        exact ⟨rfl, (hx.below b7).bel⟩
end Go.Proofs.Ythbnbjigmgoldaa
