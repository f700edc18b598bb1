/- OrderReach: the walk. No conditions beyond the readings of the arguments. -/
import Derived.Test.YthbnbjigmgoldaaOlCx
import Derived.Test.YthbnbjigmgoldaaOlRchS
namespace Go.Proofs.Ythbnbjigmgoldaa
open Go.RowKit
set_option linter.unusedVariables false
theorem Cx.grown {K : Nat} {nm : ByteArray} {vd vt vc : Value} {p : Pl} {w W W' : World} {M : Nat} (h : Cx K nm vd vt vc p w W) (hg : W.grownBy W' (some M)) (hM : w.heap.size < M) (hK : K ≤ w.heap.size) (hMW : M ≤ W.heap.size) : Cx K nm vd vt vc p w W' := by
  have hb : Below M W W' := below_grown hg (fun r e => by cases e; exact Nat.le_refl _) hMW
  exact ⟨h.bel.trans (hb.mono (by omega)), h.box.below hb hM, h.plan.below hb (by omega) (Nat.le_refl _), Nat.le_trans h.big hg.size⟩

set_option maxRecDepth 100000 in
set_option maxHeartbeats 4000000 in
theorem reach_walk (K : Nat) (p : Pl) (nm : ByteArray) (vd vt vc : Value) (a : Str) (w : World) (h : PlanIs K w vd vc p) (ha : a.length ≤ maxLen) (hK : K ≤ w.heap.size) :
    Calls Try.prog 7 #[.agg #[.string nm, vd, vt, vc], S a] w fun e w' => e = .returned (.bool true) ∧ Below w.heap.size w w' := by
  obtain ⟨da, dn, dm, rfl⟩ : ∃ a n m, vd = .slice a n m := by obtain ⟨g, hg, _⟩ := h.1; obtain ⟨a, m, hv, _⟩ := hg.form; exact ⟨a, _, m, hv⟩
  obtain ⟨ca, cn, cm, rfl⟩ : ∃ a n m, vc = .slice a n m := by obtain ⟨g, hg, _⟩ := h.2; obtain ⟨a, m, hv, _⟩ := hg.form; exact ⟨a, _, m, hv⟩
  have hx := Cx.start (nm := nm) (vt := vt) h hK
  obtain ⟨W1, hW1⟩ : ∃ W1, w.alloc (.cells #[.string nm, .slice da dn dm, vt, .slice ca cn cm] 26) = W1 := ⟨_, rfl⟩
  rw [hW1] at hx
  have HW1 := Lib.hid hW1
  clear hW1
  obtain ⟨d0, d1, d2, d3⟩ := hx.box.four
  have hf := few_any K p nm _ vt _ W1 hx.plan hx.big
  go_enter Try.func7, Try.ntmps7
  go_wp2_with fail
  rw [HW1.out]
  go_wp2_with fail
  refine hf.mono ?_
  rintro e w2 ⟨rfl, b2⟩
  replace hx := hx.below b2
  obtain ⟨fb, hfb⟩ : ∃ fb, fewB p = fb := ⟨_, rfl⟩
  rw [hfb]
  clear hf b2 d0 d1 d2 d3
  cases fb with
  | false =>
    go_wp2_with fail
    refine (awake_any w2).mono ?_
    rintro e w3 ⟨rfl, b3⟩
    go_wp2_with fail
    go_ret
    exact ⟨rfl, (hx.below b3).bel⟩
  | true =>
    have hsz := few_size hfb
    have hnl := few_names hfb
    have hdl := (few_parts hfb).1
    have HFB := Lib.hid hfb
    clear hfb
    obtain ⟨d0, d1, d2, d3⟩ := hx.box.four
    have hc := names_any K p nm _ vt (.slice ca cn cm) w2 hx.plan.1 hx.big (by omega)
    go_wp2_with fail
    refine hc.mono ?_
    rintro e w3 ⟨x3, rfl, hn3, b3⟩
    obtain ⟨na, nc, rfl, hn1, hn2⟩ := hn3.form
    replace hx := hx.below b3
    have hns : Strs w3.heap.size w3 (.slice na (names p).length nc) (names p) := hn3.strs
    clear hc b3 hn3 d0 d1 d2 d3
    go_upto_region 4 with fail
    refine wp_onlyN ?_
    refine region_plain (fun W => Blk W w.heap.size #[.string nm, .slice da dn dm, vt, .slice ca cn cm] 26) [] (by kernel_rfl) ?_
    have qS : (fun W => Blk W w.heap.size #[.string nm, .slice da dn dm, vt, .slice ca cn cm] 26) w3.drew := hx.box
    have hx4 := hx.below (W' := w3.drew) (Below.refl _ w3).drew
    have hns4 := hns.below (B := w3.heap.size) (Below.refl _ w3).drew (Nat.le_refl _) (Nat.le_refl _)
    have hd := depends_any K p nm _ vt _ a w3.drew hx4.plan hx4.big hsz ha
    refine wpAnyD_take (i := 0) (v := .agg #[.string nm, .slice da dn dm, vt, .slice ca cn cm]) rfl (by kernel_rfl) (by kernel_rfl) (by kernel_rfl) (by kernel_rfl) (by kernel_rfl) (fun _ _ _ h => h) (.inl ⟨by kernel_rfl, fun W' hS => by obtain ⟨c0, c1, c2, c3⟩ := Blk.four hS; go_simp⟩) qS ?_
    refine wpAnyD_take (i := 1) (v := S a) rfl (by kernel_rfl) (by kernel_rfl) (by kernel_rfl) (by kernel_rfl) (by kernel_rfl) (fun _ _ _ h => h) (.inl ⟨by kernel_rfl, fun W' hS => by go_simp⟩) qS ?_
    refine wpAnyD_take (i := 3) (v := .agg #[.string nm, .slice da dn dm, vt, .slice ca cn cm]) rfl (by kernel_rfl) (by kernel_rfl) (by kernel_rfl) (by kernel_rfl) (by kernel_rfl) (fun _ _ _ h => h) (.inl ⟨by kernel_rfl, fun W' hS => by obtain ⟨c0, c1, c2, c3⟩ := Blk.four hS; go_simp⟩) qS ?_
    refine wpAnyD_take (i := 4) (v := S a) rfl (by kernel_rfl) (by kernel_rfl) (by kernel_rfl) (by kernel_rfl) (by kernel_rfl) (fun _ _ _ h => h) (.inl ⟨by kernel_rfl, fun W' hS => by go_simp⟩) qS ?_
    refine wpAnyD_one (i := 2) (by kernel_rfl) rfl (by kernel_rfl) ?_
    go_simp
    refine hd.mono ?_
    rintro e w5 ⟨x5, rfl, hd5, b5⟩
    obtain ⟨ea, ec, rfl, he1, he2⟩ := hd5.form
    have hx5 := hx4.below b5
    have hns5 := Strs.self (w := w3.drew) hns4 b5
    have hds : Strs w5.heap.size w5 (.slice ea (depends p a).length ec) (depends p a) := hd5.strs
    have qS5 : (fun W => Blk W w.heap.size #[.string nm, .slice da dn dm, vt, .slice ca cn cm] 26) w5 := hx5.box
    have hr := reach_any K p nm _ vt _ a w5 hx5.plan hx5.big hsz ha
    clear hd5 hd b5 hx hx4 hns hns4
    go_simp
    try refine ⟨qS5, ?_⟩
    refine wpAnyD_one (i := 5) (by kernel_rfl) rfl (by kernel_rfl) ?_
    go_simp
    refine hr.mono ?_
    rintro e w6 ⟨x6, rfl, hr6, b6⟩
    obtain ⟨ra, rc, rfl, hr1, hr2⟩ := hr6.form
    have hx := hx5.below b6
    have hns := hns5.self b6
    have hds := hds.self b6
    have hrs : Strs w6.heap.size w6 (.slice ra (reach p a).length rc) (reach p a) := hr6.strs
    have qS6 : (fun W => Blk W w.heap.size #[.string nm, .slice da dn dm, vt, .slice ca cn cm] 26) w6 := hx.box
    clear hr6 hr b6 hx5 hns5
    go_simp
    try refine ⟨qS6, ?_⟩
    refine wpAnyD_one (i := 6) (by kernel_rfl) rfl (by kernel_rfl) ?_
    go_simp
    try refine ⟨qS6, ?_⟩
    refine wpAnyD_one (i := 7) (by kernel_rfl) rfl (by kernel_rfl) ?_
    go_simp
    try refine ⟨qS6, ?_⟩
    refine wpAnyD_done (by kernel_rfl) ?_ _
    refine onlyN_mk ?_
    go_simp
    have HD : Hid ((∀ m, m < (depends p a).length → 0 ≤ idxI (names p) ((depends p a)[m]?.getD [])) ∧ ∀ m, m + 1 < (depends p a).length → idxI (names p) ((depends p a)[m]?.getD []) < idxI (names p) ((depends p a)[m + 1]?.getD [])) := Lib.hid (incr_depends p a)
    have HR : Hid ((∀ m, m < (reach p a).length → 0 ≤ idxI (names p) ((reach p a)[m]?.getD [])) ∧ ∀ m, m + 1 < (reach p a).length → idxI (names p) ((reach p a)[m]?.getD []) < idxI (names p) ((reach p a)[m + 1]?.getD [])) := Lib.hid (incr_reach p a)
    have HSL : Hid ((dedup (seqOf p (depends p a))).length = (reach p a).length) := Lib.hid (seq_length p a)
    have HSM : Hid (∀ s, s ∈ reach p a → s ∈ seqOf p (depends p a)) := Lib.hid fun s hs => seq_mem.2 hs
    have hdl' := depends_length p a
    have hrl' := reach_length p a
    have HRL : Hid (∀ d, (reach p d).length ≤ 40) := Lib.hid fun d => Nat.le_trans (reach_length p d) hnl
    obtain ⟨ns, hnsE⟩ : ∃ ns, names p = ns := ⟨_, rfl⟩
    obtain ⟨ds, hdsE⟩ : ∃ ds, depends p a = ds := ⟨_, rfl⟩
    obtain ⟨rs, hrsE⟩ : ∃ rs, reach p a = rs := ⟨_, rfl⟩
    rw [hnsE] at hns hn1 hnl hdl' hrl' HD HR ⊢
    rw [hdsE] at hds he1 hdl' HD HSL HSM ⊢
    rw [hrsE] at hrs hr1 hrl' HR HSL HSM ⊢
    unfold maxLen at hn2 he2 hr2
    clear hnsE hdsE hrsE qS qS5 qS6
    obtain ⟨N0, hN0⟩ : ∃ N0, w6.heap.size = N0 := ⟨_, rfl⟩
    rw [hN0] at hns hds hrs
    have hwN : w.heap.size < N0 := by have := hx.lt; omega
    obtain ⟨W7, hW7⟩ : ∃ W7, w6.alloc (.cells #[.slice ea ds.length ec, .slice ra rs.length rc] 29) = W7 := ⟨_, rfl⟩
    have b7 : Below N0 w6 W7 := by rw [← hW7]; exact (Below.refl _ _).alloc (by omega) _
    have s7 : W7.heap.size = N0 + 1 := by rw [← hW7, ← hN0]; simp
    have q7 : Blk W7 N0 #[.slice ea ds.length ec, .slice ra rs.length rc] 29 := by rw [← hW7, ← hN0]; exact Blk.new w6 _ _
    have hx := hx.below (W' := W7) (by rw [hN0]; exact b7)
    have hns := hns.below b7 (Nat.le_refl _) (Nat.le_refl _)
    have hds := hds.below b7 (Nat.le_refl _) (Nat.le_refl _)
    have hrs := hrs.below b7 (Nat.le_refl _) (Nat.le_refl _)
    obtain ⟨g0, g1⟩ := q7.two
    have HW7 := Lib.hid hW7
    have HN0 := Lib.hid hN0
    clear hW7 hN0 b7 q7
    go_wp2_with fail
    simp only [HN0.out]
    rw [HW7.out]
    go_loopw [37] (fun i wr => W7 = wr ∧ ∃ j : Nat, j ≤ 2 ∧ i = .int .i64 j) (fun i _ => 2 - (intOf i).toNat)
    case atStart => exact ⟨rfl, 0, by omega, rfl⟩
    case round =>
      obtain ⟨rfl, j, hj, rfl⟩ := hrel
      obtain rfl | rfl | rfl : j = 0 ∨ j = 1 ∨ j = 2 := by omega
      · go_wp2_with fail
        go_loopw [10, 43] (fun lv q wr => W7 = wr ∧ ∃ (m : Nat) (z : Int), m ≤ ds.length ∧ q = .int .i64 m ∧ lv = .int .i64 z ∧ Hid (m < ds.length → z < idxI ns (ds[m]?.getD []))) (fun _ q _ => ds.length - (intOf q).toNat)
        case atStart => exact ⟨rfl, 0, -1, Nat.zero_le _, rfl, rfl, Lib.hid fun hm => by have := HD.out.1 0 hm; omega⟩
        case round =>
          obtain ⟨rfl, m, z, hm, rfl, rfl, HZ⟩ := hrel
          by_cases hml : m < ds.length
          · obtain ⟨b2, o2, cap2, he, _, _, _, hc2⟩ := hds.pos (by omega)
            simp only [Value.slice.injEq, true_and] at he
            obtain ⟨rfl, rfl⟩ := he
            have c2 := hc2 m hml
            have hdl2 : (ds[m]?.getD []).length ≤ maxLen := hds.len
            have hi2 := lindex_any N0 _ ns (ds[m]?.getD []) W7 hns hdl2
            have hzl := HZ.out hml
            have HNX : Hid (True → m + 1 < ds.length → idxI ns (ds[m]?.getD []) < idxI ns (ds[m + 1]?.getD [])) := Lib.hid fun _ => HD.out.2 m
            obtain ⟨d, hd⟩ : ∃ d, ds[m]?.getD [] = d := ⟨_, rfl⟩
            rw [hd] at c2 hdl2 hi2 hzl HNX
            obtain ⟨zi, hzi⟩ : ∃ zi, idxI ns d = zi := ⟨_, rfl⟩
            rw [hzi] at hi2 hzl HNX
            have hzn : ¬ (zi ≤ z) := by omega
            clear hc2 hd hzi hzl
            go_wp2_with fail
            refine hi2.mono ?_
            rintro e w8 ⟨rfl, rfl⟩
            clear hi2 c2
            go_wp2_with fail
            refine ⟨⟨_, _, _, _, _, _, _, _, _, _, _, _, _, _, _, _, ⟨trivial, m + 1, zi, ?_, ?_, rfl, Lib.hid (HNX.out trivial)⟩, rfl⟩, ?_⟩
            · omega
            · go_num
            · simp [intOf]; omega
          · obtain rfl : m = ds.length := by omega
            go_wp2_with fail
            exact ⟨⟨by first | trivial | rfl, 1, by omega, by go_num⟩, by simp [intOf]⟩
      · go_wp2_with fail
        go_loopw [10, 43] (fun lv q wr => W7 = wr ∧ ∃ (m : Nat) (z : Int), m ≤ rs.length ∧ q = .int .i64 m ∧ lv = .int .i64 z ∧ Hid (m < rs.length → z < idxI ns (rs[m]?.getD []))) (fun _ q _ => rs.length - (intOf q).toNat)
        case atStart => exact ⟨rfl, 0, -1, Nat.zero_le _, rfl, rfl, Lib.hid fun hm => by have := HR.out.1 0 hm; omega⟩
        case round =>
          obtain ⟨rfl, m, z, hm, rfl, rfl, HZ⟩ := hrel
          by_cases hml : m < rs.length
          · obtain ⟨b2, o2, cap2, he, _, _, _, hc2⟩ := hrs.pos (by omega)
            simp only [Value.slice.injEq, true_and] at he
            obtain ⟨rfl, rfl⟩ := he
            have c2 := hc2 m hml
            have hdl2 : (rs[m]?.getD []).length ≤ maxLen := hrs.len
            have hi2 := lindex_any N0 _ ns (rs[m]?.getD []) W7 hns hdl2
            have hzl := HZ.out hml
            have HNX : Hid (True → m + 1 < rs.length → idxI ns (rs[m]?.getD []) < idxI ns (rs[m + 1]?.getD [])) := Lib.hid fun _ => HR.out.2 m
            obtain ⟨d, hd⟩ : ∃ d, rs[m]?.getD [] = d := ⟨_, rfl⟩
            rw [hd] at c2 hdl2 hi2 hzl HNX
            obtain ⟨zi, hzi⟩ : ∃ zi, idxI ns d = zi := ⟨_, rfl⟩
            rw [hzi] at hi2 hzl HNX
            have hzn : ¬ (zi ≤ z) := by omega
            clear hc2 hd hzi hzl
            go_wp2_with fail
            refine hi2.mono ?_
            rintro e w8 ⟨rfl, rfl⟩
            clear hi2 c2
            go_wp2_with fail
            refine ⟨⟨_, _, _, _, _, _, _, _, _, _, _, _, _, _, _, _, ⟨trivial, m + 1, zi, ?_, ?_, rfl, Lib.hid (HNX.out trivial)⟩, rfl⟩, ?_⟩
            · omega
            · go_num
            · simp [intOf]; omega
          · obtain rfl : m = rs.length := by omega
            go_wp2_with fail
            exact ⟨⟨by first | trivial | rfl, 2, by omega, by go_num⟩, by simp [intOf]⟩
      · have hmm := @run_makeMap Try.prog
        obtain ⟨W8, hW8⟩ : ∃ W8, W7.alloc (.map #[] 0) = W8 := ⟨_, rfl⟩
        have b8 : Below W7.heap.size W7 W8 := by rw [← hW8]; exact (Below.refl _ _).alloc (Nat.le_refl _) _
        have s8 : W8.heap.size = N0 + 2 := by rw [← hW8]; simp [s7]
        have hmp : MapIs W8 9 (N0 + 1) 0 (fS (cntF [])) := by
          rw [← hW8, ← cntF_nil, ← fS_none, ← s7]; exact MapIs.made W7 9
        have hx := hx.below b8
        have hds : Strs (N0 + 1) W8 (.slice ea ds.length ec) ds := hds.below b8 (by omega) (by omega)
        have hrs : Strs (N0 + 1) W8 (.slice ra rs.length rc) rs := hrs.below b8 (by omega) (by omega)
        have HW8 := Lib.hid hW8
        clear hW8 b8 g0 g1
        go_wp2_with fail
        rw [HW8.out]
        go_loopw [59] (fun i wr => ∃ (k : Nat), k ≤ ds.length ∧ i = .int .i64 k ∧ Cx K nm (.slice da dn dm) vt (.slice ca cn cm) p w wr ∧ MapIs wr 9 (N0 + 1) (dedup (seqOf p (ds.take k))).length (fS (cntF (seqOf p (ds.take k)))) ∧ Strs (N0 + 1) wr (.slice ea ds.length ec) ds ∧ Strs (N0 + 1) wr (.slice ra rs.length rc) rs ∧ N0 + 2 ≤ wr.heap.size) (fun i _ => ds.length - (intOf i).toNat)
        case atStart => exact ⟨0, Nat.zero_le _, rfl, hx, hmp, hds, hrs, by omega⟩
        case round =>
          obtain ⟨k, hk, rfl, hx, hmp, hds, hrs, hN⟩ := hrel
          by_cases hlt : k < ds.length
          · obtain ⟨b, o, cap, he, _, _, hbK, hc⟩ := hds.pos (by omega)
            simp only [Value.slice.injEq, true_and] at he
            obtain ⟨rfl, rfl⟩ := he
            have c0 := hc k hlt
            have hs : (ds[k]?.getD []).length ≤ maxLen := hds.len
            have hsq := seqOf_take p ds k hlt
            have hsl := seq_len_le p 40 (ds.take k) fun d _ => HRL.out d
            obtain ⟨sq, hsqE⟩ : ∃ sq, seqOf p (ds.take k) = sq := ⟨_, rfl⟩
            obtain ⟨s, hsE⟩ : ∃ s, ds[k]?.getD [] = s := ⟨_, rfl⟩
            rw [hsE] at c0 hs hsq
            rw [hsqE] at hmp hsq hsl
            have hsql : sq.length ≤ 2000 := by
              rw [List.length_take] at hsl
              have : min k ds.length * (40 + 1) ≤ 40 * (40 + 1) := Nat.mul_le_mul_right _ (by omega)
              omega
            have hcn : sq.count s ≤ sq.length := List.count_le_length
            have HGET : Hid ((fS (cntF sq) (.string s)).getD (.int .i64 0) = .int .i64 (sq.count s : Nat)) := Lib.hid (cntF_get sq s)
            have HUP := Lib.hid (cntF_upd sq s)
            have HSM2 := Lib.hid (cntF_some sq s)
            have HDL := Lib.hid (dedup_len_snoc sq s)
            obtain ⟨cq, hcqE⟩ : ∃ cq, sq.count s = cq := ⟨_, rfl⟩
            rw [hcqE] at HGET HUP hcn
            have hdd := dedup_length_le sq
            have hml : (dedup sq).length < maxLen := by unfold maxLen; omega
            have HM := Lib.hid hmp
            have HSQ := Lib.hid hsq
            have hw1 : IntKind.i64.wrap ((cq : Int) + 1) = (cq : Int) + 1 := IntWalk.i64_in _ (by omega)
            clear hc hsE hsqE hcqE hmp hsq hsl hdd
            go_upto_region 23 with (first
              | (at_lookup; refine wpList_look_M _ rfl _ _ 53 rfl _ keyS Try.underlying53 (Try.zeroValue3 _) rfl HM.out _ (.string s) rfl (keyOf_S s hs) (.int .i64 (cq : Nat)) HGET.out ?_)
              | (at_mapUpdate; refine wpList_put_M _ rfl _ _ _ 53 rfl _ keyS Try.underlying53 rfl HM.out hml _ (.string s) rfl (keyOf_S s hs) (.int .i64 ((cq : Int) + 1)) (by first | rfl | (simp [Act.eval, hw1])) ?_; intro w4 hm4 hg4))
            have hup2 : updF (cntF sq) s (.int .i64 ((cq : Int) + 1)) = cntF (sq ++ [s]) := HUP.out
            rw [upd_S, hup2, HSM2.out, HDL.out] at hm4
            have hx4 := hx.grown hg4 (by omega) hK (by omega)
            have hds4 := hds.below (below_grown (B := N0 + 1) hg4 (fun r e => by cases e; exact Nat.le_refl _) (by omega)) (Nat.le_refl _) (Nat.le_refl _)
            have hrs4 := hrs.below (below_grown (B := N0 + 1) hg4 (fun r e => by cases e; exact Nat.le_refl _) (by omega)) (Nat.le_refl _) (Nat.le_refl _)
            have hs4 := hg4.size
            obtain ⟨d0, d1, d2, d3⟩ := hx4.box.four
            have hre := reach_any K p nm _ vt _ s w4 hx4.plan hx4.big hsz hs
            have hrl2 := HRL.out s
            have hsql2 : (sq ++ [s]).length ≤ 2001 := by rw [List.length_append, List.length_singleton]; omega
            obtain ⟨sq1, hsq1⟩ : ∃ sq1, sq ++ [s] = sq1 := ⟨_, rfl⟩
            rw [hsq1] at hm4 hsql2 HSQ
            clear hup2 HUP HSM2 HDL HGET HM hsq1 hx hds hrs hg4 c0 hml hw1 hcn
            go_wp2_with fail
            refine hre.mono ?_
            rintro e w5 ⟨x5, rfl, hr5, b5⟩
            obtain ⟨fa, fc, rfl, hf1, hf2⟩ := hr5.form
            have hx5 := hx4.below b5
            have hds5 := hds4.below b5 (by omega) (Nat.le_refl _)
            have hrs5 := hrs4.below b5 (by omega) (Nat.le_refl _)
            have hm5 := hm4.below b5 (by omega)
            have hw45 := b5.size
            obtain ⟨fl, hfl⟩ : ∃ fl, reach p s = fl := ⟨_, rfl⟩
            rw [hfl] at hf1 hrl2 HSQ hr5 ⊢
            unfold maxLen at hf2
            clear hre hfl d0 d1 d2 d3 b5 hx4 hds4 hrs4 hm4
            go_wp2_with fail
            obtain ⟨wo, rfl⟩ : ∃ wo : World, wo = wr := ⟨_, rfl⟩
            go_loopw [71] (fun i wr => ∃ (m : Nat), m ≤ fl.length ∧ i = .int .i64 m ∧ Cx K nm (.slice da dn dm) vt (.slice ca cn cm) p w wr ∧ MapIs wr 9 (N0 + 1) (dedup (sq1 ++ fl.take m)).length (fS (cntF (sq1 ++ fl.take m))) ∧ Strs (N0 + 1) wr (.slice (some ⟨b, o, none⟩) ds.length ec) ds ∧ Strs (N0 + 1) wr (.slice ra rs.length rc) rs ∧ OwnS w4.heap.size wr (.slice fa fl.length fc) fl ∧ N0 + 2 ≤ wr.heap.size) (fun i _ => fl.length - (intOf i).toNat)
            case atStart => exact ⟨0, Nat.zero_le _, rfl, hx5, by simpa using hm5, hds5, hrs5, hr5, by omega⟩
            case round =>
              obtain ⟨m, hm, rfl, hx, hmp, hds, hrs, hown, hN2⟩ := hrel
              by_cases hml2 : m < fl.length
              · obtain ⟨b2, o2, cap2, he, _, _, _, hc2⟩ := hown.strs.pos (by omega)
                simp only [Value.slice.injEq, true_and] at he
                obtain ⟨rfl, rfl⟩ := he
                have c2 := hc2 m hml2
                have hs2 : (fl[m]?.getD []).length ≤ maxLen := hown.strs.len
                have HT : Hid (sq1 ++ fl.take (m + 1) = (sq1 ++ fl.take m) ++ [fl[m]?.getD []]) := Lib.hid (by
                  rw [List.take_succ_eq_append_getElem hml2, List.getElem?_eq_getElem hml2, List.append_assoc]; rfl)
                have hsql3 : (sq1 ++ fl.take m).length ≤ 3000 := by rw [List.length_append, List.length_take]; omega
                obtain ⟨sq, hsqE⟩ : ∃ sq, sq1 ++ fl.take m = sq := ⟨_, rfl⟩
                obtain ⟨s2, hsE⟩ : ∃ s, fl[m]?.getD [] = s := ⟨_, rfl⟩
                rw [hsE] at c2 hs2 HT
                rw [hsqE] at hmp HT hsql3
                have hcn : sq.count s2 ≤ sq.length := List.count_le_length
                have HGET : Hid ((fS (cntF sq) (.string s2)).getD (.int .i64 0) = .int .i64 (sq.count s2 : Nat)) := Lib.hid (cntF_get sq s2)
                have HUP := Lib.hid (cntF_upd sq s2)
                have HSM2 := Lib.hid (cntF_some sq s2)
                have HDL := Lib.hid (dedup_len_snoc sq s2)
                obtain ⟨cq, hcqE⟩ : ∃ cq, sq.count s2 = cq := ⟨_, rfl⟩
                rw [hcqE] at HGET HUP hcn
                have hdd := dedup_length_le sq
                have hml : (dedup sq).length < maxLen := by unfold maxLen; omega
                have HM := Lib.hid hmp
                have hw1 : IntKind.i64.wrap ((cq : Int) + 1) = (cq : Int) + 1 := IntWalk.i64_in _ (by omega)
                clear hc2 hsE hsqE hcqE hmp hdd
                go_upto_region 27 with (first
                  | (at_lookup; refine wpList_look_M _ rfl _ _ 53 rfl _ keyS Try.underlying53 (Try.zeroValue3 _) rfl HM.out _ (.string s2) rfl (keyOf_S s2 hs2) (.int .i64 (cq : Nat)) HGET.out ?_)
                  | (at_mapUpdate; refine wpList_put_M _ rfl _ _ _ 53 rfl _ keyS Try.underlying53 rfl HM.out hml _ (.string s2) rfl (keyOf_S s2 hs2) (.int .i64 ((cq : Int) + 1)) (by first | rfl | (simp [Act.eval, hw1])) ?_; intro w6b hm4 hg4))
                have hup2 : updF (cntF sq) s2 (.int .i64 ((cq : Int) + 1)) = cntF (sq ++ [s2]) := HUP.out
                rw [upd_S, hup2, HSM2.out, HDL.out, ← HT.out] at hm4
                have hx6 := hx.grown hg4 (by omega) hK (by omega)
                have hds6 := hds.below (below_grown (B := N0 + 1) hg4 (fun r e => by cases e; exact Nat.le_refl _) (by omega)) (Nat.le_refl _) (Nat.le_refl _)
                have hrs6 := hrs.below (below_grown (B := N0 + 1) hg4 (fun r e => by cases e; exact Nat.le_refl _) (by omega)) (Nat.le_refl _) (Nat.le_refl _)
                have hown6 := hown.kept hg4 (Classical.or_iff_not_imp_left.2 fun _ e => by have := (ownsRow_cells hown.1 e).1; omega)
                have hs6 := hg4.size
                clear hup2 HUP HSM2 HDL HGET HM hx hds hrs hown hg4 c2 hml hw1 hcn
                go_wp2_with fail
                exact ⟨⟨m + 1, by omega, by go_num, hx6, hm4, hds6, hrs6, hown6, by omega⟩, by simp [intOf]; omega⟩
              · obtain rfl : m = fl.length := by omega
                rw [List.take_length, ← HSQ.out] at hmp
                go_wp2_with fail
                refine ⟨⟨_, _, _, _, _, _, _, _, _, _, _, _, _, _, _, _, _, _, _, _, _, _, _, _, ⟨k + 1, ?_, ?_, hx, hmp, hds, hrs, ?_⟩, rfl⟩, ?_⟩
                · omega
                · go_num
                · omega
                · simp [intOf]; omega
          · obtain rfl : k = ds.length := by omega
            rw [List.take_length] at hmp
            have HSLo := HSL.out
            rw [HSLo] at hmp
            obtain ⟨sq, hsqE⟩ : ∃ sq, seqOf p ds = sq := ⟨_, rfl⟩
            rw [hsqE] at hmp HSM
            have HM := Lib.hid hmp
            have hln := hmp.len (t := 53) Try.underlying53 3
            clear HSLo HSL hsqE hmp
            go_wp2_with fail
            obtain ⟨wo, rfl⟩ : ∃ wo : World, wo = wr := ⟨_, rfl⟩
            go_loopw [83] (fun i wr => wo = wr ∧ ∃ m : Nat, m ≤ rs.length ∧ i = .int .i64 m) (fun i _ => rs.length - (intOf i).toNat)
            case atStart => exact ⟨rfl, 0, Nat.zero_le _, rfl⟩
            case round =>
              obtain ⟨rfl, m, hm, rfl⟩ := hrel
              by_cases hml2 : m < rs.length
              · obtain ⟨b2, o2, cap2, he, _, _, _, hc2⟩ := hrs.pos (by omega)
                simp only [Value.slice.injEq, true_and] at he
                obtain ⟨rfl, rfl⟩ := he
                have c2 := hc2 m hml2
                have hs2 : (rs[m]?.getD []).length ≤ maxLen := hrs.len
                have hin := HSM.out (rs[m]?.getD []) (by rw [List.getElem?_eq_getElem hml2]; exact List.getElem_mem hml2)
                obtain ⟨s2, hsE⟩ : ∃ s, rs[m]?.getD [] = s := ⟨_, rfl⟩
                rw [hsE] at c2 hs2 hin
                have hcz : 0 < sq.count s2 := List.count_pos_iff.2 hin
                have HGET : Hid ((fS (cntF sq) (.string s2)).getD (.int .i64 0) = .int .i64 (sq.count s2 : Nat)) := Lib.hid (cntF_get sq s2)
                obtain ⟨cq, hcqE⟩ : ∃ cq, sq.count s2 = cq := ⟨_, rfl⟩
                rw [hcqE] at HGET hcz
                have hcn0 : ¬ ((cq : Int) = 0) := by omega
                clear hc2 hsE hcqE hin
                go_upto_region 33 with (at_lookup; refine wpList_look_M _ rfl _ _ 53 rfl _ keyS Try.underlying53 (Try.zeroValue3 _) rfl HM.out _ (.string s2) rfl (keyOf_S s2 hs2) (.int .i64 (cq : Nat)) HGET.out ?_)
                go_wp2_with fail
                refine ⟨⟨_, _, _, _, _, _, _, _, _, _, _, ⟨trivial, m + 1, ?_, ?_⟩, rfl⟩, ?_⟩
                · omega
                · go_num
                · simp [intOf]; omega
              · obtain rfl : m = rs.length := by omega
                have hqq : ((rs.length : Int) == (rs.length : Int)) = true := by simp
                go_wp2_with fail
                refine (awake_any wo).mono ?_
                rintro e w7 ⟨rfl, b7⟩
                go_wp2_with fail
                go_ret
                exact ⟨rfl, (hx.below b7).bel⟩
end Go.Proofs.Ythbnbjigmgoldaa
