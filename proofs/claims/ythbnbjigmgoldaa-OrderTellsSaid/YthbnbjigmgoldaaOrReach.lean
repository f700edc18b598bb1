/- The reference of layer 15: Reach. No conditions beyond the readings of the arguments. -/
import Derived.Test.YthbnbjigmgoldaaOrReachS
namespace Go.Proofs.Ythbnbjigmgoldaa
open Go.RowKit
set_option linter.unusedVariables false

/-- What lists of direct names add to a list. -/
def foldD (p : Pl) (l acc : List Str) : List Str := l.foldl (fun m f => (depends p f).foldl addS m) acc
theorem foldD_all (p : Pl) (f : List Str) : foldD p f f = stepR p f := rfl
theorem foldD_snoc {p : Pl} {l acc : List Str} {k : Nat} (h : k < l.length) : (depends p (l[k]?.getD [])).foldl addS (foldD p (l.take k) acc) = foldD p (l.take (k + 1)) acc := by
  unfold foldD
  rw [List.take_succ_eq_append_getElem h, List.foldl_append, List.getElem?_eq_getElem h]; rfl
theorem foldD_prefix (p : Pl) (l acc : List Str) : ∃ t, foldD p l acc = acc ++ t := by
  unfold foldD
  induction l generalizing acc with
  | nil => exact ⟨[], by simp⟩
  | cons f r ih =>
    obtain ⟨t1, h1⟩ := foldl_addS_prefix (depends p f) acc
    obtain ⟨t2, h2⟩ := ih ((depends p f).foldl addS acc)
    exact ⟨t1 ++ t2, by rw [List.foldl_cons, h2, h1, List.append_assoc]⟩
theorem foldD_append (p : Pl) (a b acc : List Str) : foldD p (a ++ b) acc = foldD p b (foldD p a acc) := by unfold foldD; rw [List.foldl_append]
theorem step_part {p : Pl} {found : List Str} {k : Nat} (j : Nat) (hk : k < found.length) : (((depends p (found[k]?.getD [])).take j).foldl addS (foldD p (found.take k) found)).length ≤ (stepR p found).length := by
  obtain ⟨t1, h1⟩ := foldl_addS_prefix ((depends p (found[k]?.getD [])).drop j) (((depends p (found[k]?.getD [])).take j).foldl addS (foldD p (found.take k) found))
  rw [← List.foldl_append, List.take_append_drop, foldD_snoc hk] at h1
  obtain ⟨t2, h2⟩ := foldD_prefix p (found.drop (k + 1)) (foldD p (found.take (k + 1)) found)
  rw [← foldD_append, List.take_append_drop, foldD_all, h1] at h2
  rw [h2]; simp
theorem step_take {p : Pl} {found : List Str} {k : Nat} (hk : k < found.length) : (foldD p (found.take k) found).length ≤ (stepR p found).length := by
  have := step_part (p := p) 0 hk
  simpa using this

set_option maxRecDepth 100000 in
set_option maxHeartbeats 4000000 in
theorem rreach_any (K : Nat) (p : Pl) (nm : ByteArray) (vd vt vc : Value) (a : Str) (w : World) (h : PlanIs K w vd vc p) (hK : K ≤ w.heap.size) (hbig : p.size ≤ 2 ^ 38) (ha : a.length ≤ maxLen) :
    Calls Try.prog 24 #[.agg #[.string nm, vd, vt, vc], S a] w fun e w' => ∃ x, e = .returned x ∧ OwnS w.heap.size w' x (reach p a) ∧ Below w.heap.size w w' := by
  obtain ⟨da, dn, dm, rfl⟩ : ∃ a n m, vd = .slice a n m := by obtain ⟨g, hg, _⟩ := h.1; obtain ⟨a, m, hv, _⟩ := hg.form; exact ⟨a, _, m, hv⟩
  obtain ⟨ca, cn, cm, rfl⟩ : ∃ a n m, vc = .slice a n m := by obtain ⟨g, hg, _⟩ := h.2; obtain ⟨a, m, hv, _⟩ := hg.form; exact ⟨a, _, m, hv⟩
  obtain ⟨B0, hB0⟩ : ∃ B0, w.heap.size = B0 := ⟨_, rfl⟩
  rw [hB0] at hK ⊢
  obtain ⟨W1, hW1⟩ : ∃ W1, w.alloc (.cells #[.string nm, .slice da dn dm, vt, .slice ca cn cm] 26) = W1 := ⟨_, rfl⟩
  have hb1 : Below B0 w W1 := by rw [← hW1]; exact (Below.refl B0 w).alloc (by omega) _
  have q1 : Blk W1 B0 #[.string nm, .slice da dn dm, vt, .slice ca cn cm] 26 := by rw [← hW1, ← hB0]; exact Blk.new w _ _
  have hB1 := q1.lt
  have hnl : (names p).length ≤ 2 ^ 38 := Nat.le_trans (names_length p) (by unfold Pl.size at hbig; omega)
  have hd := rdepends_any K p nm (.slice da dn dm) vt (.slice ca cn cm) a W1 (h.below hb1 hK (Nat.le_refl _)) (by omega) hbig ha
  have HB := Lib.hid hB0
  have HW1 := Lib.hid hW1
  have HST := Lib.hid (FoundR.start p a)
  obtain ⟨rv, hrv⟩ : ∃ rv, reach p a = rv := ⟨_, rfl⟩
  rw [hrv]
  have HRV := Lib.hid hrv
  obtain ⟨d0, d1, d2, d3⟩ := q1.four
  clear hB0 hW1 hrv
  go_enter Try.func24, Try.ntmps24
  go_wp2_with fail
  simp only [HB.out]
  rw [HW1.out]
  go_wp2_with fail
  refine hd.mono ?_
  rintro e w2 ⟨x2, rfl, hds, b2⟩
  obtain ⟨na, nc, rfl, hn1, hn2⟩ := hds.form
  have hb2 := hb1.trans (b2.mono (by omega))
  have q2 := q1.below b2 hB1
  have hst2 : Strs w2.heap.size w2 (.slice na (depends p a).length nc) (depends p a) := hds.strs
  clear hd d0 d1 d2 d3 hds hn1 hn2 b2
  go_wp2_with fail
  go_loopw [5] (fun fv wr => ∃ (fo : List Str), Hid (FoundR p a fo) ∧ Strs wr.heap.size wr fv fo ∧ sliceN fv = fo.length ∧ Below B0 w wr ∧ Blk wr B0 #[.string nm, .slice da dn dm, vt, .slice ca cn cm] 26) (fun fv _ => (names p).length - sliceN fv)
  case atStart => exact ⟨depends p a, HST, hst2, rfl, hb2, q2⟩
  case round =>
    obtain ⟨fo, HF, hfo, hfn, hbw, q⟩ := hrel
    obtain ⟨fa, fc, rfl, hf1, hf2⟩ := hfo.form
    have hfl : fo.length ≤ (names p).length := HF.out.length
    have hsl : (stepR p fo).length ≤ (names p).length := HF.out.step.length
    have HSL := Lib.hid hsl
    clear hfn hsl
    unfold maxLen at hf2
    obtain ⟨wo, rfl⟩ : ∃ wo : World, wo = wr := ⟨_, rfl⟩
    obtain ⟨N0, hN0⟩ : ∃ N0, wo.heap.size = N0 := ⟨_, rfl⟩
    have hfo0 := hfo
    rw [hN0] at hfo
    have hN2 : N0 ≤ wo.heap.size := by omega
    have hBN : B0 < N0 := by rw [← hN0]; exact q.lt
    clear hN0
    go_wp2_with fail
    go_loopw [6, 7] (fun mv i wr => ∃ (k : Nat), k ≤ fo.length ∧ i = .int .i64 k ∧ Strs wr.heap.size wr mv (foldD p (fo.take k) fo) ∧ Below B0 w wr ∧ Blk wr B0 #[.string nm, .slice da dn dm, vt, .slice ca cn cm] 26 ∧ Strs N0 wr (.slice fa fo.length fc) fo ∧ N0 ≤ wr.heap.size) (fun _ i _ => fo.length - (intOf i).toNat)
    case atStart => exact ⟨0, Nat.zero_le _, rfl, hfo0, hbw, q, hfo, hN2⟩
    case round =>
      clear hfo0 hfo hN2 hbw q
      obtain ⟨k, hk, rfl, hmo, hbw, q, hfo, hN⟩ := hrel
      obtain ⟨wo, rfl⟩ : ∃ wo : World, wo = wr := ⟨_, rfl⟩
      obtain ⟨ma, mc, rfl, hm1, hm2⟩ := hmo.form
      unfold maxLen at hm2
      by_cases hlt : k < fo.length
      · obtain ⟨b, o, cap, he, _, _, hbN, hc⟩ := hfo.pos (by omega)
        simp only [Value.slice.injEq, true_and] at he
        obtain ⟨rfl, rfl⟩ := he
        have c0 := hc k hlt
        have hsl : (fo[k]?.getD []).length ≤ maxLen := hfo.len
        have HP : Hid (∀ j, (((depends p (fo[k]?.getD [])).take j).foldl addS (foldD p (fo.take k) fo)).length ≤ (names p).length) := Lib.hid fun j => Nat.le_trans (step_part j hlt) HSL.out
        have HS := Lib.hid (foldD_snoc (p := p) (acc := fo) hlt)
        obtain ⟨s, hs⟩ : ∃ s, fo[k]?.getD [] = s := ⟨_, rfl⟩
        rw [hs] at c0 hsl HS HP
        obtain ⟨mo, hmoE⟩ : ∃ mo, foldD p (fo.take k) fo = mo := ⟨_, rfl⟩
        rw [hmoE] at hmo HS HP hm1 ⊢
        have hbd : Below B0 w wo.drew := hbw.trans (Below.refl _ wo).drew
        have hd := rdepends_any K p nm (.slice da dn dm) vt (.slice ca cn cm) s wo.drew (h.below hbd hK (Nat.le_refl _)) (by show K ≤ wo.heap.size; omega) hbig hsl
        have hdl := depends_length p s
        obtain ⟨dl, hdlE⟩ : ∃ dl, depends p s = dl := ⟨_, rfl⟩
        rw [hdlE] at hd HS HP hdl
        clear hc hs hmoE hdlE
        go_upto_region 6 with fail
        refine wp_onlyN ?_
        refine region_plain (fun W => Blk W B0 #[.string nm, .slice da dn dm, vt, .slice ca cn cm] 26 ∧ W.cell? ⟨b, o + k, none⟩ = some (S s)) [] (by kernel_rfl) ?_
        have qS : (fun W => Blk W B0 #[.string nm, .slice da dn dm, vt, .slice ca cn cm] 26 ∧ W.cell? ⟨b, o + k, none⟩ = some (S s)) wo.drew := ⟨q, c0⟩
        refine wpAnyD_take (i := 0) (v := .agg #[.string nm, .slice da dn dm, vt, .slice ca cn cm]) rfl (by kernel_rfl) (by kernel_rfl) (by kernel_rfl) (by kernel_rfl) (by kernel_rfl) (fun _ _ _ h => h) (.inl ⟨by kernel_rfl, fun W' hS => by obtain ⟨c0, c1, c2, c3⟩ := Blk.four hS.1; go_simp⟩) qS ?_
        refine wpAnyD_take (i := 1) (v := .slice (some ⟨b, o, none⟩) fo.length fc) rfl (by kernel_rfl) (by kernel_rfl) (by kernel_rfl) (by kernel_rfl) (by kernel_rfl) (fun _ _ _ h => h) (.inl ⟨by kernel_rfl, fun W' hS => by go_simp⟩) qS ?_
        refine wpAnyD_take (i := 2) (v := .int .i64 k) rfl (by kernel_rfl) (by kernel_rfl) (by kernel_rfl) (by kernel_rfl) (by kernel_rfl) (fun _ _ _ h => h) (.inl ⟨by kernel_rfl, fun W' hS => by go_simp⟩) qS ?_
        refine wpAnyD_take (i := 3) (v := .pointer (some ⟨b, o + k, none⟩)) rfl (by kernel_rfl) (by kernel_rfl) (by kernel_rfl) (by kernel_rfl) (by kernel_rfl) (fun _ _ _ h => h) (.inl ⟨by kernel_rfl, fun W' hS => by go_simp⟩) qS ?_
        refine wpAnyD_take (i := 4) (v := S s) rfl (by kernel_rfl) (by kernel_rfl) (by kernel_rfl) (by kernel_rfl) (by kernel_rfl) (fun _ _ _ h => h) (.inl ⟨by kernel_rfl, fun W' hS => by have c2 := hS.2; go_simp⟩) qS ?_
        refine wpAnyD_one (i := 5) (by kernel_rfl) rfl (by kernel_rfl) ?_
        go_simp
        refine hd.mono ?_
        rintro e w5 ⟨x5, rfl, hx5, b5⟩
        obtain ⟨xa, xc, rfl, hx51, hx52⟩ := hx5.form
        unfold maxLen at hx52
        have hrs : Strs w5.heap.size w5 (.slice xa dl.length xc) dl := hx5.strs
        have b5 : Below wo.heap.size wo w5 := (Below.refl _ wo).drew.trans b5
        have s5 := b5.size
        have mo5 := hmo.below b5 (Nat.le_refl _) b5.size
        have bw5 := hbw.trans (b5.mono (by omega))
        have q5 := q.below b5 q.lt
        have fo5 := hfo.below b5 hN (Nat.le_refl _)
        have c5 := (b5.cell (p := ⟨b, o + k, none⟩) (by show b < wo.heap.size; omega)).trans c0
        have qS5 : (fun W => Blk W B0 #[.string nm, .slice da dn dm, vt, .slice ca cn cm] 26 ∧ W.cell? ⟨b, o + k, none⟩ = some (S s)) w5 := ⟨q5, c5⟩
        clear hx5
        go_simp
        try refine ⟨qS5, ?_⟩
        refine wpAnyD_one (i := 6) (by kernel_rfl) rfl (by kernel_rfl) ?_
        go_simp
        try refine ⟨qS5, ?_⟩
        refine wpAnyD_done (by kernel_rfl) ?_ _
        refine onlyN_mk ?_
        clear qS qS5 hd hmo hfo q c0 c5 hbd hbw
        go_simp
        go_wp2_with fail
        obtain ⟨M0, hM0⟩ : ∃ M0, w5.heap.size = M0 := ⟨_, rfl⟩
        rw [hM0] at hrs
        have hM5 : M0 ≤ w5.heap.size := by omega
        have hN5 : N0 ≤ w5.heap.size := by omega
        clear hM0 b5 s5
        go_loopw [6, 9] (fun mv i wr => ∃ (j : Nat), j ≤ dl.length ∧ i = .int .i64 j ∧ Strs wr.heap.size wr mv ((dl.take j).foldl addS mo) ∧ Below B0 w wr ∧ Blk wr B0 #[.string nm, .slice da dn dm, vt, .slice ca cn cm] 26 ∧ Strs N0 wr (.slice (some ⟨b, o, none⟩) fo.length fc) fo ∧ N0 ≤ wr.heap.size ∧ Strs M0 wr (.slice xa dl.length xc) dl ∧ M0 ≤ wr.heap.size) (fun _ i _ => dl.length - (intOf i).toNat)
        case atStart => exact ⟨0, Nat.zero_le _, rfl, mo5, bw5, q5, fo5, hN5, hrs, hM5⟩
        case round =>
          clear mo5 bw5 q5 fo5 hN5 hrs hM5
          obtain ⟨j, hj, rfl, hst, hbw, q, hfo, hN5, hrs, hM5⟩ := hrel
          have hB := q.lt
          by_cases hjl : j < dl.length
          · obtain ⟨b2, o2, cap2, he, _, _, _, hc2⟩ := hrs.pos (by omega)
            simp only [Value.slice.injEq, true_and] at he
            obtain ⟨rfl, rfl⟩ := he
            have c2 := hc2 j hjl
            have hsl2 : (dl[j]?.getD []).length ≤ maxLen := hrs.len
            have hfl2 := HP.out j
            have HS2 : Hid ((dl.take (j + 1)).foldl addS mo = addS ((dl.take j).foldl addS mo) (dl[j]?.getD [])) := Lib.hid (by rw [List.take_succ_eq_append_getElem hjl, List.foldl_append, List.getElem?_eq_getElem hjl]; rfl)
            obtain ⟨z, hz⟩ : ∃ z, dl[j]?.getD [] = z := ⟨_, rfl⟩
            rw [hz] at c2 hsl2 HS2
            obtain ⟨acc, hacc⟩ : ∃ acc, (dl.take j).foldl addS mo = acc := ⟨_, rfl⟩
            rw [hacc] at hst HS2 hfl2
            obtain ⟨la2, lc2, rfl, _, _⟩ := hst.form
            have ha := radd_any wr.heap.size (.slice la2 acc.length lc2) acc z wr hst hsl2 (Nat.le_refl _) (by omega)
            clear hc2 hz hacc
            go_wp2_with fail
            refine ha.mono ?_
            rintro e w6 ⟨x6, rfl, hx6, b6⟩
            obtain ⟨ya, yc, rfl, _, _⟩ := hx6.form
            have hs6 := b6.size
            clear ha c2
            go_wp2_with fail
            exact ⟨⟨j + 1, by omega, by go_num, by rw [HS2.out]; exact hx6, hbw.trans (b6.mono (by omega)), q.below b6 hB, hfo.below b6 hN5 (Nat.le_refl _), by omega, hrs.below b6 hM5 (Nat.le_refl _), by omega⟩, by simp [intOf]; omega⟩
          · obtain rfl : j = dl.length := by omega
            rw [List.take_length, HS.out] at hst
            obtain ⟨la2, lc2, rfl, _, _⟩ := hst.form
            go_wp2_with fail
            exact ⟨⟨k + 1, by omega, by go_num, hst, hbw, q, hfo, by omega⟩, by simp [intOf]; omega⟩
      · obtain rfl : k = fo.length := by omega
        rw [List.take_length, foldD_all] at hmo
        have HSS : Hid ((stepR p fo).length = fo.length → stepR p fo = fo) := Lib.hid stepR_same
        have HPX : Hid (∃ t, stepR p fo = fo ++ t) := Lib.hid (stepR_prefix p fo)
        have HF2 : Hid (FoundR p a (stepR p fo)) := Lib.hid HF.out.step
        have HRES : Hid (stepR p fo = fo → (names p).filter (fun s => fo.contains s) = reach p a) := Lib.hid fun h => HF.out.result h
        have hsl2 := HSL.out
        rw [List.take_length, foldD_all] at hm1
        obtain ⟨mo, hmoE⟩ : ∃ mo, stepR p fo = mo := ⟨_, rfl⟩
        rw [hmoE] at hmo hm1 HSS HPX HF2 HRES hsl2
        have hml : fo.length ≤ mo.length := by obtain ⟨t, ht⟩ := HPX.out; rw [ht]; simp
        rw [List.take_length, foldD_all, hmoE]
        clear hmoE HF
        by_cases heq : mo.length = fo.length
        · have hme := HSS.out heq
          subst hme
          have HR2 : Hid ((names p).filter (fun s => mo.contains s) = reach p a) := Lib.hid (HRES.out rfl)
          have hn := rnames_any K p nm (.slice da dn dm) vt (.slice ca cn cm) wo (h.1.below hbw hK (Nat.le_refl _)) (by omega) (by unfold Pl.size at hbig; omega)
          rw [HRV.out] at HR2
          obtain ⟨d0, d1, d2, d3⟩ := q.four
          clear heq HPX HSS HRES HF2
          go_wp2_with fail
          refine hn.mono ?_
          rintro e w3 ⟨x3, rfl, hns, b3⟩
          obtain ⟨va, vc', rfl, hv1, hv2⟩ := hns.form
          unfold maxLen at hv2
          have hb3 := hbw.trans (b3.mono (by omega))
          have q3 := q.below b3 q.lt
          have fo3 := hfo.below (K' := w3.heap.size) b3 hN (Nat.le_trans hN b3.size)
          obtain ⟨ns, hnsE⟩ : ∃ ns, names p = ns := ⟨_, rfl⟩
          rw [hnsE] at hns hnl HR2 hv1 hfl hsl2 ⊢
          have s3 := b3.size
          obtain ⟨M0, hM0⟩ : ∃ M0, w3.heap.size = M0 := ⟨_, rfl⟩
          rw [hM0] at hns fo3
          have hM3 : M0 ≤ w3.heap.size := by omega
          have hBM : B0 < M0 := by rw [← hM0]; exact q3.lt
          clear hn d0 d1 d2 d3 hnsE hM0 hmo hfo b3 HSL
          go_wp2_with fail
          go_loopw [10, 12] (fun lv i wr => ∃ (k : Nat), k ≤ ns.length ∧ i = .int .i64 k ∧ OwnS M0 wr lv ((ns.take k).filter fun s => mo.contains s) ∧ Below B0 w wr ∧ Strs M0 wr (.slice va ns.length vc') ns ∧ Strs M0 wr (.slice fa mo.length fc) mo ∧ M0 ≤ wr.heap.size) (fun _ i _ => ns.length - (intOf i).toNat)
          case atStart => exact ⟨0, Nat.zero_le _, rfl, OwnS.nil _ _, hb3, hns, fo3, hM3⟩
          case round =>
            clear hb3 hns fo3 hM3 q3
            obtain ⟨k, hk, rfl, hown, hbw, hns, hfo, hM⟩ := hrel
            obtain ⟨la, lc, rfl, hl1, hl2⟩ := hown.form
            by_cases hlt : k < ns.length
            · obtain ⟨b, o, cap, he, _, _, hbN, hc⟩ := hns.pos (by omega)
              simp only [Value.slice.injEq, true_and] at he
              obtain ⟨rfl, rfl⟩ := he
              have c0 := hc k hlt
              have hsl : (ns[k]?.getD []).length ≤ maxLen := hns.len
              have HS := Lib.hid (filter_snoc ns (fun s => mo.contains s) k hlt)
              obtain ⟨s, hs⟩ : ∃ s, ns[k]?.getD [] = s := ⟨_, rfl⟩
              rw [hs] at c0 hsl HS
              have hfl : ((ns.take k).filter fun s => mo.contains s).length ≤ 2 ^ 38 := Nat.le_trans (List.length_filter_le _ _) (by rw [List.length_take]; omega)
              obtain ⟨out, hout⟩ : ∃ out, ((ns.take k).filter fun s => mo.contains s) = out := ⟨_, rfl⟩
              rw [hout] at hown HS hfl hl1 ⊢
              have hi := in_any M0 _ mo s wr hfo hsl
              obtain ⟨ct, hct⟩ : ∃ ct, mo.contains s = ct := ⟨_, rfl⟩
              rw [hct] at HS
              clear hc hs hout
              cases ct with
              | false =>
                rw [inI_lt (fun hm => by rw [List.contains_iff_mem.2 hm] at hct; cases hct)] at hi
                clear hct
                go_wp2_with fail
                refine hi.mono ?_
                rintro e w5 ⟨rfl, rfl⟩
                go_wp2_with fail
                exact ⟨⟨k + 1, by omega, by go_num, by rw [HS.out]; exact hown, hbw, hns, hfo, hM⟩, by simp [intOf]; omega⟩
              | true =>
                have hz2 := inI_ge (List.contains_iff_mem.1 hct)
                obtain ⟨z, hzE⟩ : ∃ z, inI mo s = z := ⟨_, rfl⟩
                rw [hzE] at hi hz2
                clear hct hzE
                have own5' := hown.old (w' := wr.alloc (.cells #[S s] 9)) ((Below.refl _ _).alloc (Nat.le_refl _) _) (Nat.le_refl _)
                have q3 := (Blk.new wr #[S s] 9).at (i := 0) rfl
                go_wp2_with fail
                refine hi.mono ?_
                rintro e w5 ⟨rfl, rfl⟩
                clear hi
                go_wp2_with (at_builtin; refine wpList_append_S rfl (.tmp 62) (.tmp 67) rfl rfl rfl own5' q3 hsl (by omega) (by simp; omega) ?_; intro g4 cap4 w4 own4 hg4 hat4)
                have hlo : ∀ r, (Value.slice la out.length lc).ownBlock = some r → M0 ≤ r := fun r hr => (ownsRow_cells hown.1 hr).1
                have s4 := hg4.size
                simp only [World.size_alloc] at s4
                have b4 : Below M0 wr w4 := ((Below.refl M0 wr).alloc (by omega) (.cells #[S s] 9)).trans (below_grown hg4 (fun r hr => hlo r hr) (by simp; omega))
                exact ⟨⟨k + 1, by omega, by go_num, by rw [HS.out]; exact own4, hbw.trans (b4.mono (by omega)), hns.below b4 (Nat.le_refl _) (Nat.le_refl _), hfo.below b4 (Nat.le_refl _) (Nat.le_refl _), by omega⟩, by simp [intOf]; omega⟩
            · obtain rfl : k = ns.length := by omega
              rw [List.take_length, HR2.out] at hown ⊢
              go_wp2_with fail
              go_ret
              exact ⟨_, rfl, hown.mono (by omega), hbw⟩
        · have heq2 : ((mo.length : Int) == (fo.length : Int)) = false := by rw [beq_eq_false_iff_ne]; omega
          have heq3 : (mo.length == fo.length) = false := by rw [beq_eq_false_iff_ne]; omega
          obtain ⟨fa2, fc2, hmov, _, _⟩ := hmo.form
          go_wp2_with fail
          exact ⟨⟨mo, HF2, hmo, rfl, hbw, q⟩, by simp [sliceN]; omega⟩
end Go.Proofs.Ythbnbjigmgoldaa
