/- The reference of layer 15: Cycle. No conditions beyond the readings of the arguments. -/
import Derived.Test.YthbnbjigmgoldaaOrTaken
namespace Go.Proofs.Ythbnbjigmgoldaa
open Go.RowKit
set_option linter.unusedVariables false

/-- The numbers that cannot be taken. -/
def restN (p : Pl) : List Nat := (List.range (names p).length).filter fun i => !(takenP p).contains i
theorem restP_named (p : Pl) : restP p = named (names p) (restN p) := by
  unfold restP restN
  rw [filter_named]
  congr 1
  refine List.filter_congr fun i hi => ?_
  rw [named_contains (names_nodup p) (takenP_lt p) (List.mem_range.1 hi)]
theorem restN_lt (p : Pl) : ∀ x ∈ restN p, x < (names p).length := fun x hx => by
  unfold restN at hx
  exact List.mem_range.1 (List.mem_filter.1 hx).1
theorem restP_contains (p : Pl) {d : Nat} (hd : d < (names p).length) : (restP p).contains ((names p)[d]?.getD []) = !(takenP p).contains d := by
  rw [restP_named, named_contains (names_nodup p) (restN_lt p) hd, Bool.eq_iff_iff, List.contains_iff_mem]
  unfold restN
  rw [List.mem_filter]
  simp [hd]
/-- The way begins at the first name that cannot be taken. -/
theorem rest_first {p : Pl} (h : 0 < (restP p).length) : ∃ j, (restP p)[0]?.getD [] = (names p)[j]?.getD [] ∧ Way (names p).length (gD p) [] j := by
  have hf : (List.range (names p).length).find? (fun i => !(takenP p).contains i) = (restN p).head? := by unfold restN; rw [List.head?_filter]
  rw [restP_named] at h ⊢
  rw [named_length] at h
  obtain ⟨j, r, hr⟩ : ∃ j r, restN p = j :: r := by
    cases hc : restN p with
    | nil => rw [hc] at h; simp at h
    | cons j r => exact ⟨j, r, rfl⟩
  rw [hr] at hf ⊢
  have hj := List.find?_range_eq_some.1 hf
  have hjn := List.mem_range.1 hj.2.1
  have hjt : (taken (names p).length (gD p)).contains j = false := by simpa [takenP] using hj.1
  refine ⟨j, rfl, List.nodup_nil, by simp, hjn, hjt, ?_⟩
  exact cycle_some hjn hjt fun k hk => by have := hj.2.2 k hk; simpa [takenP] using this
/-- The next name of the way. -/
theorem way_next {p : Pl} {i k : Nat} (hi : i < (names p).length) (hk : k < (depends p ((names p)[i]?.getD [])).length) (h : ∀ m, m < k → (restP p).contains ((depends p ((names p)[i]?.getD []))[m]?.getD []) = false)
    (hc : (restP p).contains ((depends p ((names p)[i]?.getD []))[k]?.getD []) = true) : (depends p ((names p)[i]?.getD []))[k]?.getD [] = (names p)[firstU (gD p) (taken (names p).length (gD p)) i]?.getD [] := by
  have hl : (depends p ((names p)[i]?.getD [])).length = (gD p i).length := by unfold depends; rw [named_length]; rfl
  have hat : ∀ m, m < (gD p i).length → (depends p ((names p)[i]?.getD []))[m]?.getD [] = (names p)[fn (gD p i) m]?.getD [] := fun m hm => by
    unfold depends; exact named_get _ hm
  have hlt : ∀ m, m < (gD p i).length → fn (gD p i) m < (names p).length := fun m hm => gD_lt p i _ (fnIn hm)
  rw [hl] at hk
  have hf : (gD p i).find? (fun d => !(taken (names p).length (gD p)).contains d) = some (fn (gD p i) k) := by
    rw [List.find?_eq_some_iff_getElem]
    refine ⟨?_, k, hk, (fnAt hk).symm, fun m hm => ?_⟩
    · rw [hat k hk, restP_contains p (hlt k hk)] at hc
      exact hc
    · have h1 := h m hm
      rw [hat m (by omega), restP_contains p (hlt m (by omega)), fnAt (by omega)] at h1
      show (!(!(takenP p).contains ((gD p i)[m]))) = true
      rw [h1]; rfl
  rw [hat k hk]
  unfold firstU
  rw [hf]; rfl
theorem way_some {p : Pl} {way : List Nat} {i : Nat} (hw : Way (names p).length (gD p) way i) : ∃ k, k < (depends p ((names p)[i]?.getD [])).length ∧ (restP p).contains ((depends p ((names p)[i]?.getD []))[k]?.getD []) = true := by
  obtain ⟨d, hd, hdt⟩ := untaken_dep hw.ilt hw.inot
  obtain ⟨k, hk, hkd⟩ := List.getElem_of_mem hd
  have hl : (depends p ((names p)[i]?.getD [])).length = (gD p i).length := by unfold depends; rw [named_length]; rfl
  refine ⟨k, by rw [hl]; exact hk, ?_⟩
  have hat : (depends p ((names p)[i]?.getD []))[k]?.getD [] = (names p)[fn (gD p i) k]?.getD [] := by unfold depends; exact named_get _ hk
  rw [hat, restP_contains p (gD_lt p i _ (fnIn hk)), fnAt hk, hkd]
  show (!(taken (names p).length (gD p)).contains d) = true
  rw [hdt]; rfl
theorem cycle_zero {p : Pl} (h : (restP p).length = 0) : cycle p = [] := by
  have := ord_taken (rest_none.1 h)
  unfold cycle
  rw [cycle_none (by unfold takenP at this; omega)]
  rfl
theorem way_done {p : Pl} {way : List Nat} {i : Nat} (hw : Way (names p).length (gD p) way i) (hc : (named (names p) way).contains ((names p)[i]?.getD []) = true) :
    ∃ j : Nat, inI (named (names p) way) ((names p)[i]?.getD []) = j ∧ j < (named (names p) way).length ∧ cycle p = (named (names p) way).drop j := by
  have hm := List.contains_iff_mem.1 hc
  refine ⟨(named (names p) way).idxOf ((names p)[i]?.getD []), by unfold inI; rw [if_pos hc], List.idxOf_lt_length_iff.2 hm, ?_⟩
  rw [named_contains (names_nodup p) hw.lt hw.ilt] at hc
  have hj := idxOf_fn hc
  unfold cycle
  rw [hw.done hc]
  have e : (named (names p) way).idxOf ((names p)[i]?.getD []) = way.idxOf i := by
    have h1 : (named (names p) way)[way.idxOf i]?.getD [] = (names p)[i]?.getD [] := by
      rw [named_get _ hj, fnAt hj, List.getElem_idxOf]
    have hnd := named_nodup (names_nodup p) hw.lt hw.nodup
    have h2 := List.Nodup.idxOf_getElem hnd (way.idxOf i) (by rw [named_length]; exact hj)
    rw [List.getElem?_eq_getElem (by rw [named_length]; exact hj)] at h1
    simp only [Option.getD_some] at h1
    rw [h1] at h2
    exact h2
  rw [e]
  unfold named
  rw [List.map_drop]
theorem Strs.drop {K b o cap k : Nat} {w : World} {l : List Str} (h : Strs K w (.slice (some ⟨b, o, none⟩) l.length cap) l) (hk : k < l.length) : Strs K w (.slice (some ⟨b, o + k, none⟩) (l.length - k) (cap - k)) (l.drop k) := by
  obtain ⟨b', o', cap', he, h1, h2, h3, h4⟩ := h.pos (by omega)
  simp only [Value.slice.injEq, Option.some.injEq, Addr.mk.injEq, and_true, true_and] at he
  obtain ⟨⟨rfl, rfl⟩, rfl⟩ := he
  have hl : (l.drop k).length = l.length - k := List.length_drop
  refine ⟨?_, fun s hs => h.2 s (List.mem_of_mem_drop hs)⟩
  rw [← hl]
  refine RowsV.mk_cells (by omega) (by omega) h3 fun i hi j hj => ?_
  obtain rfl : j = 0 := by omega
  have := h4 (k + i) (by omega)
  rw [List.getElem?_drop, show o + k + (i * 1 + 0) = o + (k + i) by omega]
  exact this

set_option maxRecDepth 100000 in
set_option maxHeartbeats 4000000 in
theorem rcycle_any (K : Nat) (p : Pl) (nm : ByteArray) (vd vt vc : Value) (w : World) (h : PlanIs K w vd vc p) (hK : K ≤ w.heap.size) (hbig : p.size ≤ 2 ^ 38) :
    Calls Try.prog 26 #[.agg #[.string nm, vd, vt, vc]] w fun e w' => ∃ x, e = .returned x ∧ Strs w'.heap.size w' x (cycle p) ∧ Below w.heap.size w w' := by
  obtain ⟨da, dn, dm, rfl⟩ : ∃ a n m, vd = .slice a n m := by obtain ⟨g, hg, _⟩ := h.1; obtain ⟨a, m, hv, _⟩ := hg.form; exact ⟨a, _, m, hv⟩
  obtain ⟨ca, cn, cm, rfl⟩ : ∃ a n m, vc = .slice a n m := by obtain ⟨g, hg, _⟩ := h.2; obtain ⟨a, m, hv, _⟩ := hg.form; exact ⟨a, _, m, hv⟩
  obtain ⟨B0, hB0⟩ : ∃ B0, w.heap.size = B0 := ⟨_, rfl⟩
  rw [hB0] at hK ⊢
  obtain ⟨W1, hW1⟩ : ∃ W1, w.alloc (.cells #[.string nm, .slice da dn dm, vt, .slice ca cn cm] 26) = W1 := ⟨_, rfl⟩
  have hb1 : Below B0 w W1 := by rw [← hW1]; exact (Below.refl B0 w).alloc (by omega) _
  have q1 : Blk W1 B0 #[.string nm, .slice da dn dm, vt, .slice ca cn cm] 26 := by rw [← hW1, ← hB0]; exact Blk.new w _ _
  have hB1 := q1.lt
  have hnl : (names p).length ≤ 2 ^ 38 := Nat.le_trans (names_length p) (by unfold Pl.size at hbig; omega)
  have hn := rtaken_any K p nm (.slice da dn dm) vt (.slice ca cn cm) W1 (h.below hb1 hK (Nat.le_refl _)) (by omega) hbig
  have HB := Lib.hid hB0
  have HW1 := Lib.hid hW1
  have HZ : Hid ((restP p).length = 0 → cycle p = []) := Lib.hid cycle_zero
  have HF : Hid (0 < (restP p).length → ∃ j, (restP p)[0]?.getD [] = (names p)[j]?.getD [] ∧ Way (names p).length (gD p) [] j) := Lib.hid rest_first
  have HS : Hid (∀ way i, Way (names p).length (gD p) way i → (∃ k, k < (depends p ((names p)[i]?.getD [])).length ∧ (restP p).contains ((depends p ((names p)[i]?.getD []))[k]?.getD []) = true)) := Lib.hid fun way i hw => way_some hw
  have HX : Hid (∀ i k, i < (names p).length → k < (depends p ((names p)[i]?.getD [])).length → (∀ m, m < k → (restP p).contains ((depends p ((names p)[i]?.getD []))[m]?.getD []) = false) →
    (restP p).contains ((depends p ((names p)[i]?.getD []))[k]?.getD []) = true → (depends p ((names p)[i]?.getD []))[k]?.getD [] = (names p)[firstU (gD p) (taken (names p).length (gD p)) i]?.getD []) := Lib.hid fun i k h1 h2 h3 h4 => way_next h1 h2 h3 h4
  obtain ⟨rv, hrv⟩ : ∃ rv, cycle p = rv := ⟨_, rfl⟩
  rw [hrv] at HZ ⊢
  have HRV := Lib.hid hrv
  obtain ⟨rs, hrs⟩ : ∃ rs, restP p = rs := ⟨_, rfl⟩
  rw [hrs] at hn HZ HF HS HX
  obtain ⟨d0, d1, d2, d3⟩ := q1.four
  clear hB0 hW1 hrv hrs
  go_enter Try.func26, Try.ntmps26
  go_wp2_with fail
  simp only [HB.out]
  rw [HW1.out]
  go_wp2_with fail
  refine hn.mono ?_
  rintro e w2 ⟨x2, y2, rfl, hx2, hy2, b2⟩
  obtain ⟨ta, tc, rfl, _, _⟩ := hx2.form
  obtain ⟨ra, rc, rfl, hr1, hr2⟩ := hy2.form
  have hb2 := hb1.trans (b2.mono (by omega))
  have q2 := q1.below b2 hB1
  unfold maxLen at hr2
  clear hn d0 d1 d2 d3 b2 hx2
  obtain ⟨N0, hN0⟩ : ∃ N0, w2.heap.size = N0 := ⟨_, rfl⟩
  rw [hN0] at hy2
  have hN2 : N0 ≤ w2.heap.size := by omega
  have hBN : B0 < N0 := by rw [← hN0]; exact q2.lt
  clear hN0
  by_cases hz : rs.length = 0
  · have hrv := HZ.out hz
    have hnil := (OwnS.nil 0 w2).strs
    rw [← hrv] at hnil
    have HZZ := Lib.hid hz
    have hzb : ((rs.length : Int) == 0) = true := by rw [hz]; rfl
    clear hz hrv
    go_wp2_with fail
    go_ret
    exact ⟨_, rfl, by have := (OwnS.nil 0 w2).strs; rw [← HZ.out HZZ.out] at this; simpa [HZ.out HZZ.out] using this, hb2⟩
  · obtain ⟨j0, hj0, hway0⟩ := HF.out (by omega)
    have hzb : ((rs.length : Int) == 0) = false := by rw [beq_eq_false_iff_ne]; omega
    obtain ⟨b, o, cap, he, _, _, hbN, hc⟩ := hy2.pos (by omega)
    simp only [Value.slice.injEq, true_and] at he
    obtain ⟨rfl, rfl⟩ := he
    have c0 := hc 0 (by omega)
    rw [hj0, Nat.add_zero] at c0
    have hsl0 : ((names p)[j0]?.getD []).length ≤ maxLen := by rw [← hj0]; exact hy2.len
    have hrpos : 0 < rs.length := by omega
    clear hz hc hj0 HF HZ
    have HW0 := Lib.hid hway0
    clear hway0
    go_wp2_with fail
    clear c0
    go_loopw [5, 6] (fun pv av wr => ∃ (way : List Nat) (i : Nat), av = S ((names p)[i]?.getD []) ∧ Hid (Way (names p).length (gD p) way i) ∧ ((names p)[i]?.getD []).length ≤ maxLen ∧ OwnS N0 wr pv (named (names p) way) ∧ sliceN pv = way.length ∧ Below B0 w wr ∧ Blk wr B0 #[.string nm, .slice da dn dm, vt, .slice ca cn cm] 26 ∧ Strs N0 wr (.slice (some ⟨b, o, none⟩) rs.length rc) rs ∧ N0 ≤ wr.heap.size) (fun pv _ _ => (names p).length - sliceN pv)
    case atStart => exact ⟨[], j0, rfl, HW0, hsl0, OwnS.nil _ _, rfl, hb2, q2, hy2, hN2⟩
    case round =>
      clear hb2 q2 hy2 hN2
      obtain ⟨way, i, rfl, HW, hal, hown, hpv, hbw, q, hrs, hN⟩ := hrel
      have hwl := HW.out.length
      have hilt := HW.out.ilt
      have HPL : Hid ((named (names p) way).length = way.length) := Lib.hid (named_length way)
      have hpl := Nat.le_of_eq HPL.out
      have HXI : Hid (∀ k, k < (depends p ((names p)[i]?.getD [])).length → (∀ m, m < k → rs.contains ((depends p ((names p)[i]?.getD []))[m]?.getD []) = false) → rs.contains ((depends p ((names p)[i]?.getD []))[k]?.getD []) = true →
        (depends p ((names p)[i]?.getD []))[k]?.getD [] = (names p)[firstU (gD p) (taken (names p).length (gD p)) i]?.getD []) := Lib.hid fun k => HX.out i k hilt
      have HSI := Lib.hid (HS.out way i HW.out)
      have HDN : Hid ((named (names p) way).contains ((names p)[i]?.getD []) = true → ∃ j : Nat, inI (named (names p) way) ((names p)[i]?.getD []) = j ∧ j < (named (names p) way).length ∧ rv = (named (names p) way).drop j) := Lib.hid fun hc => by rw [← HRV.out]; exact way_done HW.out hc
      have HNC : Hid ((named (names p) way).contains ((names p)[i]?.getD []) = way.contains i) := Lib.hid (named_contains (names_nodup p) HW.out.lt HW.out.ilt)
      have HWS : Hid (way.contains i = false → Way (names p).length (gD p) (way ++ [i]) (firstU (gD p) (taken (names p).length (gD p)) i)) := Lib.hid fun h => HW.out.step h (gD_lt p)
      have HSN := Lib.hid (named_snoc (names p) way i)
      obtain ⟨s, hs⟩ : ∃ s, (names p)[i]?.getD [] = s := ⟨_, rfl⟩
      rw [hs] at hal HXI HSI HDN HNC HSN ⊢
      obtain ⟨path, hpath⟩ : ∃ path, named (names p) way = path := ⟨_, rfl⟩
      rw [hpath] at hown HDN HNC HSN HPL hpl
      obtain ⟨pa, pc, rfl, hp1, hp2⟩ := hown.form
      unfold maxLen at hp2
      have hps := hown.strs
      have hi := in_any wr.heap.size _ path s wr hps hal
      clear hs hpath hpv
      obtain ⟨wo, rfl⟩ : ∃ wo : World, wo = wr := ⟨_, rfl⟩
      cases hct : path.contains s with
      | true =>
        obtain ⟨j, hj1, hj2, hj3⟩ := HDN.out hct
        rw [hj1] at hi
        obtain ⟨g, pa, pcap, he, _, _, _, _⟩ := hps.pos (by omega)
        simp only [Value.slice.injEq, true_and] at he
        obtain ⟨rfl, rfl⟩ := he
        have hdr := hps.drop hj2
        rw [← hj3] at hdr
        have hjc : (j : Int) ≤ (path.length : Int) := by omega
        have hj0 : (0 : Int) ≤ (j : Int) := by omega
        have hne : ¬ pc = j := by omega
        clear hct hj1 hj3
        go_wp2_with fail
        refine hi.mono ?_
        rintro e w5 ⟨rfl, rfl⟩
        go_wp2_with fail
        refine hi.mono ?_
        rintro e w5 ⟨rfl, rfl⟩
        go_wp2_with fail
        go_ret
        exact ⟨_, rfl, hdr, hbw⟩
      | false =>
        have hwc : way.contains i = false := by rw [← HNC.out]; exact hct
        have HW2 := Lib.hid (HWS.out hwc)
        have hwl2 := HW2.out.length
        rw [List.length_append, List.length_singleton] at hwl2
        rw [inI_lt (fun hm => by rw [List.contains_iff_mem.2 hm] at hct; cases hct)] at hi
        clear hct hwc HDN HNC HWS HW hps
        have own5' := hown.old (w' := wo.alloc (.cells #[S s] 9)) ((Below.refl _ _).alloc (Nat.le_refl _) _) (Nat.le_refl _)
        have q3 := (Blk.new wo #[S s] 9).at (i := 0) rfl
        go_wp2_with fail
        refine hi.mono ?_
        rintro e w5 ⟨rfl, rfl⟩
        clear hi
        go_upto_region 8 with (at_builtin; refine wpList_append_S rfl (.tmp 24) (.tmp 26) rfl rfl rfl own5' q3 hal (by omega) (by simp; omega) ?_; intro g4 cap4 w4 own4 hg4 hat4)
        have hlo : ∀ r, (Value.slice pa path.length pc).ownBlock = some r → N0 ≤ r := fun r hr => (ownsRow_cells hown.1 hr).1
        have s4 := hg4.size
        simp only [World.size_alloc] at s4
        have b4 : Below N0 wo w4 := ((Below.refl N0 wo).alloc (by omega) (.cells #[S s] 9)).trans (below_grown hg4 (fun r hr => hlo r hr) (by simp; omega))
        have hbw4 := hbw.trans (b4.mono (by omega))
        have q4 := q.below b4 hBN
        have hrs4 := hrs.below (K' := N0) b4 (Nat.le_refl _) (Nat.le_refl _)
        obtain ⟨d0, d1, d2, d3⟩ := q4.four
        have hd := rdepends_any K p nm (.slice da dn dm) vt (.slice ca cn cm) s w4 (h.below hbw4 hK (Nat.le_refl _)) (by omega) hbig hal
        have hN4 : N0 ≤ w4.heap.size := by omega
        clear own5' q3 hown q hrs hbw hg4 hat4 s4 b4 hlo hN
        go_wp2_with fail
        refine hd.mono ?_
        rintro e w5 ⟨x5, rfl, hx5, b5⟩
        obtain ⟨xa, xc, rfl, hx51, hx52⟩ := hx5.form
        unfold maxLen at hx52
        have hdl0 := depends_length p s
        have hds : Strs w5.heap.size w5 (.slice xa (depends p s).length xc) (depends p s) := hx5.strs
        have own5 := own4.old b5 (Nat.le_refl _)
        have bw5 := hbw4.trans (b5.mono (by omega))
        have q5 := q4.below b5 q4.lt
        have rs5 := hrs4.below (K' := N0) b5 hN4 (Nat.le_refl _)
        have s5 := b5.size
        have hN5 : N0 ≤ w5.heap.size := by omega
        clear hd d0 d1 d2 d3 hx5 b5 own4 hbw4 q4 hrs4 s5
        obtain ⟨dl, hdlE⟩ : ∃ dl, depends p s = dl := ⟨_, rfl⟩
        rw [hdlE] at hds hx51 hdl0 HXI HSI ⊢
        clear hdlE
        go_wp2_with fail
        go_loopw [8] (fun iv wr => ∃ (k : Nat), k ≤ dl.length ∧ iv = .int .i64 k ∧ Hid (∀ m, m < k → rs.contains (dl[m]?.getD []) = false) ∧ w5 = wr) (fun iv _ => dl.length - (intOf iv).toNat)
        case atStart => exact ⟨0, Nat.zero_le _, rfl, Lib.hid fun m hm => absurd hm (by omega), rfl⟩
        case round =>
          obtain ⟨k, hk, rfl, HU, rfl⟩ := hrel
          by_cases hlt : k < dl.length
          · obtain ⟨b2, o2, cap2, he, _, _, _, hc2⟩ := hds.pos (by omega)
            simp only [Value.slice.injEq, true_and] at he
            obtain ⟨rfl, rfl⟩ := he
            have c2 := hc2 k hlt
            have hsl2 : (dl[k]?.getD []).length ≤ maxLen := hds.len
            have HXK := Lib.hid (HXI.out k hlt HU.out)
            have HUK : Hid (rs.contains (dl[k]?.getD []) = false → ∀ m, m < k + 1 → rs.contains (dl[m]?.getD []) = false) := Lib.hid fun h0 m hm => by
              by_cases e : m = k
              · rw [e]; exact h0
              · exact HU.out m (by omega)
            obtain ⟨t, ht⟩ : ∃ t, dl[k]?.getD [] = t := ⟨_, rfl⟩
            rw [ht] at c2 hsl2 HXK HUK
            have hi := in_any N0 _ rs t w5 rs5 hsl2
            obtain ⟨z, hzE, hz1, hz2⟩ := inI_dec rs t
            rw [hzE] at hi
            obtain ⟨ct, hct⟩ : ∃ ct, rs.contains t = ct := ⟨_, rfl⟩
            rw [hct] at hz1 hz2 HXK HUK
            clear hzE hc2 ht hct hz1
            cases ct with
            | false =>
              have HU2 := Lib.hid (HUK.out rfl)
              clear HXK HUK
              go_wp2_with fail
              refine hi.mono ?_
              rintro e w6 ⟨rfl, rfl⟩
              go_wp2_with fail
              exact ⟨⟨k + 1, by omega, by go_num, HU2, by first | trivial | rfl⟩, by simp [intOf]; omega⟩
            | true =>
              have HTE := Lib.hid (HXK.out rfl)
              have own6 : OwnS N0 w5 (.slice (some ⟨g4, 0, none⟩) (path.length + 1) cap4) (named (names p) (way ++ [i])) := by rw [HSN.out]; exact own5
              have hsn : sliceN (.slice (some ⟨g4, 0, none⟩) (path.length + 1) cap4) = (way ++ [i]).length := by simp only [sliceN, List.length_append, List.length_singleton]; rw [HPL.out]
              have HSNN := Lib.hid hsn
              have hme : (names p).length - (path.length + 1) < (names p).length - path.length := by have := HPL.out; omega
              clear HXK HUK hsn
              go_wp2_with fail
              refine hi.mono ?_
              rintro e w6 ⟨rfl, rfl⟩
              clear hi
              go_wp2_with fail
              exact ⟨⟨way ++ [i], _, by rw [HTE.out], HW2, by rw [← HTE.out]; exact hsl2, own6, HSNN.out, bw5, q5, rs5, hN5⟩, by simpa [sliceN] using hme⟩
          · obtain rfl : k = dl.length := by omega
            exact absurd HSI.out (fun ⟨k, hk1, hk2⟩ => by rw [HU.out k hk1] at hk2; cases hk2)
end Go.Proofs.Ythbnbjigmgoldaa
