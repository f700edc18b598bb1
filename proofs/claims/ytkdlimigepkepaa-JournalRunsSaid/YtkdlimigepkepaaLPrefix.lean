/- JournalPrefix: the walk. No conditions beyond the readings of the arguments. -/
import Derived.Test.YtkdlimigepkepaaJLawP
import Derived.Test.YtkdlimigepkepaaOwnI
namespace Go.Proofs.Ytkdlimigepkepaa
open Go.RowKit
set_option linter.unusedVariables false

theorem Txts.take {K : Nat} {w : World} {a : Option Addr} {cap : Nat} {ps : List (List UInt8)} (h : Txts K w (.slice a ps.length cap) ps) (k : Nat) (hk : k ≤ ps.length) : Txts K w (.slice a k cap) (ps.take k) := by
  obtain ⟨a', cap', he, hl, hm, hc⟩ := h
  simp only [Value.slice.injEq, true_and] at he
  obtain ⟨rfl, rfl⟩ := he
  have hlen : (ps.take k).length = k := by simp; omega
  refine ⟨a, cap, by rw [hlen], by omega, hm, fun i hi => ?_⟩
  rw [hlen] at hi
  obtain ⟨b, o, u, h1, h2, h3, h4⟩ := hc i (by omega)
  refine ⟨b, o, u, h1, h2, h3, ?_⟩
  rw [List.getElem?_take_of_lt hi]
  exact h4

theorem Txts.drewN {K : Nat} {w : World} {v : Value} {ps : List (List UInt8)} (h : Txts K w v ps) (n : Nat) : Txts K (w.drewN n) v ps := h.below (below_drewN' n) (Nat.le_refl _)

theorem shortB_facts {ps : List (List UInt8)} {m : Nat} (h : shortB ps m = true) : ps.length ≤ m ∧ (∀ i, i < ps.length → (ps[i]?.getD []).length ≤ 300) ∧ (m ≤ 65536 → Fits ps) := by
  unfold shortB at h
  rw [decide_eq_true_iff] at h
  have h1 : ps.length ≤ m := by
    by_cases h0 : ps.length = 0
    · omega
    · have := (h (ps.length - 1) (by omega)).1; omega
  refine ⟨h1, fun i hi => (h i hi).2, fun hm => ⟨by omega, fun p hp => ?_⟩⟩
  obtain ⟨i, hi, rfl⟩ := List.mem_iff_getElem.1 hp
  have := (h i hi).2
  simp [hi] at this
  omega

def endsOf (ps : List (List UInt8)) (k : Nat) : List Int := (List.range (k + 1)).map fun i => (endOf (ps.take i) : Int)
theorem endsOf_length (ps : List (List UInt8)) (k : Nat) : (endsOf ps k).length = k + 1 := by simp [endsOf]
theorem endsOf_succ (ps : List (List UInt8)) (k : Nat) : endsOf ps (k + 1) = endsOf ps k ++ [(endOf (ps.take (k + 1)) : Int)] := by
  unfold endsOf
  rw [List.range_succ, List.map_append]; rfl
theorem endsOf_at (ps : List (List UInt8)) (k i : Nat) (h : i ≤ k) : (endsOf ps k)[i]?.getD 0 = (endOf (ps.take i) : Int) := by
  unfold endsOf
  rw [List.getElem?_map, List.getElem?_range (by omega)]; rfl
theorem endOf_le_of {ps : List (List UInt8)} (h : ∀ p ∈ ps, p.length ≤ 300) : endOf ps ≤ 310 * ps.length := by
  induction ps with
  | nil => simp [endOf]
  | cons p r ih =>
    have h1 := ih (fun q hq => h q (List.mem_cons_of_mem _ hq))
    have h2 := h p List.mem_cons_self
    simp only [endOf, List.length_cons]; omega

theorem ne_of_hat {v4 v5 v6 : Value} {n : Nat} (hat : v4.ownBlock = v5.ownBlock ∨ v4.ownBlock = some n) (hne : v5.ownBlock ≠ v6.ownBlock) (hlt : ∀ r, v6.ownBlock = some r → r < n) : v4.ownBlock ≠ v6.ownBlock := by
  intro h
  rcases hat with h4 | h4 <;> rw [h4] at h
  · exact hne h
  · have := hlt n h.symm; omega
theorem OwnB.base_le {base : Nat} {W : World} {v : Value} {l : List UInt8} (h : OwnB base W v l) {r : Nat} (hr : v.ownBlock = some r) : base ≤ r := (ownsRow_cells h hr).1
theorem OwnB.lt {base : Nat} {W : World} {v : Value} {l : List UInt8} (h : OwnB base W v l) {r : Nat} (hr : v.ownBlock = some r) : r < W.heap.size := by
  obtain ⟨o, ho, _⟩ := (ownsRow_cells h hr).2
  exact (Array.getElem?_eq_some_iff.1 ho).1

set_option maxRecDepth 100000 in
set_option maxHeartbeats 4000000 in
theorem prefix_walk (v : Value) (ps : List (List UInt8)) (n : Int) (w : World) (hv : Txts w.heap.size w v ps) (hn1 : -(2 ^ 63) ≤ n) (hn2 : n ≤ 2 ^ 63 - 1) :
    Calls Try.prog 5 #[v, .int .i64 n] w fun e w' => e = .returned (.bool true) ∧ Below w.heap.size w w' := by
  obtain ⟨pa, pcap, rfl, hpl, hpm, hpc⟩ := id hv
  have HV := Lib.hid hv; have HPC := Lib.hid hpc
  have hpm' : pcap ≤ 2 ^ 63 - 1 := by unfold maxLen at hpm; omega
  clear hv hpc hpm
  go_enter Try.func5, Try.ntmps5
  go_wp2_with fail
  refine (awake_any _).mono ?_
  rintro e w1 ⟨rfl, hq1⟩
  go_wp2_with fail
  refine (short_any w1.heap.size _ ps 20 w1 (HV.out.below hq1 hq1.size)).mono ?_
  rintro e w2 ⟨rfl, rfl⟩
  cases hsh : shortB ps 20 with
  | false =>
    clear hsh
    go_wp2_with fail
    go_ret
    exact ⟨rfl, hq1⟩
  | true =>
    obtain ⟨hl20, h300, hfits⟩ := shortB_facts (m := 20) hsh
    have HF := Lib.hid (hfits (by omega)); have H3 := Lib.hid h300
    clear hsh h300 hfits
    go_wp2_with fail
    have hown0 := OwnI.one (base := w1.heap.size) w1 0 (Nat.le_refl _)
    have hbel0 : Below w1.heap.size w1 (w1.alloc (.cells #[.int .i64 0] 3)) := (Below.refl _ w1).alloc (Nat.le_refl _) _
    obtain ⟨B0, hB0⟩ : ∃ B, w1.heap.size = B := ⟨_, rfl⟩
    go_loopw [5, 6, 7, 8, 9] (fun s5 s6 s7 s8 s9 wr => ∃ k : Nat, k ≤ ps.length ∧ s7 = .int .i64 k ∧ OwnB B0 wr s5 (recs 0 (ps.take k)) ∧ OwnI B0 wr s6 (endsOf ps k) ∧
        s5.ownBlock ≠ s6.ownBlock ∧ Below B0 w1 wr) (fun s5 s6 s7 s8 s9 _ => ps.length - (intOf s7).toNat)
    case atStart =>
      refine ⟨0, Nat.zero_le _, rfl, ?_, ?_, (fun h => nomatch h), ?_⟩
      · exact OwnB.nil _ _
      · rw [← hB0]; exact hown0
      · rw [← hB0]; exact hbel0
    case round =>
      obtain ⟨k, hk, rfl, hd, he, hne, hbr⟩ := hrel
      by_cases hlt : k < ps.length
      · obtain ⟨b, o, x, hpa, hbK, hc1, hbx⟩ := HPC.out k hlt
        subst hpa
        obtain ⟨p, hp⟩ : ∃ p, ps[k]?.getD [] = p := ⟨_, rfl⟩
        have hsu := endOf_take_succ ps k hlt
        have hfit : p.length ≤ 300 := by rw [← hp]; exact H3.out k hlt
        have hrs : recs 0 (ps.take (k + 1)) = recs 0 (ps.take k) ++ formOf (k + 1) p := by
          have ht : ps.take (k + 1) = ps.take k ++ [p] := by
            rw [List.take_succ_eq_append_getElem hlt, ← hp]; simp [hlt]
          rw [ht, recs_snoc]
          have : (ps.take k).length = k := by simp; omega
          rw [this]
        have hA : endOf (ps.take k) ≤ 310 * 20 := by
          have h1 := endOf_le_of (ps := ps.take k) (fun q hq => by
            obtain ⟨i, hi, rfl⟩ := List.mem_iff_getElem.1 (List.mem_of_mem_take hq)
            have := H3.out i hi
            simpa [hi] using this)
          have : (ps.take k).length ≤ 20 := by simp; omega
          omega
        have hrl : (recs 0 (ps.take k)).length = endOf (ps.take k) := recs_length _ _
        have hrl' : (recs 0 (ps.take (k + 1))).length = endOf (ps.take (k + 1)) := recs_length _ _
        rw [hp] at hbx hsu
        have hqr := hq1.trans (hbr.mono (by rw [← hB0]; exact hq1.size))
        have hszr : B0 ≤ wr.heap.size := by rw [← hB0]; exact hbr.size
        have hbw : w.heap.size ≤ B0 := by rw [← hB0]; exact hq1.size
        have hcr : wr.cell? ⟨b, o + k, none⟩ = some x := (hqr.cell (p := ⟨b, o + k, none⟩) hbK).trans hc1
        have hxr := hbx.below hqr hqr.size
        have hk16 : k ≤ 2 ^ 6 - 1 := by omega
        obtain ⟨xa, xc, rfl, hx1, hx2, _⟩ := id hxr
        have HSU := Lib.hid hsu; have HRS := Lib.hid hrs; have HRL := Lib.hid hrl; have HRL' := Lib.hid hrl'; have HA := Lib.hid hA
        clear hc1 hbx hp hsu hrs hrl hrl' hA hB0
        go_wp2_with fail
        refine (form_at _ _ p (k + 1) _ _ hxr (Nat.le_refl _) (by simp) (by omega) (by omega) (by omega)).mono ?_
        rintro e w3 ⟨a3, c3, rfl, ho3, hb3⟩
        have hby3 := ho3.byts
        have hd3 := hd.below hb3 (Nat.le_refl _)
        have he3 := he.below hb3 (Nat.le_refl _)
        have hs3 := hb3.size
        have hbr3 : Below B0 w1 w3 := hbr.trans (hb3.mono hszr)
        have hcr3 : w3.cell? ⟨b, o + k, none⟩ = some (.slice xa p.length xc) := (hb3.cell (p := ⟨b, o + k, none⟩) (show b < wr.heap.size by omega)).trans hcr
        obtain ⟨_, _, hs3', hl3, hm3, _⟩ := id hby3
        simp only [Value.slice.injEq, true_and] at hs3'
        obtain ⟨rfl, rfl⟩ := hs3'
        rw [formOf_length] at hl3
        have hLL : (formOf (k + 1) p).length = 10 + p.length := formOf_length _ _
        rw [hLL] at hby3 ⊢
        obtain ⟨L, hL⟩ : ∃ L, 10 + p.length = L := ⟨_, rfl⟩
        have hLp : ((L : Int) != (p.length : Int) + 10) = false := by simp; omega
        have hpl9 : p.length ≤ 2 ^ 9 - 1 := by omega
        rw [hL] at hby3 hl3 hLL ⊢
        have HLL := Lib.hid hLL; have HL := Lib.hid hL
        clear hL hLL hd he hcr ho3 hb3 hbr hqr hxr
        have hsm : (recs 0 (ps.take k)).length + (formOf (k + 1) p).length ≤ 2 ^ 46 := by rw [HRL.out, HLL.out]; have := HA.out; have := HL.out; omega
        have hbase : B0 ≤ w3.heap.size := by omega
        have hzl : (endsOf ps k).length + 1 ≤ 2 ^ 40 := by rw [endsOf_length]; omega
        go_wp2_with (first
          | (at_builtin; refine wpList_append_B rfl (.tmp 49) (.tmp 50) rfl rfl rfl hd3 hby3 hsm hbase ?_; intro v4 w4 hd4 hg4 hat4; rw [← HRS.out] at hd4; obtain ⟨da, dc, rfl, hdl, hdm⟩ := hd4.form; rw [HRL'.out] at hdl hd4 hat4 ⊢;
              have hg4 : w3.grownBy w4 u5.ownBlock := hg4; have he4 := he3.kept hg4 (.inr (Ne.symm hne)); have hs4 := hg4.size;
              have hne4 : (Value.slice da (endOf (ps.take (k + 1))) dc).ownBlock ≠ u6.ownBlock := ne_of_hat hat4 hne (fun r hr => he3.lt hr);
              have hbr4 : Below B0 w1 w4 := hbr3.trans (below_of_grown hg4 (fun r hr => hd3.base_le hr) hbase); have hbase4 : B0 ≤ w4.heap.size := by omega)
          | (at_builtin; refine wpList_append_I rfl (.tmp 52) (.tmp 55) rfl rfl rfl (he4.alloc _) ((Blk.new w4 _ _).at rfl) hzl (by simp; omega) ?_; intro g5 c5 w5 he5 hg5 hat5))
        have hne5 : (Value.slice da (endOf (ps.take (k + 1))) dc).ownBlock ≠ some g5 := fun h => by
          rcases hat5 with h5 | h5
          · exact hne4 (h.trans h5.symm)
          · have := hd4.lt h; rw [h5, World.size_alloc] at this; omega
        go_roundw
        case rel =>
          rw [← endsOf_succ] at he5
          rw [endsOf_length] at he5 ⊢
          refine ⟨k + 1, by omega, by go_num, ?_, he5, ?_, ?_⟩
          · exact (hd4.alloc _).kept hg5 (.inr hne4)
          · exact hne5
          · exact (hbr4.alloc hbase4 _).trans (below_of_grown hg5 (fun r hr => he4.base_le hr) (by simp; omega))
        case measure => simp [intOf]; omega
      · obtain rfl : k = ps.length := by omega
        rw [List.take_length] at hd
        have hfit := HF.out
        obtain ⟨T, hT⟩ : ∃ T, endOf ps = T := ⟨_, rfl⟩
        have hrl : (recs 0 ps).length = T := by rw [recs_length, hT]
        have hT20 : T ≤ 310 * 20 := by
          have h1 := endOf_le_of (ps := ps) (fun q hq => by
            obtain ⟨i, hi, rfl⟩ := List.mem_iff_getElem.1 hq
            have := H3.out i hi
            simpa [hi] using this)
          omega
        have hT13 : T ≤ 2 ^ 13 - 1 := by omega
        have hqr := hq1.trans (hbr.mono (by rw [← hB0]; exact hq1.size))
        have hdb := hd.byts
        obtain ⟨da, dc, rfl, hdl, hdm⟩ := hd.form
        rw [hrl] at hdl hdb ⊢
        have hdm' : dc ≤ 2 ^ 63 - 1 := by unfold maxLen at hdm; omega
        obtain ⟨ea, ec, rfl, hel, hem⟩ := he.form
        rw [endsOf_length] at hel he ⊢
        have hem' : ec ≤ 2 ^ 63 - 1 := by unfold maxLen at hem; omega
        have hea : ∃ g, ea = some ⟨g, 0, none⟩ := by
          rcases he.2 with ⟨h, _⟩ | ⟨g, cap, cur, h, _⟩
          · simp at h
          · simp only [Value.slice.injEq] at h; exact ⟨g, h.1⟩
        obtain ⟨g, rfl⟩ := hea
        have hec : ∀ i, i ≤ ps.length → wr.cell? ⟨g, i, none⟩ = some (.int .i64 (endOf (ps.take i) : Nat)) := fun i hi => by
          have := he.at i (by rw [endsOf_length]; omega)
          rwa [endsOf_at ps ps.length i hi] at this
        have HEC := Lib.hid hec; have HRL := Lib.hid hrl; have HDB := Lib.hid hdb; have HT := Lib.hid hT
        have hgl : g < wr.heap.size := he.lt rfl
        have hszr : B0 ≤ wr.heap.size := by rw [← hB0]; exact hbr.size
        have hbw : w.heap.size ≤ B0 := by rw [← hB0]; exact hq1.size
        have hT0 : (1 : Int) ≤ (T : Int) + 1 := by omega
        have hT62 : (T : Int) + 1 ≤ 2 ^ 62 := by omega
        clear hec hrl hdb hT hd he hne hdm hem hT20 hfit hB0
        go_wp2_with fail
        refine (pick_any n ((T : Int) + 1) wr hT62 hn1 hn2 hT0).mono ?_
        rintro e w3 ⟨rfl, rfl⟩
        obtain ⟨m1, m2⟩ := pickI_bd n ((T : Int) + 1) hT0
        obtain ⟨M, hM⟩ : ∃ M : Nat, pickI n ((T : Int) + 1) = M := ⟨(pickI n ((T : Int) + 1)).toNat, by omega⟩
        rw [hM] at m1 m2 ⊢
        have hMT : M ≤ T := by omega
        have hMd : M ≤ dc := by omega
        clear hM m1 m2 hT62 hn1 hn2 hT0
        have hdt := HDB.out
        rw [← HRL.out] at hdt
        have hdt := hdt.take M (by rw [HRL.out]; exact hMT)
        obtain ⟨k, hk1, hk2, hk3, hk4⟩ := prefix_law HF.out M (by rw [HT.out]; exact hMT)
        have HK := Lib.hid hk2; have HK4 := Lib.hid hk4
        clear hk2 hk4
        go_wp2_with fail
        refine (scan_of _ ((recs 0 ps).take M) wr hdt).mono ?_
        rintro e w3 ⟨pv, rfl, hts, hb3⟩
        rw [HK.out] at hts ⊢
        obtain ⟨E1, hE1⟩ : ∃ E, endOf (ps.take k) = E := ⟨_, rfl⟩
        have HE1 := Lib.hid hE1
        rw [hE1] at hk3 ⊢
        clear hE1 hdt
        have hd3 := HDB.out.below hb3 hb3.size
        have hq3 := hts.txts
        have hqr3 := hqr.trans (hb3.mono hqr.size)
        go_wp2_with fail
        refine (scan_of _ (recs 0 ps) w3 hd3).mono ?_
        rintro e w4 ⟨qv, rfl, hus, hb4⟩
        rw [scan_recs HF.out] at hus ⊢
        rw [HT.out]
        have hq4 := hq3.below hb4 hb4.size
        have hu4 := hus.txts
        have hqr4 := hqr3.trans (hb4.mono hqr3.size)
        have hv4 := HV.out.below hqr4 hqr4.size
        have hcells : ∀ i, i ≤ ps.length → w4.cell? ⟨g, i, none⟩ = some (.int .i64 (endOf (ps.take i) : Nat)) := fun i hi =>
          ((hb3.trans (hb4.mono hb3.size)).cell (p := ⟨g, i, none⟩) hgl).trans (HEC.out i hi)
        have hgl4 : g < w4.heap.size := by have := hb3.size; have := hb4.size; omega
        clear hts hus hq3 hd3 hqr3 hb3 hqr
        obtain ⟨qa, qc, rfl, _⟩ := id hu4
        have hkl : (ps.take k).length = k := by simp; omega
        obtain ⟨ra, rc, rfl, hr1, hr2, _⟩ := id hq4
        rw [hkl] at hr1 ⊢
        have hkd : (ps.take k).length = k := hkl
        have HKL := Lib.hid hkl
        clear hkl hkd
        go_wp2_with fail
        refine (sameTexts_any w4.heap.size _ _ ps ps w4 hu4 hv4).mono ?_
        rintro e w5 ⟨rfl, n5, rfl⟩
        simp only [decide_true]
        obtain ⟨w5, hw5⟩ : ∃ X, w4.drewN n5 = X := ⟨_, rfl⟩
        have hz5 : w4.heap.size = w5.heap.size := by rw [← hw5]; rfl
        have hqr5 : Below w.heap.size w w5 := hw5 ▸ hqr4.trans (below_drewN' n5)
        have hcells : ∀ i, i ≤ ps.length → w5.cell? ⟨g, i, none⟩ = some (.int .i64 (endOf (ps.take i) : Nat)) := hw5 ▸ hcells
        have hq5 : Txts w5.heap.size w5 (.slice ra (ps.take k).length rc) (ps.take k) := by rw [← hz5, ← hw5]; exact hq4.drewN n5
        have hv5 : Txts w5.heap.size w5 (.slice pa ps.length pcap) ps := by rw [← hz5, ← hw5]; exact hv4.drewN n5
        rw [hw5]
        have ce1 : w5.cell? ⟨g, k, none⟩ = some (.int .i64 (E1 : Nat)) := by rw [hcells k hk1, HE1.out]
        have hvk := hv5.take k hk1
        clear hq4 hv4 hqr4 hw5 hu4
        have t1 : ¬ ps.length + 1 ≤ k := by omega
        have t2 : k < ps.length + 1 := by omega
        have t3 : ¬ M < E1 := by omega
        have hkp : k ≤ pcap := by omega
        rw [hz5] at hgl4
        rw [HKL.out] at hq5
        by_cases hkl : k = ps.length
        · have t4 : ((k : Int) == (ps.length : Int)) = true := by simp [hkl]
          have HKL' := Lib.hid hkl
          clear hkl hcells
          go_wp2_with fail
          refine (sameTexts_any w5.heap.size _ _ (ps.take k) (ps.take k) w5 hq5 hvk).mono ?_
          rintro e w6 ⟨rfl, n6, rfl⟩
          simp only [decide_true]
          go_wp2_with fail
          go_ret
          exact ⟨by rw [HKL'.out]; simp, hqr5.trans (below_drewN' n6)⟩
        · have t4 : ((k : Int) == (ps.length : Int)) = false := by simp; omega
          have t5 : k + 1 < ps.length + 1 := by omega
          have ce2 := hcells (k + 1) (by omega)
          have t6 := HK4.out.resolve_left hkl
          obtain ⟨F2, hF2⟩ : ∃ F, endOf (ps.take (k + 1)) = F := ⟨_, rfl⟩
          rw [hF2] at ce2 t6
          clear hF2 hkl hcells HK4
          go_wp2_with fail
          refine (sameTexts_any w5.heap.size _ _ (ps.take k) (ps.take k) w5 hq5 hvk).mono ?_
          rintro e w6 ⟨rfl, n6, rfl⟩
          simp only [decide_true]
          go_wp2_with fail
          go_ret
          exact ⟨rfl, hqr5.trans (below_drewN' n6)⟩
end Go.Proofs.Ytkdlimigepkepaa
