/- JournalRot: the walk. No conditions beyond the readings of the arguments. -/
import Derived.Test.YtkdlimigepkepaaLPrefix
import Derived.Test.YtkdlimigepkepaaJLawR
import Derived.Laws.BitsAllLaws
namespace Go.Proofs.Ytkdlimigepkepaa
open Go.RowKit
set_option linter.unusedVariables false

theorem OwnB.set {base : Nat} {w : World} {l : List UInt8} {g n cap i : Nat} (h : OwnB base w (.slice (some ⟨g, 0, none⟩) n cap) l) (hi : i < l.length) (b : UInt8) :
    OwnB base (w.setCell ⟨g, i, none⟩ (B b)) (.slice (some ⟨g, 0, none⟩) n cap) (l.set i b) := by
  rcases h.2 with ⟨h1, _⟩ | ⟨g', cap', cur, h1, h2, h3, h4, h5, h6, h7⟩
  · cases h1
  · simp only [Value.slice.injEq, Option.some.injEq, Addr.mk.injEq, and_true] at h1
    obtain ⟨rfl, hn, rfl⟩ := h1
    unfold OwnB
    refine ⟨by simp, .inr ⟨g, cap, cur.setIfInBounds i (B b), by rw [List.length_set, hn], h2, heap_setCell_same w g i cur _ _ h3, by rw [List.length_set]; exact h4, h5, by simp [h6], ?_⟩⟩
    rw [List.length_set, Array.toList_setIfInBounds, List.take_set, h7, List.map_set]
theorem OwnB.free {base : Nat} {w : World} {l : List UInt8} {g n cap : Nat} (h : OwnB base w (.slice (some ⟨g, 0, none⟩) n cap) l) (i : Nat) : w.frozen? ⟨g, i, none⟩ = false := by
  rcases h.2 with ⟨h1, _⟩ | ⟨g', cap', cur, h1, h2, h3, _⟩
  · cases h1
  · simp only [Value.slice.injEq, Option.some.injEq, Addr.mk.injEq, and_true] at h1
    obtain ⟨rfl, _⟩ := h1
    exact Blk.free (cs := cur) (t := 5) h3 i
theorem OwnB.at {base : Nat} {w : World} {l : List UInt8} {g n cap : Nat} (h : OwnB base w (.slice (some ⟨g, 0, none⟩) n cap) l) (i : Nat) (hi : i < l.length) : w.cell? ⟨g, i, none⟩ = some (B (l[i]?.getD 0)) := by
  have := World.ownsRow.cells h (g := g) rfl i (B (l[i]?.getD 0)) (by simp [hi])
  rw [Addr.add] at this
  by_cases h0 : i = 0
  · subst h0; simpa using this
  · simpa [h0] using this

set_option maxRecDepth 100000 in
set_option maxHeartbeats 4000000 in
theorem rot_walk (v : Value) (ps : List (List UInt8)) (at' n by' : Int) (w : World) (hv : Txts w.heap.size w v ps) (ha1 : -(2 ^ 63) ≤ at') (ha2 : at' ≤ 2 ^ 63 - 1) (hn1 : -(2 ^ 63) ≤ n) (hn2 : n ≤ 2 ^ 63 - 1) (hy1 : 0 ≤ by') (hy2 : by' ≤ 255) :
    Calls Try.prog 6 #[v, .int .i64 at', .int .i64 n, .int .u8 by'] w fun e w' => e = .returned (.bool true) ∧ Below w.heap.size w w' := by
  obtain ⟨pa, pcap, rfl, hpl, hpm, hpc⟩ := id hv
  have HV := Lib.hid hv; have HPC := Lib.hid hpc
  have hpm' : pcap ≤ 2 ^ 63 - 1 := by unfold maxLen at hpm; omega
  clear hv hpc hpm
  have HA1 := Lib.hid ha1; have HA2 := Lib.hid ha2; have HN1 := Lib.hid hn1; have HN2 := Lib.hid hn2
  clear ha1 ha2 hn1 hn2
  go_enter Try.func6, Try.ntmps6
  go_wp2_with fail
  refine (awake_any _).mono ?_
  rintro e w1 ⟨rfl, hq1⟩
  go_wp2_with fail
  refine (short_any w1.heap.size _ ps 10 w1 (HV.out.below hq1 hq1.size)).mono ?_
  rintro e w2 ⟨rfl, rfl⟩
  cases hsh : shortB ps 10 with
  | false =>
    clear hsh
    go_wp2_with fail
    go_ret
    exact ⟨rfl, hq1⟩
  | true =>
    obtain ⟨hl10, h300, hfits⟩ := shortB_facts (m := 10) hsh
    have HF := Lib.hid (hfits (by omega)); have H3 := Lib.hid h300
    clear hsh h300 hfits
    by_cases h0 : at' < 0
    · have t : decide (at' < (0 : Int)) = true := by simp; omega
      clear h0
      go_wp2_with fail
      go_ret
      exact ⟨rfl, hq1⟩
    have t0 : decide (at' < (0 : Int)) = false := by simp; omega
    by_cases h1 : (ps.length : Int) ≤ at'
    · have t : decide ((ps.length : Int) ≤ at') = true := by simp; omega
      clear h0 h1
      go_wp2_with fail
      go_ret
      exact ⟨rfl, hq1⟩
    obtain ⟨K, rfl⟩ : ∃ K : Nat, at' = K := ⟨at'.toNat, by omega⟩
    have hK : K < ps.length := by omega
    have t1 : ¬ ps.length ≤ K := by omega
    by_cases h2 : by' = 0
    · have t : (by' == (0 : Int)) = true := by simp [h2]
      clear h0 h1 h2
      go_wp2_with fail
      go_ret
      exact ⟨rfl, hq1⟩
    have t2 : (by' == (0 : Int)) = false := by simp [h2]
    have HY := Lib.hid h2
    clear h0 h1 h2
    go_wp2_with fail
    obtain ⟨B0, hB0⟩ : ∃ B, w1.heap.size = B := ⟨_, rfl⟩
    go_loopw [9, 10, 11, 12, 13] (fun s9 s10 s11 s12 s13 wr => ∃ k : Nat, k ≤ ps.length ∧ s11 = .int .i64 k ∧ s10 = .int .i64 ((if K < k then endOf (ps.take K) else 0 : Nat) : Int) ∧ OwnB B0 wr s9 (recs 0 (ps.take k)) ∧ Below B0 w1 wr) (fun s9 s10 s11 s12 s13 _ => ps.length - (intOf s11).toNat)
    case atStart =>
      refine ⟨0, Nat.zero_le _, rfl, rfl, OwnB.nil _ _, ?_⟩
      rw [← hB0]; exact Below.refl _ _
    case round =>
      obtain ⟨k, hk, rfl, rfl, hd, hbr⟩ := hrel
      by_cases hlt : k < ps.length
      · obtain ⟨b, o, x, hpa, hbK, hc1, hbx⟩ := HPC.out k hlt
        subst hpa
        obtain ⟨p, hp⟩ : ∃ p, ps[k]?.getD [] = p := ⟨_, rfl⟩
        have hsu := endOf_take_succ ps k hlt
        have hfit : p.length ≤ 300 := by rw [← hp]; exact H3.out k hlt
        have hrs : recs 0 (ps.take (k + 1)) = recs 0 (ps.take k) ++ formOf (k + 1) p := by
          have ht : ps.take (k + 1) = ps.take k ++ [p] := by
            rw [List.take_succ_eq_append_getElem hlt, ← hp]; simp [hlt]
          rw [ht, recs_snoc]
          have : (ps.take k).length = k := by simp; omega
          rw [this]
        have hA : endOf (ps.take k) ≤ 310 * 10 := by
          have h1 := endOf_le_of (ps := ps.take k) (fun q hq => by
            obtain ⟨i, hi, rfl⟩ := List.mem_iff_getElem.1 (List.mem_of_mem_take hq)
            have := H3.out i hi
            simpa [hi] using this)
          have : (ps.take k).length ≤ 10 := by simp; omega
          omega
        have hrl : (recs 0 (ps.take k)).length = endOf (ps.take k) := recs_length _ _
        have hrl' : (recs 0 (ps.take (k + 1))).length = endOf (ps.take (k + 1)) := recs_length _ _
        rw [hp] at hbx hsu
        have hqr := hq1.trans (hbr.mono (by rw [← hB0]; exact hq1.size))
        have hszr : B0 ≤ wr.heap.size := by rw [← hB0]; exact hbr.size
        have hbw : w.heap.size ≤ B0 := by rw [← hB0]; exact hq1.size
        have hcr : wr.cell? ⟨b, o + k, none⟩ = some x := (hqr.cell (p := ⟨b, o + k, none⟩) hbK).trans hc1
        have hxr := hbx.below hqr hqr.size
        have hk16 : k ≤ 2 ^ 6 - 1 := by omega
        obtain ⟨xa, xc, rfl, hx1, hx2, _⟩ := id hxr
        have HSU := Lib.hid hsu; have HRS := Lib.hid hrs; have HRL := Lib.hid hrl; have HRL' := Lib.hid hrl'; have HA := Lib.hid hA
        clear hc1 hbx hp hsu hrs hrl hrl' hA hB0
        have hdf := hd.form
        obtain ⟨fa, fc, rfl, hfl, hfm⟩ := hdf
        have hfm' : fc ≤ 2 ^ 63 - 1 := by unfold maxLen at hfm; omega
        rw [HRL.out] at hfl hd ⊢
        obtain ⟨fr, hfr⟩ : ∃ f : Nat, (if K < k + 1 then endOf (ps.take K) else 0 : Nat) = f := ⟨_, rfl⟩
        have hcut : (∀ w' : World, True) := fun _ => trivial
        clear hfm hcut
        go_upto_if 43 with fail
        go_cut [10] from 44 to 45 (fun s10 wx => s10 = .int .i64 (fr : Int) ∧ wx = wr)
        case first =>
          by_cases hkK : k = K
          · have t : ((k : Int) == (K : Int)) = true := by simp [hkK]
            have e : Hid (endOf (ps.take k) = fr) := by unfold Hid; rw [← hfr, if_pos (by omega), hkK]
            clear hkK hfr
            go_wp2_with fail
            go_meet
            exact ⟨by rw [e.out], rfl⟩
          · have t : ((k : Int) == (K : Int)) = false := by simp; omega
            have e : (if K < k then endOf (ps.take K) else 0 : Nat) = fr := by
              rw [← hfr]
              by_cases h : K < k
              · rw [if_pos h, if_pos (by omega)]
              · rw [if_neg h, if_neg (by omega)]
            rw [e]
            clear hkK hfr e
            go_wp2_with fail
            go_meet
            exact ⟨rfl, rfl⟩
        case rest =>
        obtain ⟨rfl, hw⟩ := hcut
        rw [hw]
        clear hw
        go_wp2_with fail
        refine (form_at _ _ p (k + 1) _ _ hxr (Nat.le_refl _) (by simp) (by omega) (by omega) (by omega)).mono ?_
        rintro e w3 ⟨a3, c3, rfl, ho3, hb3⟩
        have hby3 := ho3.byts
        have hd3 := hd.below hb3 (Nat.le_refl _)
        have hs3 := hb3.size
        have hbr3 : Below B0 w1 w3 := hbr.trans (hb3.mono hszr)
        have hcr3 : w3.cell? ⟨b, o + k, none⟩ = some (.slice xa p.length xc) := (hb3.cell (p := ⟨b, o + k, none⟩) (show b < wr.heap.size by omega)).trans hcr
        obtain ⟨_, _, hs3', hl3, hm3, _⟩ := id hby3
        simp only [Value.slice.injEq, true_and] at hs3'
        obtain ⟨rfl, rfl⟩ := hs3'
        rw [formOf_length] at hl3
        have hLL : (formOf (k + 1) p).length = 10 + p.length := formOf_length _ _
        rw [hLL] at hby3 ⊢
        have hsm : (recs 0 (ps.take k)).length + (formOf (k + 1) p).length ≤ 2 ^ 46 := by rw [HRL.out, formOf_length]; have := HA.out; omega
        have hbase : B0 ≤ w3.heap.size := by omega
        have hby3' := hby3
        have hkK1 : (if K < k + 1 then endOf (ps.take K) else 0 : Nat) = fr := hfr
        clear hd hcr ho3 hb3 hbr hqr hxr hcr3
        go_wp2_with (at_builtin; refine wpList_append_B rfl (.tmp 56) (.tmp 57) rfl rfl rfl hd3 hby3 hsm hbase ?_; intro v4 w4 hd4 hg4 hat4; rw [← HRS.out] at hd4; obtain ⟨da, dc, rfl, hdl, hdm⟩ := hd4.form; rw [HRL'.out] at hdl hd4 ⊢; have hs4 := hg4.size; have hbr4 : Below B0 w1 w4 := hbr3.trans (below_of_grown hg4 (fun r hr => hd3.base_le hr) hbase); have hbase4 : B0 ≤ w4.heap.size := by omega)
        go_roundw
        case rel =>
          refine ⟨k + 1, by omega, by go_num, ?_, hd4, hbr4⟩
          rw [hkK1]
        case measure => simp [intOf]; omega
      · obtain rfl : k = ps.length := by omega
        rw [List.take_length] at hd
        rw [if_pos hK]
        obtain ⟨T, hT⟩ : ∃ T, endOf ps = T := ⟨_, rfl⟩
        obtain ⟨F, hF⟩ : ∃ F, endOf (ps.take K) = F := ⟨_, rfl⟩
        obtain ⟨b, o, x, hpa, hbK, hc1, hbx⟩ := HPC.out K hK
        subst hpa
        obtain ⟨p, hp⟩ : ∃ p, ps[K]?.getD [] = p := ⟨_, rfl⟩
        have hle := endOf_take_le ps K hK
        have hfit : p.length ≤ 300 := by rw [← hp]; exact H3.out K hK
        have hrl : (recs 0 ps).length = T := by rw [recs_length, hT]
        have hT20 : T ≤ 310 * 10 := by
          have h1 := endOf_le_of (ps := ps) (fun q hq => by
            obtain ⟨i, hi, rfl⟩ := List.mem_iff_getElem.1 hq
            have := H3.out i hi
            simpa [hi] using this)
          omega
        have hT13 : T ≤ 2 ^ 13 - 1 := by omega
        rw [hp] at hbx hle
        rw [hT, hF] at hle
        rw [hF]
        have HT := Lib.hid hT; have HFF := Lib.hid hF; have HP := Lib.hid hp
        clear hT hF hp
        have hqr := hq1.trans (hbr.mono (by rw [← hB0]; exact hq1.size))
        have hbw : w.heap.size ≤ B0 := by rw [← hB0]; exact hq1.size
        have hcr : wr.cell? ⟨b, o + K, none⟩ = some x := (hqr.cell (p := ⟨b, o + K, none⟩) hbK).trans hc1
        have hxr := hbx.below hqr hqr.size
        obtain ⟨xa, xc, rfl, hx1, hx2, _⟩ := id hxr
        obtain ⟨da, dc, rfl, hdl, hdm⟩ := hd.form
        have hdm' : dc ≤ 2 ^ 63 - 1 := by unfold maxLen at hdm; omega
        rw [hrl] at hdl hd ⊢
        have hda : ∃ g, da = some ⟨g, 0, none⟩ := by
          rcases hd.2 with ⟨h, _⟩ | ⟨g, cap, cur, h, _⟩
          · simp only [Value.slice.injEq] at h; omega
          · simp only [Value.slice.injEq] at h; exact ⟨g, h.1⟩
        obtain ⟨g, rfl⟩ := hda
        have hp10 : (1 : Int) ≤ (p.length : Int) + 10 := by omega
        have hp62 : (p.length : Int) + 10 ≤ 2 ^ 62 := by omega
        have HP10 := Lib.hid hp10; have HP62 := Lib.hid hp62; have HRL := Lib.hid hrl
        have hpl9 : p.length ≤ 2 ^ 9 - 1 := by omega
        have hgb : w.heap.size ≤ g := by
          have h : B0 ≤ g := hd.base_le rfl
          omega
        have hszr : B0 ≤ wr.heap.size := by rw [← hB0]; exact hbr.size
        clear hdm hc1 hbx hbK hp10 hp62 hrl hxr hT20 hB0
        go_wp2_with fail
        refine (pick_any n ((p.length : Int) + 10) wr HP62.out HN1.out HN2.out HP10.out).mono ?_
        rintro e w3 ⟨rfl, rfl⟩
        obtain ⟨m1, m2⟩ := pickI_bd n ((p.length : Int) + 10) HP10.out
        obtain ⟨M, hM⟩ : ∃ M : Nat, pickI n ((p.length : Int) + 10) = M := ⟨(pickI n ((p.length : Int) + 10)).toNat, by omega⟩
        rw [hM] at m1 m2 ⊢
        have hMp : M < 10 + p.length := by omega
        clear hM m1 m2
        by_cases h4 : M = 4
        · subst h4
          go_wp2_with fail
          go_ret
          exact ⟨rfl, hqr⟩
        have t4 : ((M : Int) == 4) = false := by simp; omega
        by_cases h5 : M = 5
        · subst h5
          go_wp2_with fail
          go_ret
          exact ⟨rfl, hqr⟩
        have t5 : ((M : Int) == 5) = false := by simp; omega
        have hFM : F + M < T := by omega
        obtain ⟨c, hc⟩ : ∃ c : UInt8, (recs 0 ps)[F + M]?.getD 0 = c := ⟨_, rfl⟩
        have hcell := hd.at (F + M) (by rw [HRL.out]; exact hFM)
        rw [hc] at hcell
        have hfz := hd.free (F + M)
        have hclt := c.toNat_lt
        obtain ⟨y, rfl⟩ : ∃ y : Nat, by' = y := ⟨by'.toNat, by omega⟩
        have hxor := u8_xor_nat c.toNat y hclt (by omega)
        have hyne : y ≠ 0 := fun h => HY.out (by simp [h])
        have hx256 : c.toNat ^^^ y < 256 := Nat.xor_lt_two_pow (n := 8) (by omega) (by omega)
        have hset := hd.set (i := F + M) (by rw [HRL.out]; exact hFM) (UInt8.ofNat (c.toNat ^^^ y))
        have hBv : B (UInt8.ofNat (c.toNat ^^^ y)) = .int .u8 ((c.toNat ^^^ y : Nat) : Int) := by
          unfold B; rw [UInt8.toNat_ofNat']; congr 2; omega
        rw [hBv] at hset
        have hne : c ≠ UInt8.ofNat (c.toNat ^^^ y) := by
          intro h
          have h1 := congrArg UInt8.toNat h
          rw [UInt8.toNat_ofNat', Nat.mod_eq_of_lt hx256] at h1
          apply hyne
          have h2 : c.toNat ^^^ (c.toNat ^^^ y) = c.toNat ^^^ c.toNat := by rw [← h1]
          rw [← Nat.xor_assoc, Nat.xor_self, Nat.zero_xor] at h2
          exact h2
        have hscan := rot_law HF.out K M hK (UInt8.ofNat (c.toNat ^^^ y)) (by rw [HP.out]; exact hMp) h4 h5 (by rw [HFF.out, hc]; exact hne)
        rw [HFF.out] at hscan
        have HSC := Lib.hid hscan
        have hx0 : (0 : Int) ≤ (c.toNat : Int) := by omega
        have hx255 : c.toNat ≤ 255 := by omega
        clear hscan hne hBv hyne h4 h5 hc hle HY
        obtain ⟨z, hz⟩ : ∃ z, c.toNat ^^^ y = z := ⟨_, rfl⟩
        rw [hz] at hset HSC hx256 hxor
        have hz8 : z ≤ 2 ^ 8 - 1 := by omega
        have hy8 : y ≤ 2 ^ 8 - 1 := by omega
        have hi3 : decide ((T : Int) ≤ (F : Int) + (M : Int)) = false := by simp; omega
        clear hx256 hclt hz hy1 hy2
        go_wp2_with fail
        refine (scan_of _ ((recs 0 ps).set (F + M) (UInt8.ofNat z)) _ hset.byts).mono ?_
        rintro e w3 ⟨pv, rfl, hts, hb3⟩
        rw [HSC.out] at hts ⊢
        rw [HFF.out]
        have hq3 : Below w.heap.size w w3 := (hqr.setCell hgb _).trans (hb3.mono (by simp; omega))
        have hv3 := HV.out.below hq3 hq3.size
        have hq4 := hts.txts
        have hkl : (ps.take K).length = K := by simp; omega
        obtain ⟨ra, rc, rfl, hr1, hr2, _⟩ := id hq4
        rw [hkl] at hr1 hq4 ⊢
        have hvk := hv3.take K (by omega)
        have hkp : K ≤ pcap := by omega
        clear hts hb3 hset hcell hfz hxor hkl hv3
        go_wp2_with fail
        refine (sameTexts_any w3.heap.size _ _ (ps.take K) (ps.take K) w3 hq4 hvk).mono ?_
        rintro e w6 ⟨rfl, n6, rfl⟩
        simp only [decide_true]
        go_wp2_with fail
        go_ret
        exact ⟨rfl, hq3.trans (below_drewN' n6)⟩
end Go.Proofs.Ytkdlimigepkepaa
