/- The reference of layer 15: direct. No conditions beyond the readings of the arguments. -/
import Derived.Test.YthbnbjigmgoldaaOrRefs
import Derived.Test.YthbnbjigmgoldaaOClM
import Derived.Deep.Cut
import Derived.Test.YthbnbjigmgoldaaOGrSpec
namespace Go.Proofs.Ythbnbjigmgoldaa
open Go.RowKit
set_option linter.unusedVariables false

theorem any_snoc {cs : List Cl} {k : Nat} {x : Cl} (f : Cl → Bool) (hx : cs[k]? = some x) : (cs.take (k + 1)).any f = ((cs.take k).any f || f x) := by
  have hlt := (List.getElem?_eq_some_iff.1 hx).1
  rw [List.take_succ_eq_append_getElem hlt, List.any_append, show cs[k] = x by rw [List.getElem?_eq_getElem hlt] at hx; exact Option.some.inj hx]; simp
theorem any_at {cs : List Cl} {k : Nat} {x : Cl} (f : Cl → Bool) (hx : cs[k]? = some x) (h : f x = true) : cs.any f = true := by
  rw [List.any_eq_true]; exact ⟨x, List.mem_of_getElem? hx, h⟩

set_option maxRecDepth 100000 in
set_option maxHeartbeats 4000000 in
theorem rdirect_any (K : Nat) (p : Pl) (nm : ByteArray) (vd vt vc : Value) (a s : Str) (w : World) (h : PlanIs K w vd vc p) (hK : K ≤ w.heap.size) (hbig : p.size ≤ 2 ^ 38) (ha : a.length ≤ maxLen) (hs : s.length ≤ maxLen) :
    Calls Try.prog 37 #[.agg #[.string nm, vd, vt, vc], S a, S s] w fun e w' => e = .returned (.bool (direct p a s)) ∧ Below w.heap.size w w' := by
  obtain ⟨hd, cg, hcg, hcgi⟩ := h
  obtain ⟨dg, hdg, _⟩ := hd
  obtain ⟨da, dcap, rfl, hd1, hd2⟩ := id hdg.form
  obtain ⟨ca, ccap, rfl, hc1, hc2⟩ := id hcg.form
  clear hdg hd1 hd2
  unfold maxLen at hc2
  obtain ⟨B0, hB0⟩ : ∃ B0, w.heap.size = B0 := ⟨_, rfl⟩
  rw [hB0] at hK ⊢
  obtain ⟨db, hdb⟩ : ∃ db, direct p a s = db := ⟨_, rfl⟩
  have HDB : Hid (p.cls.any (fun c => c.nm == a && hits c s) = db) := Lib.hid hdb
  rw [hdb]
  have hcsz : clSize p.cls ≤ 2 ^ 38 := by unfold Pl.size at hbig; omega
  obtain ⟨n1, hn1⟩ : ∃ n1, p.defs.length = n1 := ⟨_, rfl⟩
  obtain ⟨cs, hcs⟩ : ∃ cs, p.cls = cs := ⟨_, rfl⟩
  rw [hn1]
  rw [hcs] at hc1 hcg hcgi HDB hcsz ⊢
  obtain ⟨W1, hW1⟩ : ∃ W1, w.alloc (.cells #[.string nm, .slice da n1 dcap, vt, .slice ca cs.length ccap] 26) = W1 := ⟨_, rfl⟩
  have hb1 : Below B0 w W1 := hW1 ▸ (Below.refl B0 w).alloc (by omega) _
  have q1 : Blk W1 B0 #[.string nm, .slice da n1 dcap, vt, .slice ca cs.length ccap] 26 := by rw [← hW1, ← hB0]; exact Blk.new w _ _
  have HB := Lib.hid hB0
  have HW1 := Lib.hid hW1
  have HSZ := Lib.hid hcsz
  clear hB0 hW1 hdb hn1 hcs hcsz hbig
  go_enter Try.func37, Try.ntmps37
  go_wp2_with fail
  simp only [HB.out]
  rw [HW1.out]
  go_loopw [7] (fun i wr => ∃ (k : Nat), k ≤ cs.length ∧ i = .int .i64 k ∧ Hid ((cs.take k).any (fun c => c.nm == a && hits c s) = false) ∧ Below B0 w wr ∧ Blk wr B0 #[.string nm, .slice da n1 dcap, vt, .slice ca cs.length ccap] 26) (fun i _ => cs.length - (intOf i).toNat)
  case atStart => exact ⟨0, Nat.zero_le _, rfl, Lib.hid (by simp), hb1, q1⟩
  case round =>
    obtain ⟨k, hk, rfl, HF, hbr, q⟩ := hrel
    obtain ⟨wo, rfl⟩ : ∃ wo : World, wo = wr := ⟨_, rfl⟩
    obtain ⟨d0, d1, d2, d3⟩ := q.four
    have hBl := q.lt
    by_cases hlt : k < cs.length
    · obtain ⟨b, o, cap, he, _, _, hbK, hc⟩ := hcg.pos (by omega)
      simp only [Value.slice.injEq, true_and] at he
      obtain ⟨rfl, rfl⟩ := he
      have hcc := cl_range (cells_below hbr (Nat.lt_of_lt_of_le hbK hK) hc) hlt
      obtain ⟨x, hx⟩ : ∃ x, cs[k]? = some x := ⟨_, List.getElem?_eq_getElem hlt⟩
      have hxx := hcgi k x hx
      obtain ⟨c, hcd⟩ : ∃ c, cg k = c := ⟨_, rfl⟩
      rw [hcd] at hcc hxx
      obtain ⟨hxn, hxl, hxw, hxt⟩ := hxx
      have hpl : x.wh.parts ≤ 2 ^ 38 ∧ x.th.parts ≤ 2 ^ 38 := by have := parts_le_clSize (List.mem_of_getElem? hx); have := HSZ.out; omega
      obtain ⟨wc, hwc⟩ : ∃ wc, wo.alloc (.cells c.cl.toArray 56) = wc := ⟨_, rfl⟩
      obtain ⟨cb, hcb⟩ : ∃ cb, wo.heap.size = cb := ⟨_, rfl⟩
      have hqc : Blk wc cb c.cl.toArray 56 := by rw [← hwc, ← hcb]; exact Blk.new wo _ _
      have bwc : Below B0 w wc := by rw [← hwc]; exact hbr.alloc (by omega) _
      have qwc : Blk wc B0 #[.string nm, .slice da n1 dcap, vt, .slice (some ⟨b, o, none⟩) cs.length ccap] 26 := by rw [← hwc]; exact q.alloc _
      have swc : wc.heap.size = cb + 1 := by rw [← hwc, ← hcb]; simp
      have hcb0 : B0 < cb := by omega
      have HAT := Lib.hid (any_at (fun c => c.nm == a && hits c s) hx)
      have HSN := Lib.hid (any_snoc (fun c => c.nm == a && hits c s) hx)
      have n0 : wc.cell? ⟨cb, 0, none⟩ = some (S c.nm) := hqc.at (by rw [List.getElem?_toArray]; exact c.cl_at (by omega))
      have hcl : c.nm.length ≤ maxLen := by rw [hxn]; exact hxl
      obtain ⟨ct, hct⟩ : ∃ ct, (c.nm == a) = ct := ⟨_, rfl⟩
      have HXC : Hid ((x.nm == a) = ct) := Lib.hid (by rw [← hxn]; exact hct)
      have HWC := Lib.hid hwc
      have HCB := Lib.hid hcb
      have HX := Lib.hid hx
      clear hc hcd hx hxn hwc hcb
      have HQC := Lib.hid hqc
      have HXW := Lib.hid hxw
      have HXT := Lib.hid hxt
      go_upto_region 5 with (first
          | (refine wpList_load_mid rfl 56 (.tmp 19) rfl b (o + k * 24) rfl c.cl _ hcc Try.underlying56 rfl (infoCl' c) ?_)
          | (refine wpList_store_cl rfl (.tmp 8) (.tmp 20) rfl c _ (by rfl) rfl rfl ?_; rw [HWC.out, HCB.out]))
      clear hcc hqc hxw hxt
      cases ct with
      | false =>
        go_frame
        go_wp2_with fail
        exact ⟨⟨k + 1, by omega, by go_num, Lib.hid (by rw [HSN.out, HF.out]; simp [HXC.out]), bwc, qwc⟩, by simp [intOf]; omega⟩
      | true =>
        have fw0 : wc.cell? ⟨cb, 6, none⟩ = some (.int .u8 c.wh.op) := HQC.out.at (by rw [List.getElem?_toArray]; exact c.cl_at (by omega))
        have fw1 : wc.cell? ⟨cb, 7, none⟩ = some (S c.wh.nm) := HQC.out.at (by rw [List.getElem?_toArray]; exact c.cl_at (by omega))
        have fw2 : wc.cell? ⟨cb, 8, none⟩ = some (.int .u8 c.wh.kd) := HQC.out.at (by rw [List.getElem?_toArray]; exact c.cl_at (by omega))
        have fw3 : wc.cell? ⟨cb, 9, none⟩ = some (.bool c.wh.b3) := HQC.out.at (by rw [List.getElem?_toArray]; exact c.cl_at (by omega))
        have fw4 : wc.cell? ⟨cb, 10, none⟩ = some (.slice c.wh.s4.a c.wh.s4.n c.wh.s4.m) := HQC.out.at (by rw [List.getElem?_toArray]; exact c.cl_at (by omega))
        have fw5 : wc.cell? ⟨cb, 11, none⟩ = some (.bool c.wh.b5) := HQC.out.at (by rw [List.getElem?_toArray]; exact c.cl_at (by omega))
        have fw6 : wc.cell? ⟨cb, 12, none⟩ = some (.slice c.wh.s6.a c.wh.s6.n c.wh.s6.m) := HQC.out.at (by rw [List.getElem?_toArray]; exact c.cl_at (by omega))
        have fw7 : wc.cell? ⟨cb, 13, none⟩ = some (.int .i64 c.wh.i7) := HQC.out.at (by rw [List.getElem?_toArray]; exact c.cl_at (by omega))
        have fw8 : wc.cell? ⟨cb, 14, none⟩ = some (.slice c.wh.s8.a c.wh.s8.n c.wh.s8.m) := HQC.out.at (by rw [List.getElem?_toArray]; exact c.cl_at (by omega))
        have hr := rrefs_any K _ x.wh (Nat.le_refl _) c.wh wc (HXW.out.below bwc hK (Nat.le_refl _)) (by omega) hpl.1
        go_frame
        go_wp2_with fail
        refine hr.mono ?_
        rintro e w5 ⟨x5, rfl, hx5, b5⟩
        obtain ⟨xa, xc, rfl, _, _⟩ := hx5.form
        have hi := in_any w5.heap.size _ (refs x.wh) s w5 hx5 hs
        have hs5 := b5.size
        have bw5 := bwc.trans (b5.mono (by omega))
        have q5 := qwc.below b5 qwc.lt
        have hqc5 := HQC.out.below b5 HQC.out.lt
        clear hr fw0 fw1 fw2 fw3 fw4 fw5 fw6 fw7 fw8
        have ft0 : w5.cell? ⟨cb, 15, none⟩ = some (.int .u8 c.th.op) := hqc5.at (by rw [List.getElem?_toArray]; exact c.cl_at (by omega))
        have ft1 : w5.cell? ⟨cb, 16, none⟩ = some (S c.th.nm) := hqc5.at (by rw [List.getElem?_toArray]; exact c.cl_at (by omega))
        have ft2 : w5.cell? ⟨cb, 17, none⟩ = some (.int .u8 c.th.kd) := hqc5.at (by rw [List.getElem?_toArray]; exact c.cl_at (by omega))
        have ft3 : w5.cell? ⟨cb, 18, none⟩ = some (.bool c.th.b3) := hqc5.at (by rw [List.getElem?_toArray]; exact c.cl_at (by omega))
        have ft4 : w5.cell? ⟨cb, 19, none⟩ = some (.slice c.th.s4.a c.th.s4.n c.th.s4.m) := hqc5.at (by rw [List.getElem?_toArray]; exact c.cl_at (by omega))
        have ft5 : w5.cell? ⟨cb, 20, none⟩ = some (.bool c.th.b5) := hqc5.at (by rw [List.getElem?_toArray]; exact c.cl_at (by omega))
        have ft6 : w5.cell? ⟨cb, 21, none⟩ = some (.slice c.th.s6.a c.th.s6.n c.th.s6.m) := hqc5.at (by rw [List.getElem?_toArray]; exact c.cl_at (by omega))
        have ft7 : w5.cell? ⟨cb, 22, none⟩ = some (.int .i64 c.th.i7) := hqc5.at (by rw [List.getElem?_toArray]; exact c.cl_at (by omega))
        have ft8 : w5.cell? ⟨cb, 23, none⟩ = some (.slice c.th.s8.a c.th.s8.n c.th.s8.m) := hqc5.at (by rw [List.getElem?_toArray]; exact c.cl_at (by omega))
        have hr2 := rrefs_any K _ x.th (Nat.le_refl _) c.th w5 (HXT.out.below bw5 hK (Nat.le_refl _)) (by omega) hpl.2
        have HQ5 := Lib.hid hqc5
        clear hqc5
        by_cases hm : s ∈ refs x.wh
        · have hz : 0 ≤ inI (refs x.wh) s := inI_ge hm
          have HE : Hid (true = db) := Lib.hid (by rw [← HDB.out]; symm; refine HAT.out ?_; simp [HXC.out, hits, hm])
          obtain ⟨z, hzE⟩ : ∃ z, inI (refs x.wh) s = z := ⟨_, rfl⟩
          rw [hzE] at hi hz
          clear hzE
          go_wp2_with fail
          refine hi.mono ?_
          rintro e w6 ⟨rfl, rfl⟩
          go_wp2_with fail
          go_ret
          exact ⟨by rw [← HE.out]; rfl, bw5⟩
        · rw [inI_lt hm] at hi
          go_wp2_with fail
          refine hi.mono ?_
          rintro e w6 ⟨rfl, rfl⟩
          go_wp2_with fail
          refine hr2.mono ?_
          rintro e w7 ⟨x7, rfl, hx7, b7⟩
          obtain ⟨ya, yc, rfl, _, _⟩ := hx7.form
          have hi2 := in_any w7.heap.size _ (refs x.th) s w7 hx7 hs
          have hs7 := b7.size
          have bw7 := bw5.trans (b7.mono (by omega))
          have q7 := q5.below b7 q5.lt
          clear hr2 ft0 ft1 ft2 ft3 ft4 ft5 ft6 ft7 ft8
          by_cases hm2 : s ∈ refs x.th
          · have hz : 0 ≤ inI (refs x.th) s := inI_ge hm2
            have HE : Hid (true = db) := Lib.hid (by rw [← HDB.out]; symm; refine HAT.out ?_; simp [HXC.out, hits, hm2])
            obtain ⟨z, hzE⟩ : ∃ z, inI (refs x.th) s = z := ⟨_, rfl⟩
            rw [hzE] at hi2 hz
            clear hzE
            go_wp2_with fail
            refine hi2.mono ?_
            rintro e w6 ⟨rfl, rfl⟩
            go_wp2_with fail
            go_ret
            exact ⟨by rw [← HE.out]; rfl, bw7⟩
          · rw [inI_lt hm2] at hi2
            go_wp2_with fail
            refine hi2.mono ?_
            rintro e w6 ⟨rfl, rfl⟩
            go_wp2_with fail
            exact ⟨⟨k + 1, by omega, by go_num, Lib.hid (by rw [HSN.out, HF.out]; simp [HXC.out, hits, hm, hm2]), bw7, q7⟩, by simp [intOf]; omega⟩
    · obtain rfl : k = cs.length := by omega
      have HE : Hid (false = db) := Lib.hid (by rw [← HDB.out, ← HF.out, List.take_length])
      go_wp2_with fail
      go_ret
      exact ⟨by rw [← HE.out]; rfl, hbr⟩
end Go.Proofs.Ythbnbjigmgoldaa
