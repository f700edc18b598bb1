/- The reference of layer 36: ReadAnswer. No conditions beyond those stated. -/
import Derived.Test.YtaccaebdmndkiaaGreatDoorBRRead
namespace Go.Proofs.YtaccaebdmndkiaaGreatDoor
open Go.RowKit
set_option linter.unusedVariables false

set_option maxRecDepth 100000 in
set_option maxHeartbeats 4000000 in
theorem rreadA_any (s : ByteArray) (w : World) :
    Calls Tryz.prog 23 #[.string s] w fun e w' => ∃ ov, e = .returned (.tuple #[.agg #[.int .i64 (readA s.data.toList).1.num, .int .i64 (readA s.data.toList).1.day, ov], .int .i64 (readA s.data.toList).2]) ∧ Rets w'.heap.size w' ov (readA s.data.toList).1.rts ∧ Below w.heap.size w w' := by
  have hb1 : Below w.heap.size w (w.alloc (.cells #[.int .i64 0, .int .i64 0, .slice none 0 0] 41)) := (Below.refl w.heap.size w).alloc (Nat.le_refl _) _
  have qr := Blk.new w #[.int .i64 0, .int .i64 0, .slice none 0 0] 41
  have hz1 : (w.alloc (.cells #[.int .i64 0, .int .i64 0, .slice none 0 0] 41)).heap.size = w.heap.size + 1 := by simp
  obtain ⟨W1, hW1⟩ : ∃ W1, w.alloc (.cells #[.int .i64 0, .int .i64 0, .slice none 0 0] 41) = W1 := ⟨_, rfl⟩
  rw [hW1] at hb1 qr hz1
  have HW1 := Lib.hid hW1
  clear hW1
  obtain ⟨l, hl⟩ : ∃ l, s.data.toList = l := ⟨_, rfl⟩
  have hcall := rparse_any s ⟨#[66, 65, 67, 75]⟩ ⟨#[114, 101, 116, 117, 114, 110]⟩ 3 2 W1 (by omega) (by omega)
  rw [hl, hz1, show parseS (⟨#[66, 65, 67, 75]⟩ : ByteArray).data.toList 3 (⟨#[114, 101, 116, 117, 114, 110]⟩ : ByteArray).data.toList 2 l = pA l from rfl] at hcall
  have HL := Lib.hid hl
  rw [hl]
  have HZ := Lib.hid hz1
  clear hl hz1
  go_enter Tryz.func23, Tryz.ntmps23
  go_wp2_with fail
  rw [HW1.out]
  refine hcall.mono ?_
  rintro e w2 ⟨v, vs, rfl, hO, hI, hb2⟩
  clear hcall
  have hbw2 : Below w.heap.size w w2 := hb1.trans (hb2.mono (by omega))
  have qr2 := qr.below hb2 (by omega)
  obtain ⟨r0, r1, r2⟩ := qr2.three
  have rf0 := qr2.free 0
  have rf1 := qr2.free 1
  have rf2 := qr2.free 2
  clear qr hb1
  by_cases hpc : (pA l).2 = 0
  case neg =>
    have hrd : readA l = (An.z, (pA l).2) := by unfold readA; rw [if_pos hpc]
    obtain ⟨pc, hpce⟩ : ∃ pc, (pA l).2 = pc := ⟨_, rfl⟩
    rw [hpce] at hpc hrd ⊢
    have HRD := Lib.hid hrd
    have HPC := Lib.hid hpce
    have hne : (pc != 0) = true := by rw [bne_iff_ne]; exact hpc
    clear hrd hpce hpc hO hI
    go_wp2_with fail
    obtain ⟨W9, hW9⟩ : ∃ W9, (((w2.setCell ⟨w.heap.size, 0, none⟩ (.int .i64 0)).setCell ⟨w.heap.size, 1, none⟩ (.int .i64 0)).setCell ⟨w.heap.size, 2, none⟩ (.slice none 0 0)) = W9 := ⟨_, rfl⟩
    have q9 := qr2.set3 (.int .i64 0) (.int .i64 0) (.slice none 0 0)
    have hb9 := hbw2.trans (below_set3 (w := w2) (Nat.le_refl w.heap.size) (.int .i64 0) (.int .i64 0) (.slice none 0 0))
    rw [hW9] at q9 hb9 ⊢
    clear hW9
    obtain ⟨z0, z1, z2⟩ := q9.three
    refine bodyPost_ret (v := .tuple #[.agg #[.int .i64 0, .int .i64 0, .slice none 0 0], .int .i64 pc]) (by simp [results, Tryz.results23, go_sem, z0, z1, z2]) rfl ⟨.slice none 0 0, ?_, ?_, hb9⟩
    · rw [HRD.out]; rfl
    · rw [HRD.out]; exact Recs.nil none 0 (by simp [maxLen]) (fun _ => rfl)
  case pos =>
    obtain ⟨rows, hrows⟩ : ∃ rows, (pA l).1 = rows := ⟨_, rfl⟩
    have hpe : pA l = (rows, 0) := by rw [← hrows, ← hpc]
    obtain ⟨ra, rs, rfl, ⟨g4, _⟩, g5, _⟩ := parse_some wBACK_no.1 wReturn_no.1 hpe
    have hcF := cond_A hpc
    rw [hrows] at hI hcF
    have hrd : readA l = if okA (anOf (ra :: rs)) = true ∧ textA (anOf (ra :: rs)) = l then (anOf (ra :: rs), 0) else (An.z, 362) := by
      unfold readA; rw [if_neg (by rw [hpc]; simp), hrows]
      by_cases h : okA (anOf (ra :: rs)) = true ∧ textA (anOf (ra :: rs)) = l
      · rw [if_pos h, if_pos (hcF.2 h)]
      · rw [if_neg h, if_neg (fun h' => h (hcF.1 h'))]
    rw [hpc]
    have HRD := Lib.hid hrd
    have HG4 := Lib.hid g4
    have HG5 : Hid (∀ r ∈ rs, r.length = 2) := Lib.hid fun r hr => (g5 r hr).1
    have hvl : vs.length = rs.length + 1 := by rw [hI.1]; rfl
    have HVL := Lib.hid hvl
    have hbnd : rs.length ≤ 2000000 := by
      have h1 := parse_length wBACK 3 wReturn 2 l
      rw [show parseS wBACK 3 wReturn 2 l = pA l from rfl, hpe] at h1
      simp only [List.length_cons] at h1
      omega
    clear hrows hpe hrd g4 g5 hpc hcF
    obtain ⟨g, cap, hv, hgb, hg, hlc, hcm, _, hcs⟩ := hO.cases.resolve_left (by rintro ⟨_, h⟩; rw [h] at hvl; simp at hvl)
    rw [hvl] at hv hlc
    clear hvl
    subst hv
    have HCS := Lib.hid hcs
    have HI := Lib.hid hI
    unfold maxLen at hcm
    obtain ⟨v0, hv0⟩ : ∃ v0, vs[0]? = some v0 := ⟨vs[0]'(by rw [HVL.out]; omega), List.getElem?_eq_getElem _⟩
    have k0 := hcs 0 v0 hv0
    obtain ⟨b0, cap0, rfl, ⟨l0, m0⟩, ⟨cs0, fl0, hbk0⟩, hc0⟩ := hI.2 0 v0 ra hv0 rfl
    have hb0 : b0 < w2.heap.size := (Array.getElem?_eq_some_iff.1 hbk0).1
    obtain ⟨num, hnum⟩ : ∃ x, ra[0]?.getD 0 = x := ⟨_, rfl⟩
    obtain ⟨day, hday⟩ : ∃ x, ra[1]?.getD 0 = x := ⟨_, rfl⟩
    have k1 : w2.cell? ⟨b0, 0, none⟩ = some (.int .i64 num) := hc0 0 num (by rw [← hnum, List.getElem?_eq_getElem (by rw [HG4.out]; omega)]; rfl)
    have k2 : w2.cell? ⟨b0, 1, none⟩ = some (.int .i64 day) := hc0 1 day (by rw [← hday, List.getElem?_eq_getElem (by rw [HG4.out]; omega)]; rfl)
    rw [HG4.out] at k0
    have HNUM := Lib.hid hnum
    have HDAY := Lib.hid hday
    clear hv0 hc0 hnum hday hI hcs hO l0 m0
    go_upto_region 4 with fail
    refine region_plain (fun W => Hid (W.cell? ⟨g, 0, none⟩ = some (.slice (some ⟨b0, 0, none⟩) 3 cap0) ∧ W.cell? ⟨b0, 0, none⟩ = some (.int .i64 num) ∧ W.cell? ⟨b0, 1, none⟩ = some (.int .i64 day))) [12] (by kernel_rfl) ?_
    have q0 : Hid (w2.drew.cell? ⟨g, 0, none⟩ = some (.slice (some ⟨b0, 0, none⟩) 3 cap0) ∧ w2.drew.cell? ⟨b0, 0, none⟩ = some (.int .i64 num) ∧ w2.drew.cell? ⟨b0, 1, none⟩ = some (.int .i64 day)) := Lib.hid ⟨k0, k1, k2⟩
    obtain ⟨W0, hW0⟩ : ∃ W0, w2.drew = W0 := ⟨_, rfl⟩
    have hk0 : Below w2.heap.size w2 W0 := hW0 ▸ (Below.refl _ w2).drew
    have hz0 : W0.heap.size = w2.heap.size := by rw [← hW0]; rfl
    rw [hW0] at q0 ⊢
    have K012 := Lib.hid (And.intro k0 (And.intro k1 k2))
    clear hW0 k0 k1 k2
    refine wpAnyD_take (i := 0) (v := _) rfl (by kernel_rfl) (by kernel_rfl) (by kernel_rfl) (by kernel_rfl) (by kernel_rfl) (fun _ _ _ h => h) (.inl ⟨by kernel_rfl, fun W' hS => by obtain ⟨c0, c1, c2⟩ := hS.out; go_simp <;> rfl⟩) q0 ?_
    refine wpAnyD_take (i := 1) (v := _) rfl (by kernel_rfl) (by kernel_rfl) (by kernel_rfl) (by kernel_rfl) (by kernel_rfl) (fun _ _ _ h => h) (.inl ⟨by kernel_rfl, fun W' hS => by obtain ⟨c0, c1, c2⟩ := hS.out; go_simp <;> rfl⟩) q0 ?_
    refine wpAnyD_take (i := 2) (v := _) rfl (by kernel_rfl) (by kernel_rfl) (by kernel_rfl) (by kernel_rfl) (by kernel_rfl) (fun _ _ _ h => h) (.inl ⟨by kernel_rfl, fun W' hS => by obtain ⟨c0, c1, c2⟩ := hS.out; go_simp <;> rfl⟩) q0 ?_
    refine wpAnyD_take (i := 3) (v := _) rfl (by kernel_rfl) (by kernel_rfl) (by kernel_rfl) (by kernel_rfl) (by kernel_rfl) (fun _ _ _ h => h) (.inl ⟨by kernel_rfl, fun W' hS => by obtain ⟨c0, c1, c2⟩ := hS.out; go_simp <;> rfl⟩) q0 ?_
    refine wpAnyD_take (i := 4) (v := _) rfl (by kernel_rfl) (by kernel_rfl) (by kernel_rfl) (by kernel_rfl) (by kernel_rfl) (fun _ _ _ h => h) (.inl ⟨by kernel_rfl, fun W' hS => by obtain ⟨c0, c1, c2⟩ := hS.out; go_simp <;> rfl⟩) q0 ?_
    refine wpAnyD_take (i := 5) (v := _) rfl (by kernel_rfl) (by kernel_rfl) (by kernel_rfl) (by kernel_rfl) (by kernel_rfl) (fun _ _ _ h => h) (.inl ⟨by kernel_rfl, fun W' hS => by obtain ⟨c0, c1, c2⟩ := hS.out; go_simp <;> rfl⟩) q0 ?_
    refine wpAnyD_take (i := 6) (v := _) rfl (by kernel_rfl) (by kernel_rfl) (by kernel_rfl) (by kernel_rfl) (by kernel_rfl) (fun _ _ _ h => h) (.inl ⟨by kernel_rfl, fun W' hS => by obtain ⟨c0, c1, c2⟩ := hS.out; go_simp <;> rfl⟩) q0 ?_
    refine wpAnyD_take (i := 7) (v := _) rfl (by kernel_rfl) (by kernel_rfl) (by kernel_rfl) (by kernel_rfl) (by kernel_rfl) (fun _ _ _ h => h) (.inl ⟨by kernel_rfl, fun W' hS => by obtain ⟨c0, c1, c2⟩ := hS.out; go_simp <;> rfl⟩) q0 ?_
    refine wpAnyD_take (i := 8) (v := _) rfl (by kernel_rfl) (by kernel_rfl) (by kernel_rfl) (by kernel_rfl) (by kernel_rfl) (fun _ _ _ h => h) (.inl ⟨by kernel_rfl, fun W' hS => by obtain ⟨c0, c1, c2⟩ := hS.out; go_simp <;> rfl⟩) q0 ?_
    refine wpAnyD_take (i := 9) (v := _) rfl (by kernel_rfl) (by kernel_rfl) (by kernel_rfl) (by kernel_rfl) (by kernel_rfl) (fun _ _ _ h => h) (.inl ⟨by kernel_rfl, fun W' hS => by obtain ⟨c0, c1, c2⟩ := hS.out; go_simp <;> rfl⟩) q0 ?_
    refine wpAnyD_take (i := 10) (v := _) rfl (by kernel_rfl) (by kernel_rfl) (by kernel_rfl) (by kernel_rfl) (by kernel_rfl) (fun _ _ _ h => h) (.inl ⟨by kernel_rfl, fun W' hS => by obtain ⟨c0, c1, c2⟩ := hS.out; go_simp <;> rfl⟩) q0 ?_
    refine wpAnyD_one (i := 11) (by kernel_rfl) rfl (by kernel_rfl) ?_
    go_simp
    have hb3 : Below w2.heap.size w2 (W0.alloc (.cells #[.int .i64 0, .int .i64 0, .slice none 0 0] 41)) := hk0.alloc (Nat.le_of_eq hz0.symm) _
    have qf := Blk.new W0 #[.int .i64 0, .int .i64 0, .slice none 0 0] 41
    have hz3 : (W0.alloc (.cells #[.int .i64 0, .int .i64 0, .slice none 0 0] 41)).heap.size = w2.heap.size + 1 := by rw [World.size_alloc, hz0]
    rw [hz0] at qf
    obtain ⟨W4, hW4⟩ : ∃ W4, W0.alloc (.cells #[.int .i64 0, .int .i64 0, .slice none 0 0] 41) = W4 := ⟨_, rfl⟩
    rw [hW4] at hb3 qf hz3 ⊢
    clear hW4
    have q4 : Hid (W4.cell? ⟨g, 0, none⟩ = some (.slice (some ⟨b0, 0, none⟩) 3 cap0) ∧ W4.cell? ⟨b0, 0, none⟩ = some (.int .i64 num) ∧ W4.cell? ⟨b0, 1, none⟩ = some (.int .i64 day)) := by
      obtain ⟨k0, k1, k2⟩ := K012.out
      exact Lib.hid ⟨(hb3.cell (p := ⟨g, 0, none⟩) hg).trans k0, (hb3.cell (p := ⟨b0, 0, none⟩) hb0).trans k1, (hb3.cell (p := ⟨b0, 1, none⟩) hb0).trans k2⟩
    obtain ⟨d0, d1, d2⟩ := qf.three
    have f0 := qf.free 0
    have f1 := qf.free 1
    have f2 := qf.free 2
    refine wpAnyD_one (i := 12) (by kernel_rfl) rfl (by kernel_rfl) ?_
    go_simp
    have qf5 := (qf.set (i := 0) (.int .i64 num)).set (i := 1) (.int .i64 day)
    have q5 := qf.set3 (.int .i64 num) (.int .i64 day) (.slice none 0 0)
    have hb5 := hb3.trans (below_set3 (w := W4) (Nat.le_refl w2.heap.size) (.int .i64 num) (.int .i64 day) (.slice none 0 0))
    have hz5 : (((W4.setCell ⟨w2.heap.size, 0, none⟩ (.int .i64 num)).setCell ⟨w2.heap.size, 1, none⟩ (.int .i64 day)).setCell ⟨w2.heap.size, 2, none⟩ (.slice none 0 0)).heap.size = w2.heap.size + 1 := by simp only [World.size_setCell]; exact hz3
    obtain ⟨W5, hW5⟩ : ∃ W5, ((W4.setCell ⟨w2.heap.size, 0, none⟩ (.int .i64 num)).setCell ⟨w2.heap.size, 1, none⟩ (.int .i64 day)).setCell ⟨w2.heap.size, 2, none⟩ (.slice none 0 0) = W5 := ⟨_, rfl⟩
    rw [hW5] at q5 hb5 hz5 ⊢
    clear hW5 d0 d1 d2 f0 f1 f2 qf hb3 hz3 q4 q0 hz0 hk0 K012 qf5
    refine wpAnyD_done (by kernel_rfl) ?_ _
    have HZ5 := Lib.hid hz5
    clear hz5
    go_wp2_with fail
    go_loopw [7] (fun iv wr => ∃ (k : Nat) (lv : Value), (1 ≤ k ∧ k ≤ rs.length + 1) ∧ iv = .int .i64 k ∧ Blk wr w2.heap.size #[.int .i64 num, .int .i64 day, lv] 41 ∧ OwnR (w2.heap.size + 1) wr lv ((rs.take (k - 1)).map rtOf) ∧ Below w2.heap.size w2 wr) (fun iv _ => rs.length + 1 - (intOf iv).toNat)
    case atStart => exact ⟨1, _, ⟨Nat.le_refl _, by omega⟩, rfl, q5, OwnR.nil _ _, hb5⟩
    case round =>
      obtain ⟨k, lv, ⟨hk1, hk⟩, rfl, qv, hOw, hbr⟩ := hrel
      have hwz : w2.heap.size < wr.heap.size := qv.lt
      by_cases hlt : k < rs.length + 1
      · obtain ⟨vk, hvk⟩ : ∃ x, vs[k]? = some x := ⟨vs[k]'(by rw [HVL.out]; omega), List.getElem?_eq_getElem _⟩
        obtain ⟨rk, hrk⟩ : ∃ x, rs[k - 1]? = some x := ⟨rs[k - 1]'(by omega), List.getElem?_eq_getElem _⟩
        have hrk5 : rk.length = 2 := HG5.out rk (List.mem_of_getElem? hrk)
        obtain ⟨bk, capk, rfl, ⟨lk, mk⟩, ⟨csk, flk, hbkk⟩, hck⟩ := HI.out.2 k vk rk hvk (by rw [show k = (k - 1) + 1 by omega, List.getElem?_cons_succ]; exact hrk)
        have hbkl : bk < w2.heap.size := (Array.getElem?_eq_some_iff.1 hbkk).1
        have kk0 : wr.cell? ⟨g, k, none⟩ = some (.slice (some ⟨bk, 0, none⟩) 2 capk) := by
          rw [← hrk5]; exact (hbr.cell (p := ⟨g, k, none⟩) hg).trans (HCS.out k _ hvk)
        obtain ⟨od, hod⟩ : ∃ x, rtOf rk = x := ⟨_, rfl⟩
        have hxx : ∀ j x, rk[j]? = some x → wr.cell? ⟨bk, j, none⟩ = some (.int .i64 x) := fun j x hx => (hbr.cell (p := ⟨bk, j, none⟩) hbkl).trans (hck j x hx)
        have hget : ∀ j, j < 2 → rk[j]? = some (rk[j]?.getD 0) := fun j hj => by rw [List.getElem?_eq_getElem (by omega)]; rfl
        have x0 : wr.cell? ⟨bk, 0, none⟩ = some (.int .i64 od.ord) := by rw [← hod]; exact hxx 0 _ (hget 0 (by omega))
        have x1 : wr.cell? ⟨bk, 1, none⟩ = some (.int .i64 od.why) := by rw [← hod]; exact hxx 1 _ (hget 1 (by omega))
        have htk : (rs.take (k + 1 - 1)).map rtOf = (rs.take (k - 1)).map rtOf ++ [od] := by
          rw [show k + 1 - 1 = (k - 1) + 1 by omega, List.take_add_one, hrk, List.map_append, ← hod]; rfl
        have HTK := Lib.hid htk
        obtain ⟨dn, hdn⟩ : ∃ x, (rs.take (k - 1)).map rtOf = x := ⟨_, rfl⟩
        have hdl : dn.length ≤ 3000000 := by rw [← hdn, List.length_map, List.length_take]; omega
        rw [hdn] at hOw
        have HDN := Lib.hid hdn
        have HOD := Lib.hid hod
        obtain ⟨la, lc, rfl⟩ := hOw.form
        obtain ⟨P, hP⟩ : ∃ P, dn.length = P := ⟨_, rfl⟩
        have HPP := Lib.hid hP
        rw [hP] at qv hOw hdl
        clear hvk hrk hrk5 lk mk hbkk hck hxx hget htk hdn hod hP
        go_upto_region 8 with fail
        refine region_plain (fun W => Hid (Blk W w2.heap.size #[.int .i64 num, .int .i64 day, .slice la P lc] 41 ∧ W.cell? ⟨g, k, none⟩ = some (.slice (some ⟨bk, 0, none⟩) 2 capk) ∧ W.cell? ⟨bk, 0, none⟩ = some (.int .i64 od.ord) ∧ W.cell? ⟨bk, 1, none⟩ = some (.int .i64 od.why))) [18] (by kernel_rfl) ?_
        have q0 : Hid (Blk wr.drew w2.heap.size #[.int .i64 num, .int .i64 day, .slice la P lc] 41 ∧ wr.drew.cell? ⟨g, k, none⟩ = some (.slice (some ⟨bk, 0, none⟩) 2 capk) ∧ wr.drew.cell? ⟨bk, 0, none⟩ = some (.int .i64 od.ord) ∧ wr.drew.cell? ⟨bk, 1, none⟩ = some (.int .i64 od.why)) := Lib.hid ⟨qv, kk0, x0, x1⟩
        have keep : ∀ B W, Below B wr W → w2.heap.size + 1 ≤ B → Hid (Blk W w2.heap.size #[.int .i64 num, .int .i64 day, .slice la P lc] 41 ∧ W.cell? ⟨g, k, none⟩ = some (.slice (some ⟨bk, 0, none⟩) 2 capk) ∧ W.cell? ⟨bk, 0, none⟩ = some (.int .i64 od.ord) ∧ W.cell? ⟨bk, 1, none⟩ = some (.int .i64 od.why)) := fun B W hb hB => Lib.hid ⟨qv.below hb (by omega), (hb.cell (p := ⟨g, k, none⟩) (show g < B by omega)).trans kk0, (hb.cell (p := ⟨bk, 0, none⟩) (show bk < B by omega)).trans x0, (hb.cell (p := ⟨bk, 1, none⟩) (show bk < B by omega)).trans x1⟩
        have KEEP := Lib.hid keep
        obtain ⟨W0, hW0⟩ : ∃ W0, wr.drew = W0 := ⟨_, rfl⟩
        have hk0 : Below wr.heap.size wr W0 := hW0 ▸ (Below.refl _ wr).drew
        have hz0 : wr.heap.size ≤ W0.heap.size := hk0.size
        have hOw0 : OwnR (w2.heap.size + 1) W0 (.slice la P lc) dn := hW0 ▸ (show OwnR (w2.heap.size + 1) wr.drew _ _ from hOw)
        rw [hW0] at q0 ⊢
        clear hW0 x0 x1 kk0 keep
        refine wpAnyD_take (i := 0) (v := _) rfl (by kernel_rfl) (by kernel_rfl) (by kernel_rfl) (by kernel_rfl) (by kernel_rfl) (fun _ _ _ h => h) (.inl ⟨by kernel_rfl, fun W' hS => by obtain ⟨c0, k0, x0, x1⟩ := hS.out; obtain ⟨c0, c1, c2⟩ := c0.three; go_simp <;> rfl⟩) q0 ?_
        refine wpAnyD_take (i := 1) (v := _) rfl (by kernel_rfl) (by kernel_rfl) (by kernel_rfl) (by kernel_rfl) (by kernel_rfl) (fun _ _ _ h => h) (.inl ⟨by kernel_rfl, fun W' hS => by obtain ⟨c0, k0, x0, x1⟩ := hS.out; obtain ⟨c0, c1, c2⟩ := c0.three; go_simp <;> rfl⟩) q0 ?_
        refine wpAnyD_take (i := 2) (v := _) rfl (by kernel_rfl) (by kernel_rfl) (by kernel_rfl) (by kernel_rfl) (by kernel_rfl) (fun _ _ _ h => h) (.inl ⟨by kernel_rfl, fun W' hS => by obtain ⟨c0, k0, x0, x1⟩ := hS.out; obtain ⟨c0, c1, c2⟩ := c0.three; go_simp <;> rfl⟩) q0 ?_
        refine wpAnyD_take (i := 3) (v := _) rfl (by kernel_rfl) (by kernel_rfl) (by kernel_rfl) (by kernel_rfl) (by kernel_rfl) (fun _ _ _ h => h) (.inl ⟨by kernel_rfl, fun W' hS => by obtain ⟨c0, k0, x0, x1⟩ := hS.out; obtain ⟨c0, c1, c2⟩ := c0.three; go_simp <;> rfl⟩) q0 ?_
        refine wpAnyD_take (i := 4) (v := _) rfl (by kernel_rfl) (by kernel_rfl) (by kernel_rfl) (by kernel_rfl) (by kernel_rfl) (fun _ _ _ h => h) (.inl ⟨by kernel_rfl, fun W' hS => by obtain ⟨c0, k0, x0, x1⟩ := hS.out; obtain ⟨c0, c1, c2⟩ := c0.three; go_simp <;> rfl⟩) q0 ?_
        refine wpAnyD_take (i := 5) (v := _) rfl (by kernel_rfl) (by kernel_rfl) (by kernel_rfl) (by kernel_rfl) (by kernel_rfl) (fun _ _ _ h => h) (.inl ⟨by kernel_rfl, fun W' hS => by obtain ⟨c0, k0, x0, x1⟩ := hS.out; obtain ⟨c0, c1, c2⟩ := c0.three; go_simp <;> rfl⟩) q0 ?_
        refine wpAnyD_take (i := 6) (v := _) rfl (by kernel_rfl) (by kernel_rfl) (by kernel_rfl) (by kernel_rfl) (by kernel_rfl) (fun _ _ _ h => h) (.inl ⟨by kernel_rfl, fun W' hS => by obtain ⟨c0, k0, x0, x1⟩ := hS.out; obtain ⟨c0, c1, c2⟩ := c0.three; go_simp <;> rfl⟩) q0 ?_
        refine wpAnyD_take (i := 7) (v := _) rfl (by kernel_rfl) (by kernel_rfl) (by kernel_rfl) (by kernel_rfl) (by kernel_rfl) (fun _ _ _ h => h) (.inl ⟨by kernel_rfl, fun W' hS => by obtain ⟨c0, k0, x0, x1⟩ := hS.out; obtain ⟨c0, c1, c2⟩ := c0.three; go_simp <;> rfl⟩) q0 ?_
        refine wpAnyD_take (i := 8) (v := _) rfl (by kernel_rfl) (by kernel_rfl) (by kernel_rfl) (by kernel_rfl) (by kernel_rfl) (fun _ _ _ h => h) (.inl ⟨by kernel_rfl, fun W' hS => by obtain ⟨c0, k0, x0, x1⟩ := hS.out; obtain ⟨c0, c1, c2⟩ := c0.three; go_simp <;> rfl⟩) q0 ?_
        refine wpAnyD_take (i := 9) (v := _) rfl (by kernel_rfl) (by kernel_rfl) (by kernel_rfl) (by kernel_rfl) (by kernel_rfl) (fun _ _ _ h => h) (.inl ⟨by kernel_rfl, fun W' hS => by obtain ⟨c0, k0, x0, x1⟩ := hS.out; obtain ⟨c0, c1, c2⟩ := c0.three; go_simp <;> rfl⟩) q0 ?_
        refine wpAnyD_take (i := 10) (v := _) rfl (by kernel_rfl) (by kernel_rfl) (by kernel_rfl) (by kernel_rfl) (by kernel_rfl) (fun _ _ _ h => h) (.inl ⟨by kernel_rfl, fun W' hS => by obtain ⟨c0, k0, x0, x1⟩ := hS.out; obtain ⟨c0, c1, c2⟩ := c0.three; go_simp <;> rfl⟩) q0 ?_
        refine wpAnyD_take (i := 11) (v := _) rfl (by kernel_rfl) (by kernel_rfl) (by kernel_rfl) (by kernel_rfl) (by kernel_rfl) (fun _ _ _ h => h) (.inl ⟨by kernel_rfl, fun W' hS => by obtain ⟨c0, k0, x0, x1⟩ := hS.out; obtain ⟨c0, c1, c2⟩ := c0.three; go_simp <;> rfl⟩) q0 ?_
        refine wpAnyD_take (i := 12) (v := _) rfl (by kernel_rfl) (by kernel_rfl) (by kernel_rfl) (by kernel_rfl) (by kernel_rfl) (fun _ _ _ h => h) (.inl ⟨by kernel_rfl, fun W' hS => by obtain ⟨c0, k0, x0, x1⟩ := hS.out; obtain ⟨c0, c1, c2⟩ := c0.three; go_simp <;> rfl⟩) q0 ?_
        refine wpAnyD_take (i := 13) (v := _) rfl (by kernel_rfl) (by kernel_rfl) (by kernel_rfl) (by kernel_rfl) (by kernel_rfl) (fun _ _ _ h => h) (.inl ⟨by kernel_rfl, fun W' hS => by obtain ⟨c0, k0, x0, x1⟩ := hS.out; obtain ⟨c0, c1, c2⟩ := c0.three; go_simp <;> rfl⟩) q0 ?_
        refine wpAnyD_take (i := 14) (v := _) rfl (by kernel_rfl) (by kernel_rfl) (by kernel_rfl) (by kernel_rfl) (by kernel_rfl) (fun _ _ _ h => h) (.inl ⟨by kernel_rfl, fun W' hS => by obtain ⟨c0, k0, x0, x1⟩ := hS.out; obtain ⟨c0, c1, c2⟩ := c0.three; go_simp <;> rfl⟩) q0 ?_
        refine wpAnyD_one (i := 15) (by kernel_rfl) rfl (by kernel_rfl) ?_
        go_simp
        have hb6 : Below wr.heap.size wr (W0.alloc (.cells #[.int .i64 od.ord, .int .i64 od.why] 72)) := hk0.alloc hz0 _
        first | refine ⟨KEEP.out _ _ hb6 (by omega), ?_⟩ | skip
        refine wpAnyD_one (i := 16) (by kernel_rfl) rfl (by kernel_rfl) ?_
        refine wp_append_R (.tmp 37) (.tmp 51) rfl W0 od (by kernel_rfl) (by kernel_rfl) hOw0 (by rw [HPP.out]; omega) (by omega) ?_
        intro v' w' hOn hbn
        have hbn2 : Below (w2.heap.size + 1) wr w' := (hk0.mono (by omega)).trans hbn
        have q7 := KEEP.out _ _ hbn2 (Nat.le_refl _)
        refine ⟨fun _ => q7, ?_⟩
        refine wpAnyD_take (i := 17) (v := .pointer (some ⟨w2.heap.size, 2, none⟩)) rfl (by kernel_rfl) (by kernel_rfl) (by kernel_rfl) (by kernel_rfl) (by kernel_rfl) (fun _ _ _ h => h) (.inl ⟨by kernel_rfl, fun W' hS => by go_simp⟩) q7 ?_
        have qv' := q7.out.1
        have hfr := qv'.free 2
        obtain ⟨c0, c1, c2⟩ := qv'.three
        obtain ⟨xa, xc, rfl⟩ := hOn.form
        have hxl : (dn ++ [od]).length = P + 1 := by rw [List.length_append, HPP.out]; rfl
        rw [hxl] at hOn ⊢
        refine wpAnyD_one (i := 18) (by kernel_rfl) rfl (by kernel_rfl) ?_
        go_simp
        have q8 : Blk (w'.setCell ⟨w2.heap.size, 2, none⟩ (.slice xa (P + 1) xc)) w2.heap.size #[.int .i64 num, .int .i64 day, .slice xa (P + 1) xc] 41 := qv'.set _
        have h8 : Below w2.heap.size w2 (w'.setCell ⟨w2.heap.size, 2, none⟩ (.slice xa (P + 1) xc)) := (hbr.trans (hbn2.mono (by omega))).setCell (p := ⟨w2.heap.size, 2, none⟩) (Nat.le_refl _) _
        have hO8 := hOn.set (b := w2.heap.size) (i := 2) (by omega) (.slice xa (P + 1) xc)
        obtain ⟨w8, hw8⟩ : ∃ w8, w'.setCell ⟨w2.heap.size, 2, none⟩ (.slice xa (P + 1) xc) = w8 := ⟨_, rfl⟩
        rw [hw8] at q8 h8 hO8 ⊢
        first | refine ⟨fun h => absurd rfl h, ?_⟩ | refine ⟨fun h => absurd (by simp) h, ?_⟩ | skip
        refine wpAnyD_done (by kernel_rfl) ?_ _
        clear c0 c1 c2 hfr hw8
        go_wp2_with fail
        exact ⟨⟨k + 1, _, ⟨by omega, by omega⟩, by go_num, q8, by rw [HTK.out, HDN.out]; exact hO8, h8⟩, by simp [intOf]; omega⟩
      · obtain rfl : k = rs.length + 1 := by omega
        rw [show (rs.take (rs.length + 1 - 1)) = rs by rw [show rs.length + 1 - 1 = rs.length by omega, List.take_length]] at hOw
        obtain ⟨dn, hdn⟩ : ∃ x, rs.map rtOf = x := ⟨_, rfl⟩
        have hfi : anOf (ra :: rs) = ⟨num, day, dn⟩ := by rw [← HNUM.out, ← HDAY.out, ← hdn]; rfl
        rw [hdn] at hOw
        have hrd := HRD.out
        rw [hfi] at hrd
        have hov := hOw.rets
        have HOW := hOw
        obtain ⟨la, lc, rfl⟩ := hOw.form
        obtain ⟨P, hP⟩ : ∃ P, dn.length = P := ⟨_, rfl⟩
        have HPP := Lib.hid hP
        rw [hP] at qv hov HOW
        have HOW := Lib.hid HOW
        have hqr3 := qr2.below hbr qr2.lt
        have hbw3 := hbw2.trans (hbr.mono (by omega))
        have hwc := rwriteA_any wr.heap.size num day dn (.slice la P lc) wr hov (Nat.le_refl _)
        obtain ⟨d0, d1, d2⟩ := qv.three
        have HRD2 := Lib.hid hrd
        clear hP hfi hdn hrd hOw r0 r1 r2 rf0 rf1 rf2
        cases hok : okA ⟨num, day, dn⟩ with
        | false =>
          have hz : readA l = (An.z, 362) := by rw [HRD2.out, if_neg (by rw [hok]; simp)]
          rw [writeAS, if_neg (by rw [hok]; simp)] at hwc
          dsimp only at hwc
          clear hok
          go_wp2_with fail
          refine hwc.mono ?_
          rintro e w6 ⟨rfl, hb6⟩
          have qr3 := hqr3.below hb6 hqr3.lt
          obtain ⟨r0, r1, r2⟩ := qr3.three
          have rf0 := qr3.free 0
          have rf1 := qr3.free 1
          have rf2 := qr3.free 2
          have hbw6 := hbw3.trans (hb6.mono hbw3.size)
          clear d0 d1 d2
          go_wp2_with fail
          obtain ⟨W9, hW9⟩ : ∃ W9, (((w6.setCell ⟨w.heap.size, 0, none⟩ (.int .i64 0)).setCell ⟨w.heap.size, 1, none⟩ (.int .i64 0)).setCell ⟨w.heap.size, 2, none⟩ (.slice none 0 0)) = W9 := ⟨_, rfl⟩
          have q9 := qr3.set3 (.int .i64 0) (.int .i64 0) (.slice none 0 0)
          have hb9 := hbw6.trans (below_set3 (w := w6) (Nat.le_refl w.heap.size) (.int .i64 0) (.int .i64 0) (.slice none 0 0))
          rw [hW9] at q9 hb9 ⊢
          clear hW9
          obtain ⟨z0, z1, z2⟩ := q9.three
          refine bodyPost_ret (v := .tuple #[.agg #[.int .i64 0, .int .i64 0, .slice none 0 0], .int .i64 362]) (by simp [results, Tryz.results23, go_sem, z0, z1, z2]) rfl ⟨.slice none 0 0, ?_, ?_, hb9⟩
          · rw [hz]; rfl
          · rw [hz]; exact Recs.nil none 0 (by simp [maxLen]) (fun _ => rfl)
        | true =>
          rw [show writeAS ⟨num, day, dn⟩ = (textA ⟨num, day, dn⟩, 0) by rw [writeAS, if_pos hok]] at hwc
          dsimp only at hwc
          obtain ⟨tx, htx⟩ : ∃ tx, textA ⟨num, day, dn⟩ = tx := ⟨_, rfl⟩
          rw [htx] at hwc
          obtain ⟨ts, hts⟩ : ∃ ts : ByteArray, (⟨tx.toArray⟩ : ByteArray) = ts := ⟨_, rfl⟩
          have htd : ts.data.toList = tx := by rw [← hts]
          rw [hts] at hwc
          have HTD := Lib.hid (toList_of htd)
          have HTX := Lib.hid htx
          have HOK := Lib.hid hok
          have HLL := Lib.hid (toList_of HL.out)
          clear hts htd htx hok
          by_cases heq : tx = l
          · have gb : (ts.toList == s.toList) = true := by rw [HTD.out, HLL.out, heq]; simp
            have hz : readA l = (⟨num, day, dn⟩, 0) := by rw [HRD2.out, if_pos ⟨HOK.out, by rw [HTX.out]; exact heq⟩]
            have HZ2 := Lib.hid hz
            clear heq hz
            go_wp2_with fail
            refine hwc.mono ?_
            rintro e w6 ⟨rfl, hb6⟩
            have qr3 := hqr3.below hb6 hqr3.lt
            have qv3 := qv.below hb6 qv.lt
            clear d0 d1 d2
            obtain ⟨d0, d1, d2⟩ := qv3.three
            obtain ⟨r0, r1, r2⟩ := qr3.three
            have rf0 := qr3.free 0
            have rf1 := qr3.free 1
            have rf2 := qr3.free 2
            have hbw6 := hbw3.trans (hb6.mono hbw3.size)
            go_wp2_with fail
            have hov9 : Rets (((w6.setCell ⟨w.heap.size, 0, none⟩ (.int .i64 num)).setCell ⟨w.heap.size, 1, none⟩ (.int .i64 day)).setCell ⟨w.heap.size, 2, none⟩ (.slice la P lc)).heap.size (((w6.setCell ⟨w.heap.size, 0, none⟩ (.int .i64 num)).setCell ⟨w.heap.size, 1, none⟩ (.int .i64 day)).setCell ⟨w.heap.size, 2, none⟩ (.slice la P lc)) (.slice la P lc) dn := ((((HOW.out.old hb6).set (b := w.heap.size) (i := 0) (by omega) (.int .i64 num)).set (b := w.heap.size) (i := 1) (by omega) (.int .i64 day)).set (b := w.heap.size) (i := 2) (by omega) (.slice la P lc)).rets
            obtain ⟨W9, hW9⟩ : ∃ W9, (((w6.setCell ⟨w.heap.size, 0, none⟩ (.int .i64 num)).setCell ⟨w.heap.size, 1, none⟩ (.int .i64 day)).setCell ⟨w.heap.size, 2, none⟩ (.slice la P lc)) = W9 := ⟨_, rfl⟩
            have q9 := qr3.set3 (.int .i64 num) (.int .i64 day) (.slice la P lc)
            have hb9 := hbw6.trans (below_set3 (w := w6) (Nat.le_refl w.heap.size) (.int .i64 num) (.int .i64 day) (.slice la P lc))
            rw [hW9] at q9 hb9 hov9 ⊢
            clear hW9
            obtain ⟨z0, z1, z2⟩ := q9.three
            refine bodyPost_ret (v := .tuple #[.agg #[.int .i64 num, .int .i64 day, .slice la P lc], .int .i64 0]) (by simp [results, Tryz.results23, go_sem, z0, z1, z2]) rfl ⟨.slice la P lc, ?_, ?_, hb9⟩
            · rw [HZ2.out]
            · rw [HZ2.out]; exact hov9
          · have gb : (ts.toList == s.toList) = false := by rw [HTD.out, HLL.out, beq_eq_false_iff_ne]; exact heq
            have hz : readA l = (An.z, 362) := by rw [HRD2.out, if_neg]; rintro ⟨_, h2⟩; rw [HTX.out] at h2; exact heq h2
            have HZ2 := Lib.hid hz
            clear heq hz
            go_wp2_with fail
            refine hwc.mono ?_
            rintro e w6 ⟨rfl, hb6⟩
            have qr3 := hqr3.below hb6 hqr3.lt
            obtain ⟨r0, r1, r2⟩ := qr3.three
            have rf0 := qr3.free 0
            have rf1 := qr3.free 1
            have rf2 := qr3.free 2
            have hbw6 := hbw3.trans (hb6.mono hbw3.size)
            clear d0 d1 d2
            go_wp2_with fail
            obtain ⟨W9, hW9⟩ : ∃ W9, (((w6.setCell ⟨w.heap.size, 0, none⟩ (.int .i64 0)).setCell ⟨w.heap.size, 1, none⟩ (.int .i64 0)).setCell ⟨w.heap.size, 2, none⟩ (.slice none 0 0)) = W9 := ⟨_, rfl⟩
            have q9 := qr3.set3 (.int .i64 0) (.int .i64 0) (.slice none 0 0)
            have hb9 := hbw6.trans (below_set3 (w := w6) (Nat.le_refl w.heap.size) (.int .i64 0) (.int .i64 0) (.slice none 0 0))
            rw [hW9] at q9 hb9 ⊢
            clear hW9
            obtain ⟨z0, z1, z2⟩ := q9.three
            refine bodyPost_ret (v := .tuple #[.agg #[.int .i64 0, .int .i64 0, .slice none 0 0], .int .i64 362]) (by simp [results, Tryz.results23, go_sem, z0, z1, z2]) rfl ⟨.slice none 0 0, ?_, ?_, hb9⟩
            · rw [HZ2.out]; rfl
            · rw [HZ2.out]; exact Recs.nil none 0 (by simp [maxLen]) (fun _ => rfl)
end Go.Proofs.YtaccaebdmndkiaaGreatDoor
