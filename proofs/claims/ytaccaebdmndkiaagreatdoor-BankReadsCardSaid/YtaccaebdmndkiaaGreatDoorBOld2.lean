/- The statements' function old of layer 36: its walk. No conditions beyond the readings of the arguments. -/
import Derived.Test.YtaccaebdmndkiaaGreatDoorBOld
namespace Go.Proofs.YtaccaebdmndkiaaGreatDoor
open Go.RowKit
set_option linter.unusedVariables false

set_option maxRecDepth 100000 in
set_option maxHeartbeats 2000000 in
theorem old_any (K : Nat) (n d : Int) (l : List Rt) (v : Value) (w : World) (hv : Rets K w v l) (hK : K ≤ w.heap.size) (hll : l.length ≤ 8796093021952) :
    Calls Tryz.prog 12 #[.agg #[.int .i64 n, .int .i64 d, v]] w fun e w' => ∃ a c, e = .returned (.agg #[.int .i64 n, .int .i64 d, .slice a l.length c]) ∧ OwnR w.heap.size w' (.slice a l.length c) l ∧ Below w.heap.size w w' := by
  have hvl : ∃ a cap, v = .slice a l.length cap := by obtain ⟨a, cap, rfl, _⟩ := hv; exact ⟨a, cap, rfl⟩
  obtain ⟨va, vcap, rfl⟩ := hvl
  have p1 := Blk.new w #[.int .i64 n, .int .i64 d, .slice va l.length vcap] 30
  have h1 : Below w.heap.size w (w.alloc (.cells #[.int .i64 n, .int .i64 d, .slice va l.length vcap] 30)) := (Below.refl _ w).alloc (Nat.le_refl _) _
  have s1 : (w.alloc (.cells #[.int .i64 n, .int .i64 d, .slice va l.length vcap] 30)).heap.size = w.heap.size + 1 := by simp
  obtain ⟨w1, hw1⟩ : ∃ w1, w.alloc (.cells #[.int .i64 n, .int .i64 d, .slice va l.length vcap] 30) = w1 := ⟨_, rfl⟩
  rw [hw1] at p1 h1 s1
  have p2 := Blk.new w1 #[.int .i64 0, .int .i64 0, .slice none 0 0] 41
  have p1 := p1.alloc (.cells #[.int .i64 0, .int .i64 0, .slice none 0 0] 41)
  have h2 := h1.alloc (o := .cells #[.int .i64 0, .int .i64 0, .slice none 0 0] 41) (by omega)
  have s2 : (w1.alloc (.cells #[.int .i64 0, .int .i64 0, .slice none 0 0] 41)).heap.size = w.heap.size + 1 + 1 := by rw [World.size_alloc, s1]
  rw [s1] at p2
  obtain ⟨w2, hw2⟩ : ∃ w2, w1.alloc (.cells #[.int .i64 0, .int .i64 0, .slice none 0 0] 41) = w2 := ⟨_, rfl⟩
  rw [hw2] at p1 p2 h2 s2
  have p3 := Blk.new w2 #[.int .i64 n, .int .i64 d, .slice none 0 0] 41
  have p1 := p1.alloc (.cells #[.int .i64 n, .int .i64 d, .slice none 0 0] 41)
  have p2 := p2.alloc (.cells #[.int .i64 n, .int .i64 d, .slice none 0 0] 41)
  have h3 := h2.alloc (o := .cells #[.int .i64 n, .int .i64 d, .slice none 0 0] 41) (by omega)
  have s3 : (w2.alloc (.cells #[.int .i64 n, .int .i64 d, .slice none 0 0] 41)).heap.size = w.heap.size + 3 := by rw [World.size_alloc, s2]
  rw [s2] at p3
  obtain ⟨w3, hw3⟩ : ∃ w3, w2.alloc (.cells #[.int .i64 n, .int .i64 d, .slice none 0 0] 41) = w3 := ⟨_, rfl⟩
  rw [hw3] at p1 p2 p3 h3 s3
  have hch : ((w.alloc (.cells #[.int .i64 n, .int .i64 d, .slice va l.length vcap] 30)).alloc (.cells #[.int .i64 0, .int .i64 0, .slice none 0 0] 41)).alloc (.cells #[.int .i64 n, .int .i64 d, .slice none 0 0] 41) = w3 := by rw [hw1, hw2, hw3]
  have HCH := Lib.hid hch
  clear hch hw1 hw2 hw3 h1 h2 s1 s2
  have hv3 := hv.below h3 hK (Nat.le_refl _)
  have HS3 := Lib.hid s3
  clear s3
  go_enter Tryz.func12, Tryz.ntmps12
  go_wp2_with fail
  rw [HCH.out]
  go_loopw [4] (fun i wr => ∃ (k : Nat) (lv : Value), k ≤ l.length ∧ i = .int .i64 k ∧ Blk wr (w.heap.size + 1 + 1) #[.int .i64 n, .int .i64 d, lv] 41 ∧ OwnR (w.heap.size + 3) wr lv (l.take k) ∧ Below (w.heap.size + 1 + 1) w3 wr) (fun i _ => l.length - (intOf i).toNat)
  case atStart => exact ⟨0, _, Nat.zero_le _, rfl, p3, OwnR.nil _ _, Below.refl _ _⟩
  case round =>
    obtain ⟨k, lv, hk, rfl, qv, hOw, hbr⟩ := hrel
    have hszr := hbr.size
    rw [HS3.out] at hszr
    have qa := p1.below hbr (by omega)
    have qc := p2.below hbr (by omega)
    obtain ⟨d0, d1, d2⟩ := qa.three
    by_cases hlt : k < l.length
    · obtain ⟨ob, oo, ocap, he, _, hlc, hm, hob, hc⟩ := (Recs.cases hv3).resolve_left (by rintro ⟨_, _, _, h0, _⟩; omega)
      simp only [Value.slice.injEq, true_and] at he
      obtain ⟨rfl, rfl⟩ := he
      unfold maxLen at hm
      obtain ⟨c0, c1⟩ := ret_cells (cells_below hc hbr (by omega)) hlt
      have htk : l.take (k + 1) = l.take k ++ [l[k]?.getD Rt.z] := by rw [List.take_add_one, List.getElem?_eq_getElem hlt]; rfl
      obtain ⟨rt, hrt⟩ : ∃ rt, l[k]?.getD Rt.z = rt := ⟨_, rfl⟩
      rw [hrt] at c0 c1 htk
      have HTK := Lib.hid htk
      clear hrt hc htk
      obtain ⟨la, lc, rfl⟩ := hOw.form
      obtain ⟨P, hP⟩ : ∃ P, (l.take k).length = P := ⟨_, rfl⟩
      have HPP := Lib.hid hP
      rw [hP] at qv hOw
      clear hP
      go_upto_region 5 with fail
      refine region_plain (fun W => (Blk W w.heap.size #[.int .i64 n, .int .i64 d, .slice (some ⟨ob, oo, none⟩) l.length vcap] 30 ∧ Blk W (w.heap.size + 1 + 1) #[.int .i64 n, .int .i64 d, .slice la P lc] 41) ∧ W.cell? ⟨ob, oo + k * 2, none⟩ = some (.int .i64 rt.ord) ∧ W.cell? ⟨ob, oo + k * 2 + 1, none⟩ = some (.int .i64 rt.why)) [18] (by kernel_rfl) ?_
      have q0 : (Blk wr.drew w.heap.size #[.int .i64 n, .int .i64 d, .slice (some ⟨ob, oo, none⟩) l.length vcap] 30 ∧ Blk wr.drew (w.heap.size + 1 + 1) #[.int .i64 n, .int .i64 d, .slice la P lc] 41) ∧ wr.drew.cell? ⟨ob, oo + k * 2, none⟩ = some (.int .i64 rt.ord) ∧ wr.drew.cell? ⟨ob, oo + k * 2 + 1, none⟩ = some (.int .i64 rt.why) := ⟨⟨qa, qv⟩, c0, c1⟩
      obtain ⟨W0, hW0⟩ : ∃ W0, wr.drew = W0 := ⟨_, rfl⟩
      have hk0 : Below wr.heap.size wr W0 := hW0 ▸ (Below.refl _ wr).drew
      have hz0 : wr.heap.size ≤ W0.heap.size := hk0.size
      have hOw0 : OwnR (w.heap.size + 3) W0 (.slice la P lc) (l.take k) := hW0 ▸ (show OwnR (w.heap.size + 3) wr.drew _ _ from hOw)
      rw [hW0] at q0 ⊢
      clear hW0 d0 d1 d2
      refine wpAnyD_take (i := 0) (v := .pointer (some ⟨w.heap.size + 1 + 1, 2, none⟩)) rfl (by kernel_rfl) (by kernel_rfl) (by kernel_rfl) (by kernel_rfl) (by kernel_rfl) (fun _ _ _ h => h) (.inl ⟨by kernel_rfl, fun W' hS => by go_simp⟩) q0 ?_
      refine wpAnyD_take (i := 1) (v := .slice la P lc) rfl (by kernel_rfl) (by kernel_rfl) (by kernel_rfl) (by kernel_rfl) (by kernel_rfl) (fun _ _ _ h => h) (.inl ⟨by kernel_rfl, fun W' hS => by obtain ⟨c0, c1, c2⟩ := hS.1.2.three; go_simp⟩) q0 ?_
      refine wpAnyD_take (i := 2) (v := .pointer (some ⟨w.heap.size, 2, none⟩)) rfl (by kernel_rfl) (by kernel_rfl) (by kernel_rfl) (by kernel_rfl) (by kernel_rfl) (fun _ _ _ h => h) (.inl ⟨by kernel_rfl, fun W' hS => by go_simp⟩) q0 ?_
      refine wpAnyD_take (i := 3) (v := .slice (some ⟨ob, oo, none⟩) l.length vcap) rfl (by kernel_rfl) (by kernel_rfl) (by kernel_rfl) (by kernel_rfl) (by kernel_rfl) (fun _ _ _ h => h) (.inl ⟨by kernel_rfl, fun W' hS => by obtain ⟨c0, c1, c2⟩ := hS.1.1.three; go_simp⟩) q0 ?_
      refine wpAnyD_take (i := 4) (v := .int .i64 k) rfl (by kernel_rfl) (by kernel_rfl) (by kernel_rfl) (by kernel_rfl) (by kernel_rfl) (fun _ _ _ h => h) (.inl ⟨by kernel_rfl, fun W' hS => by go_simp⟩) q0 ?_
      refine wpAnyD_take (i := 5) (v := .pointer (some ⟨ob, oo + k * 2, none⟩)) rfl (by kernel_rfl) (by kernel_rfl) (by kernel_rfl) (by kernel_rfl) (by kernel_rfl) (fun _ _ _ h => h) (.inl ⟨by kernel_rfl, fun W' hS => by go_simp⟩) q0 ?_
      refine wpAnyD_take (i := 6) (v := .pointer (some ⟨ob, oo + k * 2, none⟩)) rfl (by kernel_rfl) (by kernel_rfl) (by kernel_rfl) (by kernel_rfl) (by kernel_rfl) (fun _ _ _ h => h) (.inl ⟨by kernel_rfl, fun W' hS => by go_simp⟩) q0 ?_
      refine wpAnyD_take (i := 7) (v := .int .i64 rt.ord) rfl (by kernel_rfl) (by kernel_rfl) (by kernel_rfl) (by kernel_rfl) (by kernel_rfl) (fun _ _ _ h => h) (.inl ⟨by kernel_rfl, fun W' hS => by have h2 := hS.2.1; go_simp⟩) q0 ?_
      refine wpAnyD_take (i := 8) (v := .pointer (some ⟨w.heap.size, 2, none⟩)) rfl (by kernel_rfl) (by kernel_rfl) (by kernel_rfl) (by kernel_rfl) (by kernel_rfl) (fun _ _ _ h => h) (.inl ⟨by kernel_rfl, fun W' hS => by go_simp⟩) q0 ?_
      refine wpAnyD_take (i := 9) (v := .slice (some ⟨ob, oo, none⟩) l.length vcap) rfl (by kernel_rfl) (by kernel_rfl) (by kernel_rfl) (by kernel_rfl) (by kernel_rfl) (fun _ _ _ h => h) (.inl ⟨by kernel_rfl, fun W' hS => by obtain ⟨c0, c1, c2⟩ := hS.1.1.three; go_simp⟩) q0 ?_
      refine wpAnyD_take (i := 10) (v := .int .i64 k) rfl (by kernel_rfl) (by kernel_rfl) (by kernel_rfl) (by kernel_rfl) (by kernel_rfl) (fun _ _ _ h => h) (.inl ⟨by kernel_rfl, fun W' hS => by go_simp⟩) q0 ?_
      refine wpAnyD_take (i := 11) (v := .pointer (some ⟨ob, oo + k * 2, none⟩)) rfl (by kernel_rfl) (by kernel_rfl) (by kernel_rfl) (by kernel_rfl) (by kernel_rfl) (fun _ _ _ h => h) (.inl ⟨by kernel_rfl, fun W' hS => by go_simp⟩) q0 ?_
      refine wpAnyD_take (i := 12) (v := .pointer (some ⟨ob, oo + k * 2 + 1, none⟩)) rfl (by kernel_rfl) (by kernel_rfl) (by kernel_rfl) (by kernel_rfl) (by kernel_rfl) (fun _ _ _ h => h) (.inl ⟨by kernel_rfl, fun W' hS => by go_simp⟩) q0 ?_
      refine wpAnyD_take (i := 13) (v := .int .i64 rt.why) rfl (by kernel_rfl) (by kernel_rfl) (by kernel_rfl) (by kernel_rfl) (by kernel_rfl) (fun _ _ _ h => h) (.inl ⟨by kernel_rfl, fun W' hS => by have h2 := hS.2.2; go_simp⟩) q0 ?_
      refine wpAnyD_take (i := 14) (v := .agg #[.int .i64 rt.ord, .int .i64 rt.why]) rfl (by kernel_rfl) (by kernel_rfl) (by kernel_rfl) (by kernel_rfl) (by kernel_rfl) (fun _ _ _ h => h) (.inl ⟨by kernel_rfl, fun W' hS => by go_simp⟩) q0 ?_
      refine wpAnyD_one (i := 15) (by kernel_rfl) rfl (by kernel_rfl) ?_
      go_simp
      have hoblt : ob < wr.heap.size := by omega
      have hb6 : Below wr.heap.size wr (W0.alloc (.cells #[.int .i64 rt.ord, .int .i64 rt.why] 72)) := hk0.alloc hz0 _
      refine ⟨⟨⟨qa.below hb6 (by omega), qv.below hb6 (by omega)⟩, (hb6.cell (p := ⟨ob, oo + k * 2, none⟩) hoblt).trans c0, (hb6.cell (p := ⟨ob, oo + k * 2 + 1, none⟩) hoblt).trans c1⟩, ?_⟩
      have hlk : (l.take k).length ≤ 8796093021952 := by rw [List.length_take]; omega
      refine wpAnyD_one (i := 16) (by kernel_rfl) rfl (by kernel_rfl) ?_
      refine wp_append_R (.tmp 18) (.tmp 32) rfl W0 rt (by kernel_rfl) (by kernel_rfl) hOw0 hlk (by omega) ?_
      intro v' w' hOn hbn
      have hbn2 : Below (w.heap.size + 3) wr w' := (hk0.mono (by omega)).trans hbn
      have hoblt2 : ob < w.heap.size + 3 := by omega
      have qv' := qv.below hbn2 (by omega)
      have q7 : (Blk w' w.heap.size #[.int .i64 n, .int .i64 d, .slice (some ⟨ob, oo, none⟩) l.length vcap] 30 ∧ Blk w' (w.heap.size + 1 + 1) #[.int .i64 n, .int .i64 d, .slice la P lc] 41) ∧ w'.cell? ⟨ob, oo + k * 2, none⟩ = some (.int .i64 rt.ord) ∧ w'.cell? ⟨ob, oo + k * 2 + 1, none⟩ = some (.int .i64 rt.why) := ⟨⟨qa.below hbn2 (by omega), qv'⟩, (hbn2.cell (p := ⟨ob, oo + k * 2, none⟩) hoblt2).trans c0, (hbn2.cell (p := ⟨ob, oo + k * 2 + 1, none⟩) hoblt2).trans c1⟩
      refine ⟨fun _ => q7, ?_⟩
      refine wpAnyD_take (i := 17) (v := .pointer (some ⟨w.heap.size + 1 + 1, 2, none⟩)) rfl (by kernel_rfl) (by kernel_rfl) (by kernel_rfl) (by kernel_rfl) (by kernel_rfl) (fun _ _ _ h => h) (.inl ⟨by kernel_rfl, fun W' hS => by go_simp⟩) q7 ?_
      have hfr := qv'.free 2
      obtain ⟨c0, c1, c2⟩ := qv'.three
      obtain ⟨xa, xc, rfl⟩ := hOn.form
      have hxl : (l.take k ++ [rt]).length = P + 1 := by rw [List.length_append, HPP.out]; rfl
      rw [hxl] at hOn ⊢
      refine wpAnyD_one (i := 18) (by kernel_rfl) rfl (by kernel_rfl) ?_
      go_simp
      have q8 : Blk (w'.setCell ⟨w.heap.size + 1 + 1, 2, none⟩ (.slice xa (P + 1) xc)) (w.heap.size + 1 + 1) #[.int .i64 n, .int .i64 d, .slice xa (P + 1) xc] 41 := qv'.set _
      have h8 : Below (w.heap.size + 1 + 1) w3 (w'.setCell ⟨w.heap.size + 1 + 1, 2, none⟩ (.slice xa (P + 1) xc)) := (hbr.trans (hbn2.mono (by omega))).setCell (p := ⟨w.heap.size + 1 + 1, 2, none⟩) (Nat.le_refl _) _
      have hO8 := hOn.set (b := w.heap.size + 1 + 1) (i := 2) (by omega) (.slice xa (P + 1) xc)
      obtain ⟨w8, hw8⟩ : ∃ w8, w'.setCell ⟨w.heap.size + 1 + 1, 2, none⟩ (.slice xa (P + 1) xc) = w8 := ⟨_, rfl⟩
      rw [hw8] at q8 h8 hO8 ⊢
      first | refine ⟨fun h => absurd rfl h, ?_⟩ | refine ⟨fun h => absurd (by simp) h, ?_⟩ | skip
      refine wpAnyD_done (by kernel_rfl) ?_ _
      clear c0 c1 c2 hfr hw8
      go_wp2_with fail
      refine ⟨⟨k + 1, _, by omega, by go_num, q8, by rw [HTK.out]; exact hO8, h8⟩, by simp [intOf]; omega⟩
    · obtain rfl : k = l.length := by omega
      obtain ⟨la, lc, rfl⟩ := hOw.form
      rw [List.take_length] at hOw qv
      obtain ⟨c0, c1, c2⟩ := qv.three
      obtain ⟨e0, e1, e2⟩ := qc.three
      have f0 := qc.free 0
      have f1 := qc.free 1
      have f2 := qc.free 2
      have q9 := ((qc.set (i := 0) (.int .i64 n)).set (i := 1) (.int .i64 d)).set (i := 2) (.slice la l.length lc)
      have hO9 := ((hOw.set (b := w.heap.size + 1) (i := 0) (by omega) (.int .i64 n)).set (b := w.heap.size + 1) (i := 1) (by omega) (.int .i64 d)).set (b := w.heap.size + 1) (i := 2) (by omega) (.slice la l.length lc)
      have h9 := (((h3.trans (hbr.mono (show w.heap.size ≤ w.heap.size + 1 + 1 by omega))).setCell (p := ⟨w.heap.size + 1, 0, none⟩) (show w.heap.size ≤ w.heap.size + 1 by omega) (.int .i64 n)).setCell (p := ⟨w.heap.size + 1, 1, none⟩) (show w.heap.size ≤ w.heap.size + 1 by omega) (.int .i64 d)).setCell (p := ⟨w.heap.size + 1, 2, none⟩) (show w.heap.size ≤ w.heap.size + 1 by omega) (.slice la l.length lc)
      obtain ⟨w9, hw9⟩ : ∃ w9, ((wr.setCell ⟨w.heap.size + 1, 0, none⟩ (.int .i64 n)).setCell ⟨w.heap.size + 1, 1, none⟩ (.int .i64 d)).setCell ⟨w.heap.size + 1, 2, none⟩ (.slice la l.length lc) = w9 := ⟨_, rfl⟩
      rw [hw9] at q9 hO9 h9
      have HW9 := Lib.hid hw9
      have q9 : Blk w9 (w.heap.size + 1) #[.int .i64 n, .int .i64 d, .slice la l.length lc] 41 := q9
      clear hw9
      go_wp2_with fail
      rw [HW9.out]
      obtain ⟨z0, z1, z2⟩ := q9.three
      refine bodyPost_ret (v := .agg #[.int .i64 n, .int .i64 d, .slice la l.length lc]) (by simp [results, Tryz.results12, go_sem, z0, z1, z2]) rfl ⟨la, lc, rfl, hO9.mono (by omega), h9⟩
end Go.Proofs.YtaccaebdmndkiaaGreatDoor
