/- Package bank: the texts of files and answers. No conditions beyond those stated. -/
import Derived.Test.YtaccaebdmndkiaaGreatDoorBLine
import Derived.Test.YtaccaebdmndkiaaGreatDoorRF
import Derived.Deep.CutRange
namespace Go.Proofs.YtaccaebdmndkiaaGreatDoor
open Go.RowKit
set_option linter.unusedVariables false

abbrev lineV (b : Nat) : Value := .func (.func 52) #[] #[.pointer (some ⟨b, 0, none⟩)]

set_option maxHeartbeats 1000000 in
theorem write1_any (B b fb K : Nat) (n d : Int) (l : List Od) (v : Value) (w : World) (h : Bld B b [] w) (hB : B ≤ w.heap.size) (hT : Tabs B w) (hf : Blk w fb #[.int .i64 n, .int .i64 d, v] 27) (hfb : fb < B)
    (hv : Ords K w v l) (hK : K ≤ B) (hok : okF ⟨n, d, l⟩ = true) :
    Calls Tryz.prog 51 #[lineV b, .pointer (some ⟨fb, 0, none⟩)] w fun e w' => e = .returned (.tuple #[]) ∧ Bld B b (bodyF ⟨n, d, l⟩) w' ∧ Below B w w' := by
  obtain ⟨_, _, hl1000, hto, htot⟩ := okF_parts hok
  simp only at hl1000 hto htot
  have hall := okTo_all hto
  have hgn := headGn hok
  simp only at hgn
  have hvl : ∃ a cap, v = .slice a l.length cap := by obtain ⟨a, cap, rfl, _⟩ := hv; exact ⟨a, cap, rfl⟩
  obtain ⟨va, vcap, rfl⟩ := hvl
  obtain ⟨d0, d1, d2⟩ := hf.three
  have hsum := sum_any K n d _ l w.drew (hv.below ((Below.refl B w).drew) hK (Nat.le_refl _)) (Nat.le_trans hK hB) hall hl1000
  go_enter Tryz.func51, Tryz.ntmps51
  go_upto_region 0 with fail
  refine region_plain (fun W => Blk W fb #[.int .i64 n, .int .i64 d, .slice va l.length vcap] 27) [] (by kernel_rfl) ?_
  have q0 : Blk w.drew fb #[.int .i64 n, .int .i64 d, .slice va l.length vcap] 27 := hf
  refine wpAnyD_take (i := 0) (v := lineV b) rfl (by kernel_rfl) (by kernel_rfl) (by kernel_rfl) (by kernel_rfl) (by kernel_rfl) (fun _ _ _ h => h) (.inl ⟨by kernel_rfl, fun W' hS => by go_simp⟩) q0 ?_
  refine wpAnyD_take (i := 1) (v := .pointer (some ⟨fb, 0, none⟩)) rfl (by kernel_rfl) (by kernel_rfl) (by kernel_rfl) (by kernel_rfl) (by kernel_rfl) (fun _ _ _ h => h) (.inl ⟨by kernel_rfl, fun W' hS => by go_simp⟩) q0 ?_
  refine wpAnyD_take (i := 2) (v := .int .i64 n) rfl (by kernel_rfl) (by kernel_rfl) (by kernel_rfl) (by kernel_rfl) (by kernel_rfl) (fun _ _ _ h => h) (.inl ⟨by kernel_rfl, fun W' hS => by obtain ⟨c0, c1, c2⟩ := hS.three; go_simp⟩) q0 ?_
  refine wpAnyD_take (i := 3) (v := .pointer (some ⟨fb, 1, none⟩)) rfl (by kernel_rfl) (by kernel_rfl) (by kernel_rfl) (by kernel_rfl) (by kernel_rfl) (fun _ _ _ h => h) (.inl ⟨by kernel_rfl, fun W' hS => by go_simp⟩) q0 ?_
  refine wpAnyD_take (i := 4) (v := .int .i64 d) rfl (by kernel_rfl) (by kernel_rfl) (by kernel_rfl) (by kernel_rfl) (by kernel_rfl) (fun _ _ _ h => h) (.inl ⟨by kernel_rfl, fun W' hS => by obtain ⟨c0, c1, c2⟩ := hS.three; go_simp⟩) q0 ?_
  refine wpAnyD_take (i := 5) (v := .pointer (some ⟨fb, 2, none⟩)) rfl (by kernel_rfl) (by kernel_rfl) (by kernel_rfl) (by kernel_rfl) (by kernel_rfl) (fun _ _ _ h => h) (.inl ⟨by kernel_rfl, fun W' hS => by go_simp⟩) q0 ?_
  refine wpAnyD_take (i := 6) (v := .slice va l.length vcap) rfl (by kernel_rfl) (by kernel_rfl) (by kernel_rfl) (by kernel_rfl) (by kernel_rfl) (fun _ _ _ h => h) (.inl ⟨by kernel_rfl, fun W' hS => by obtain ⟨c0, c1, c2⟩ := hS.three; go_simp⟩) q0 ?_
  refine wpAnyD_take (i := 7) (v := .int .i64 l.length) rfl (by kernel_rfl) (by kernel_rfl) (by kernel_rfl) (by kernel_rfl) (by kernel_rfl) (fun _ _ _ h => h) (.inl ⟨by kernel_rfl, fun W' hS => by go_simp⟩) q0 ?_
  refine wpAnyD_take (i := 8) (v := .agg #[.int .i64 n, .int .i64 d, .slice va l.length vcap]) rfl (by kernel_rfl) (by kernel_rfl) (by kernel_rfl) (by kernel_rfl) (by kernel_rfl) (fun _ _ _ h => h) (.inl ⟨by kernel_rfl, fun W' hS => by obtain ⟨c0, c1, c2⟩ := hS.three; go_simp⟩) q0 ?_
  refine wpAnyD_one (i := 9) (by kernel_rfl) rfl (by kernel_rfl) ?_
  go_simp
  refine hsum.mono ?_
  rintro e w1 ⟨rfl, hb1⟩
  refine ⟨q0.below hb1 (by show fb < w.heap.size; omega), ?_⟩
  refine wpAnyD_one (i := 10) (by kernel_rfl) rfl (by kernel_rfl) ?_
  go_simp
  have q1 := q0.below hb1 (show fb < w.heap.size by omega)
  have hsz1 : w.heap.size ≤ w1.heap.size := hb1.size
  obtain ⟨W2, hW2⟩ : ∃ W2, w1.alloc (.cells #[.int .i64 n, .int .i64 d, .int .i64 l.length, .int .i64 (tot l)] 3) = W2 := ⟨_, rfl⟩
  have hns : Blk W2 w1.heap.size ([n, d, (l.length : Int), tot l].map I).toArray 3 := hW2 ▸ Blk.new w1 _ _
  have hb2 : Below w.heap.size w W2 := by
    rw [← hW2]; exact ((Below.refl w.heap.size w).drew.trans (hb1.mono (Nat.le_refl _))).alloc hsz1 _
  have q2 : Blk W2 fb #[.int .i64 n, .int .i64 d, .slice va l.length vcap] 27 := hf.below hb2 (by omega)
  rw [hW2]
  refine ⟨q2, ?_⟩
  have hbt := h.lt
  have hline := line_any B b w1.heap.size [] wPAY [n, d, (l.length : Int), tot l] W2 (h.old hb2) (Nat.le_trans hB hb2.size) (hT.on' hb2 hB) hns (by omega) hgn (by simp [wPAY]) (by simp)
  clear hW2 hns hgn hsum
  refine wpAnyD_one (i := 11) (by kernel_rfl) rfl (by kernel_rfl) ?_
  go_simp
  refine hline.mono ?_
  rintro e W3 ⟨rfl, hI3, hb3, _⟩
  have hb3 : Below B w W3 := (hb2.mono hB).trans hb3
  have q3 : Blk W3 fb #[.int .i64 n, .int .i64 d, .slice va l.length vcap] 27 := hf.below hb3 (by omega)
  refine ⟨q3, ?_⟩
  refine wpAnyD_done (by kernel_rfl) ?_ _
  obtain ⟨e0, e1, e2⟩ := q3.three
  clear q0 q1 q2 q3 hb1 hb2 hsz1 hline d0 d1 d2
  have HI3 : Bld B b (headF ⟨n, d, l⟩) W3 := hI3
  have HG := Lib.hid hall
  clear hI3 hall
  go_wp2_with fail
  go_loopw [20] (fun i wr => ∃ k : Nat, k ≤ l.length ∧ i = .int .i64 k ∧ Bld B b (headF ⟨n, d, l⟩ ++ odsB (l.take k)) wr ∧ Below B w wr) (fun i _ => l.length - (intOf i).toNat)
  case atStart => exact ⟨0, Nat.zero_le _, rfl, by simpa [odsB] using HI3, hb3⟩
  case round =>
    obtain ⟨k, hk, rfl, hI, hbr⟩ := hrel
    have hsz := hbr.size
    by_cases hlt : k < l.length
    · obtain ⟨ob, oo, ocap, he, _, hlc, hm, hob, hc⟩ := hv.cases.resolve_left (by rintro ⟨_, _, _, h0, _⟩; omega)
      simp only [Value.slice.injEq, true_and] at he
      obtain ⟨rfl, rfl⟩ := he
      unfold maxLen at hm
      have hgo := odGn (HG.out _ (getD_mem hlt Od.z))
      have hst := odsB_take l k hlt
      have hlen := odsB_len fun o (ho : o ∈ l.take k) => HG.out o (List.mem_of_mem_take ho)
      rw [List.length_take] at hlen
      have hhl := numsB_len (headGn hok)
      obtain ⟨c0, c1, c2, c3, c4⟩ := ord_cells (cells_below hc hbr (by omega)) hlt
      obtain ⟨od, hod⟩ : ∃ od, l[k]?.getD Od.z = od := ⟨_, rfl⟩
      rw [hod] at c0 c1 c2 c3 c4 hgo hst
      have HS := Lib.hid hst
      clear hst hod hc
      obtain ⟨W4, hW4⟩ : ∃ W4, (wr.alloc (.cells #[.int .i64 od.num, .int .i64 od.acc, .int .i64 od.gross, .int .i64 od.tax, .int .i64 od.net] 47)).alloc (.cells #[.int .i64 od.num, .int .i64 od.acc, .int .i64 od.gross, .int .i64 od.tax, .int .i64 od.net] 3) = W4 := ⟨_, rfl⟩
      have hns : Blk W4 (wr.heap.size + 1) ([od.num, od.acc, od.gross, od.tax, od.net].map I).toArray 3 := by
        rw [← hW4, show wr.heap.size + 1 = (wr.alloc (.cells #[.int .i64 od.num, .int .i64 od.acc, .int .i64 od.gross, .int .i64 od.tax, .int .i64 od.net] 47)).heap.size by simp]; exact Blk.new _ _ _
      have hb4 : Below wr.heap.size wr W4 := by rw [← hW4]; exact ((Below.refl _ wr).alloc (Nat.le_refl _) _).alloc (by simp) _
      have hBr : B ≤ wr.heap.size := by omega
      have hbt := hI.lt
      have hline := line_any B b (wr.heap.size + 1) _ wOrder [od.num, od.acc, od.gross, od.tax, od.net] W4 (hI.old hb4) (Nat.le_trans hBr hb4.size) ((hT.on hbr).on' hb4 hBr) hns (by omega) hgo (by
        simp only [headF, lineB, wPAY, wOrder, List.length_append, List.length_cons, List.length_nil] at hhl ⊢; omega) (by simp)
      have HW4 := Lib.hid hW4
      clear hW4 hns hgo
      go_wp2_with fail
      rw [HW4.out]
      refine hline.mono ?_
      rintro e W5 ⟨rfl, hI5, hb5, _⟩
      go_wp2_with fail
      refine ⟨⟨k + 1, by omega, by go_num, ?_, hbr.trans ((hb4.mono hBr).trans hb5)⟩, by simp [intOf]; omega⟩
      rw [HS.out, ← List.append_assoc]; exact hI5
    · obtain rfl : k = l.length := by omega
      rw [List.take_length] at hI
      go_wp2_with fail
      go_end0
      exact ⟨rfl, hI, hbr⟩

set_option maxHeartbeats 1000000 in
theorem writeA1_any (B b fb K : Nat) (n d : Int) (l : List Rt) (v : Value) (w : World) (h : Bld B b [] w) (hB : B ≤ w.heap.size) (hT : Tabs B w) (hf : Blk w fb #[.int .i64 n, .int .i64 d, v] 30) (hfb : fb < B)
    (hv : Rets K w v l) (hK : K ≤ B) (hok : okA ⟨n, d, l⟩ = true) :
    Calls Tryz.prog 39 #[lineV b, .pointer (some ⟨fb, 0, none⟩)] w fun e w' => e = .returned (.tuple #[]) ∧ Bld B b (bodyA ⟨n, d, l⟩) w' ∧ Below B w w' := by
  obtain ⟨_, _, hl1000, hto⟩ := okA_parts hok
  simp only at hl1000 hto
  have HG := Lib.hid (okRs_all hto)
  have hgn := headGnA hok
  simp only at hgn
  have hvl : ∃ a cap, v = .slice a l.length cap := by obtain ⟨a, cap, rfl, _⟩ := hv; exact ⟨a, cap, rfl⟩
  obtain ⟨va, vcap, rfl⟩ := hvl
  obtain ⟨d0, d1, d2⟩ := hf.three
  obtain ⟨W2, hW2⟩ : ∃ W2, w.alloc (.cells #[.int .i64 n, .int .i64 d, .int .i64 l.length] 3) = W2 := ⟨_, rfl⟩
  have hns : Blk W2 w.heap.size ([n, d, (l.length : Int)].map I).toArray 3 := hW2 ▸ Blk.new w _ _
  have hb2 : Below w.heap.size w W2 := by rw [← hW2]; exact (Below.refl w.heap.size w).alloc (Nat.le_refl _) _
  have hbt := h.lt
  have hline := line_any B b w.heap.size [] wBACK [n, d, (l.length : Int)] W2 (h.old hb2) (Nat.le_trans hB hb2.size) (hT.on' hb2 hB) hns (by omega) hgn (by simp [wBACK]) (by simp)
  have HW2 := Lib.hid hW2
  clear hW2 hns hgn
  go_enter Tryz.func39, Tryz.ntmps39
  go_wp2_with fail
  rw [HW2.out]
  refine hline.mono ?_
  rintro e W3 ⟨rfl, hI3, hb3, _⟩
  have hb3 : Below B w W3 := (hb2.mono hB).trans hb3
  have q3 : Blk W3 fb #[.int .i64 n, .int .i64 d, .slice va l.length vcap] 30 := hf.below hb3 (by omega)
  obtain ⟨e0, e1, e2⟩ := q3.three
  have HI3 : Bld B b (headA ⟨n, d, l⟩) W3 := hI3
  clear q3 hb2 hline d0 d1 d2 hI3
  go_wp2_with fail
  go_loopw [18] (fun i wr => ∃ k : Nat, k ≤ l.length ∧ i = .int .i64 k ∧ Bld B b (headA ⟨n, d, l⟩ ++ rtsB (l.take k)) wr ∧ Below B w wr) (fun i _ => l.length - (intOf i).toNat)
  case atStart => exact ⟨0, Nat.zero_le _, rfl, by simpa [rtsB] using HI3, hb3⟩
  case round =>
    obtain ⟨k, hk, rfl, hI, hbr⟩ := hrel
    have hsz := hbr.size
    by_cases hlt : k < l.length
    · obtain ⟨ob, oo, ocap, he, _, hlc, hm, hob, hc⟩ := hv.cases.resolve_left (by rintro ⟨_, _, _, h0, _⟩; omega)
      simp only [Value.slice.injEq, true_and] at he
      obtain ⟨rfl, rfl⟩ := he
      unfold maxLen at hm
      have hgo := rtGn (HG.out _ (getD_mem hlt Rt.z))
      have hst := rtsB_take l k hlt
      have hlen := rtsB_len fun o (ho : o ∈ l.take k) => HG.out o (List.mem_of_mem_take ho)
      rw [List.length_take] at hlen
      have hhl := numsB_len (headGnA hok)
      obtain ⟨c0, c1⟩ := ret_cells (cells_below hc hbr (by omega)) hlt
      obtain ⟨od, hod⟩ : ∃ od, l[k]?.getD Rt.z = od := ⟨_, rfl⟩
      rw [hod] at c0 c1 hgo hst
      have HS := Lib.hid hst
      clear hst hod hc
      obtain ⟨W4, hW4⟩ : ∃ W4, (wr.alloc (.cells #[.int .i64 od.ord, .int .i64 od.why] 49)).alloc (.cells #[.int .i64 od.ord, .int .i64 od.why] 3) = W4 := ⟨_, rfl⟩
      have hns : Blk W4 (wr.heap.size + 1) ([od.ord, od.why].map I).toArray 3 := by
        rw [← hW4, show wr.heap.size + 1 = (wr.alloc (.cells #[.int .i64 od.ord, .int .i64 od.why] 49)).heap.size by simp]; exact Blk.new _ _ _
      have hb4 : Below wr.heap.size wr W4 := by rw [← hW4]; exact ((Below.refl _ wr).alloc (Nat.le_refl _) _).alloc (by simp) _
      have hBr : B ≤ wr.heap.size := by omega
      have hbt := hI.lt
      have hline := line_any B b (wr.heap.size + 1) _ wReturn [od.ord, od.why] W4 (hI.old hb4) (Nat.le_trans hBr hb4.size) ((hT.on hbr).on' hb4 hBr) hns (by omega) hgo (by
        simp only [headA, lineB, wBACK, wReturn, List.length_append, List.length_cons, List.length_nil] at hhl ⊢; omega) (by simp)
      have HW4 := Lib.hid hW4
      clear hW4 hns hgo
      go_wp2_with fail
      rw [HW4.out]
      refine hline.mono ?_
      rintro e W5 ⟨rfl, hI5, hb5, _⟩
      go_wp2_with fail
      refine ⟨⟨k + 1, by omega, by go_num, ?_, hbr.trans ((hb4.mono hBr).trans hb5)⟩, by simp [intOf]; omega⟩
      rw [HS.out, ← List.append_assoc]; exact hI5
    · obtain rfl : k = l.length := by omega
      rw [List.take_length] at hI
      go_wp2_with fail
      go_end0
      exact ⟨rfl, hI, hbr⟩

end Go.Proofs.YtaccaebdmndkiaaGreatDoor
