/- The reference of layer 36: Total, Write, WriteAnswer. No conditions beyond those stated. -/
import Derived.Test.YtaccaebdmndkiaaGreatDoorBRTxt
import Derived.Test.YtaccaebdmndkiaaGreatDoorBRVal
import Derived.Test.YtaccaebdmndkiaaGreatDoorBRRight
import Derived.Test.YtaccaebdmndkiaaGreatDoorBWr2
namespace Go.Proofs.YtaccaebdmndkiaaGreatDoor
open Go.RowKit
set_option linter.unusedVariables false

theorem rtotal_any (K : Nat) (n d : Int) (l : List Od) (v : Value) (w : World) (hv : Ords K w v l) (hK : K ≤ w.heap.size) :
    Calls Tryz.prog 31 #[.agg #[.int .i64 n, .int .i64 d, v]] w fun e w' => e = .returned (.tuple #[.int .i64 (totalS ⟨n, d, l⟩).1, .int .i64 (totalS ⟨n, d, l⟩).2]) ∧ Below w.heap.size w w' := by
  have hb1 : Below w.heap.size w (w.alloc (.cells #[.int .i64 n, .int .i64 d, v] 36)) := (Below.refl _ w).alloc (Nat.le_refl _) _
  have q1 := Blk.new w #[.int .i64 n, .int .i64 d, v] 36
  have hvl : ∃ a cap, v = .slice a l.length cap := by obtain ⟨a, cap, rfl, _⟩ := hv; exact ⟨a, cap, rfl⟩
  obtain ⟨va, vcap, rfl⟩ := hvl
  have hvd := rvalid_any K n d _ l _ (hv.below hb1 hK (Nat.le_refl _)) (Nat.le_trans hK hb1.size)
  obtain ⟨x, hx⟩ : ∃ x, okF ⟨n, d, l⟩ = x := ⟨_, rfl⟩
  have HX := Lib.hid hx
  rw [hx] at hvd
  clear hx
  go_enter Tryz.func31, Tryz.ntmps31
  go_wp2_with fail
  refine hvd.mono ?_
  rintro e w1 ⟨rfl, hb2⟩
  have hbq := hb1.trans (hb2.mono hb1.size)
  obtain ⟨e0, e1, e2⟩ := (q1.below hb2 (by simp)).three
  cases x with
  | false =>
    go_wp2_with fail
    go_ret2
    exact ⟨by rw [totalS, if_neg (by rw [HX.out]; simp)]; rfl, hbq⟩
  | true =>
    have hp := okF_parts HX.out
    have hw0 := rsum_any K n d _ l w1 (hv.below hbq hK (Nat.le_refl _)) (Nat.le_trans hK hbq.size) (okTo_all hp.2.2.2.1) hp.2.2.1
    clear hp
    go_wp2_with fail
    refine hw0.mono ?_
    rintro e w2 ⟨rfl, hb3⟩
    go_wp2_with fail
    go_ret2
    exact ⟨by rw [totalS, if_pos HX.out]; rfl, hbq.trans (hb3.mono hbq.size)⟩

set_option maxHeartbeats 1000000 in
theorem rwrite_any (K : Nat) (n d : Int) (l : List Od) (v : Value) (w : World) (hv : Ords K w v l) (hK : K ≤ w.heap.size) :
    Calls Tryz.prog 9 #[.agg #[.int .i64 n, .int .i64 d, v]] w fun e w' => e = .returned (.tuple #[.string ⟨(writeS ⟨n, d, l⟩).1.toArray⟩, .int .i64 (writeS ⟨n, d, l⟩).2]) ∧ Below w.heap.size w w' := by
  have hb1 : Below w.heap.size w (w.alloc (.cells #[.int .i64 n, .int .i64 d, v] 36)) := (Below.refl _ w).alloc (Nat.le_refl _) _
  have q1 := Blk.new w #[.int .i64 n, .int .i64 d, v] 36
  have hvl : ∃ a cap, v = .slice a l.length cap := by obtain ⟨a, cap, rfl, _⟩ := hv; exact ⟨a, cap, rfl⟩
  obtain ⟨va, vcap, rfl⟩ := hvl
  have hvd := rvalid_any K n d _ l _ (hv.below hb1 hK (Nat.le_refl _)) (Nat.le_trans hK hb1.size)
  obtain ⟨x, hx⟩ : ∃ x, okF ⟨n, d, l⟩ = x := ⟨_, rfl⟩
  have HX := Lib.hid hx
  rw [hx] at hvd
  clear hx
  go_enter Tryz.func9, Tryz.ntmps9
  go_wp2_with fail
  refine hvd.mono ?_
  rintro e w1 ⟨rfl, hb2⟩
  have hbq := hb1.trans (hb2.mono hb1.size)
  have q2 := q1.below hb2 (by simp)
  have hs2 := q2.lt
  clear hb1 hb2 q1 hvd
  cases x with
  | false =>
    go_wp2_with fail
    go_ret2
    exact ⟨by rw [writeS, if_neg (by rw [HX.out]; simp)]; rfl, hbq⟩
  | true =>
  obtain ⟨_, _, hl1000, hto, htot⟩ := okF_parts HX.out
  simp only at hl1000 hto htot
  have HG := Lib.hid (okTo_all hto)
  have hgn := headGn HX.out
  simp only at hgn
  have hsum := rsum_any K n d _ l w1.drew ((hv.below hbq hK (Nat.le_refl _)).below ((Below.refl K w1).drew) (Nat.le_refl _) (Nat.le_refl _)) (Nat.le_trans hK hbq.size) HG.out hl1000
  clear hto htot
  go_upto_region 3 with fail
  refine region_plain (fun W => Blk W w.heap.size #[.int .i64 n, .int .i64 d, .slice va l.length vcap] 36) [] (by kernel_rfl) ?_
  have q0 : Blk w1.drew w.heap.size #[.int .i64 n, .int .i64 d, .slice va l.length vcap] 36 := q2
  refine wpAnyD_take (i := 0) (v := .pointer (some ⟨w.heap.size, 0, none⟩)) rfl (by kernel_rfl) (by kernel_rfl) (by kernel_rfl) (by kernel_rfl) (by kernel_rfl) (fun _ _ _ h => h) (.inl ⟨by kernel_rfl, fun W' hS => by go_simp⟩) q0 ?_
  refine wpAnyD_take (i := 1) (v := .int .i64 n) rfl (by kernel_rfl) (by kernel_rfl) (by kernel_rfl) (by kernel_rfl) (by kernel_rfl) (fun _ _ _ h => h) (.inl ⟨by kernel_rfl, fun W' hS => by obtain ⟨c0, c1, c2⟩ := hS.three; go_simp⟩) q0 ?_
  refine wpAnyD_take (i := 2) (v := .pointer (some ⟨w.heap.size, 1, none⟩)) rfl (by kernel_rfl) (by kernel_rfl) (by kernel_rfl) (by kernel_rfl) (by kernel_rfl) (fun _ _ _ h => h) (.inl ⟨by kernel_rfl, fun W' hS => by go_simp⟩) q0 ?_
  refine wpAnyD_take (i := 3) (v := .int .i64 d) rfl (by kernel_rfl) (by kernel_rfl) (by kernel_rfl) (by kernel_rfl) (by kernel_rfl) (fun _ _ _ h => h) (.inl ⟨by kernel_rfl, fun W' hS => by obtain ⟨c0, c1, c2⟩ := hS.three; go_simp⟩) q0 ?_
  refine wpAnyD_take (i := 4) (v := .pointer (some ⟨w.heap.size, 2, none⟩)) rfl (by kernel_rfl) (by kernel_rfl) (by kernel_rfl) (by kernel_rfl) (by kernel_rfl) (fun _ _ _ h => h) (.inl ⟨by kernel_rfl, fun W' hS => by go_simp⟩) q0 ?_
  refine wpAnyD_take (i := 5) (v := .slice va l.length vcap) rfl (by kernel_rfl) (by kernel_rfl) (by kernel_rfl) (by kernel_rfl) (by kernel_rfl) (fun _ _ _ h => h) (.inl ⟨by kernel_rfl, fun W' hS => by obtain ⟨c0, c1, c2⟩ := hS.three; go_simp⟩) q0 ?_
  refine wpAnyD_take (i := 6) (v := .int .i64 l.length) rfl (by kernel_rfl) (by kernel_rfl) (by kernel_rfl) (by kernel_rfl) (by kernel_rfl) (fun _ _ _ h => h) (.inl ⟨by kernel_rfl, fun W' hS => by go_simp⟩) q0 ?_
  refine wpAnyD_take (i := 7) (v := .agg #[.int .i64 n, .int .i64 d, .slice va l.length vcap]) rfl (by kernel_rfl) (by kernel_rfl) (by kernel_rfl) (by kernel_rfl) (by kernel_rfl) (fun _ _ _ h => h) (.inl ⟨by kernel_rfl, fun W' hS => by obtain ⟨c0, c1, c2⟩ := hS.three; go_simp⟩) q0 ?_
  refine wpAnyD_one (i := 8) (by kernel_rfl) rfl (by kernel_rfl) ?_
  go_simp
  refine hsum.mono ?_
  rintro e w2 ⟨rfl, hb3⟩
  have hb3' : Below w1.heap.size w1 w2 := (Below.refl w1.heap.size w1).drew.trans hb3
  have hq3 := hbq.trans (hb3'.mono hbq.size)
  have q3 := q2.below hb3' hs2
  refine ⟨q3, ?_⟩
  refine wpAnyD_one (i := 9) (by kernel_rfl) rfl (by kernel_rfl) ?_
  go_simp
  have hns := Blk.new w2 #[.int .i64 n, .int .i64 d, .int .i64 l.length, .int .i64 (tot l)] 3
  have hq4 : Below w.heap.size w (w2.alloc (.cells #[.int .i64 n, .int .i64 d, .int .i64 l.length, .int .i64 (tot l)] 3)) := hq3.alloc hq3.size _
  have q4 := q3.alloc (.cells #[.int .i64 n, .int .i64 d, .int .i64 l.length, .int .i64 (tot l)] 3)
  obtain ⟨W4, hW4⟩ : ∃ W4, w2.alloc (.cells #[.int .i64 n, .int .i64 d, .int .i64 l.length, .int .i64 (tot l)] 3) = W4 := ⟨_, rfl⟩
  rw [hW4] at hns hq4 q4 ⊢
  refine ⟨q4, ?_⟩
  have hline := rline_any 0 w2.heap.size wPAY [n, d, (l.length : Int), tot l] W4 hns hgn (by simp [wPAY]) (by simp)
  clear hW4 hns hgn hsum q0 q3 hb3 hb3' hq3
  refine wpAnyD_one (i := 10) (by kernel_rfl) rfl (by kernel_rfl) ?_
  go_simp
  refine hline.mono ?_
  rintro e w5 ⟨rfl, hb5⟩
  have q5 := q4.below hb5 q4.lt
  have hq5 := hq4.trans (hb5.mono hq4.size)
  refine ⟨q5, ?_⟩
  have hhl := numsB_len (headGn HX.out)
  have hhd : (headF ⟨n, d, l⟩).length ≤ 80 := by
    simp only [headF, lineB, wPAY, List.length_append, List.length_cons, List.length_nil] at hhl ⊢; omega
  have hh0 : headF ⟨n, d, l⟩ = lineB wPAY [n, d, (l.length : Int), tot l] := rfl
  rw [← hh0]
  obtain ⟨hd, hhdE⟩ : ∃ hd, headF ⟨n, d, l⟩ = hd := ⟨_, rfl⟩
  rw [hhdE] at hhd ⊢
  have HHD := Lib.hid hhdE
  clear hh0 hhdE hline hhl q4 hq4 hb5
  refine wpAnyD_take (i := 11) (v := .string ⟨hd.toArray⟩) rfl (by kernel_rfl) (by kernel_rfl) (by kernel_rfl) (by kernel_rfl) (by kernel_rfl) (fun _ _ _ h => h) (.inl ⟨by kernel_rfl, fun W' hS => by go_simp⟩) q5 ?_
  refine wpAnyD_done (by kernel_rfl) ?_ _
  have hs5 := q5.lt
  go_wp2_with fail
  go_loopw [4, 5] (fun s i wr => ∃ (k : Nat) (out : List UInt8), k ≤ l.length ∧ i = .int .i64 k ∧ s = .string ⟨out.toArray⟩ ∧ out.length ≤ 200000 ∧ Hid (out = hd ++ odsB (l.take k)) ∧ Below w5.heap.size w5 wr) (fun _ i _ => l.length - (intOf i).toNat)
  case atStart => exact ⟨0, hd, Nat.zero_le _, rfl, rfl, by omega, Lib.hid (by simp [odsB]), Below.refl _ _⟩
  case round =>
    obtain ⟨k, out, hk, rfl, rfl, hol, HOUT, hbr⟩ := hrel
    have hsz := hbr.size
    obtain ⟨d0, d1, d2⟩ := (q5.below hbr hs5).three
    by_cases hlt : k < l.length
    · obtain ⟨ob, oo, ocap, he, _, hlc, hm, hob, hc⟩ := hv.cases.resolve_left (by rintro ⟨_, _, _, h0, _⟩; omega)
      simp only [Value.slice.injEq, true_and] at he
      obtain ⟨rfl, rfl⟩ := he
      unfold maxLen at hm
      have hgo := odGn (HG.out _ (getD_mem hlt Od.z))
      have hst := odsB_take l k hlt
      have hlen := odsB_len fun o (ho : o ∈ l.take (k + 1)) => HG.out o (List.mem_of_mem_take ho)
      rw [List.length_take] at hlen
      have hbwr : Below w.heap.size w wr := hq5.trans (hbr.mono hq5.size)
      obtain ⟨c0, c1, c2, c3, c4⟩ := ord_cells (cells_below hc hbwr (by omega)) hlt
      obtain ⟨od, hod⟩ : ∃ od, l[k]?.getD Od.z = od := ⟨_, rfl⟩
      rw [hod] at c0 c1 c2 c3 c4 hgo hst
      rw [hst] at hlen
      have HS := Lib.hid hst
      have HLEN := Lib.hid hlen
      clear hst hod hc hlen
      obtain ⟨W6, hW6⟩ : ∃ W6, (wr.alloc (.cells #[.int .i64 od.num, .int .i64 od.acc, .int .i64 od.gross, .int .i64 od.tax, .int .i64 od.net] 47)).alloc (.cells #[.int .i64 od.num, .int .i64 od.acc, .int .i64 od.gross, .int .i64 od.tax, .int .i64 od.net] 3) = W6 := ⟨_, rfl⟩
      have hns : Blk W6 (wr.heap.size + 1) ([od.num, od.acc, od.gross, od.tax, od.net].map I).toArray 3 := by
        rw [← hW6, show wr.heap.size + 1 = (wr.alloc (.cells #[.int .i64 od.num, .int .i64 od.acc, .int .i64 od.gross, .int .i64 od.tax, .int .i64 od.net] 47)).heap.size by simp]; exact Blk.new _ _ _
      have hb6 : Below wr.heap.size wr W6 := by rw [← hW6]; exact ((Below.refl _ wr).alloc (Nat.le_refl _) _).alloc (by simp) _
      have hline := rline_any 0 (wr.heap.size + 1) wOrder [od.num, od.acc, od.gross, od.tax, od.net] W6 hns hgo (by simp [wOrder]) (by simp)
      have hll : (lineB wOrder [od.num, od.acc, od.gross, od.tax, od.net]).length ≤ 100 := by
        have := numsB_len hgo
        simp only [lineB, wOrder, List.length_append, List.length_cons, List.length_nil] at this ⊢; omega
      have he : lineB wOrder [od.num, od.acc, od.gross, od.tax, od.net] = odL od := rfl
      rw [he] at hline hll
      obtain ⟨ol, holE⟩ : ∃ ol, odL od = ol := ⟨_, rfl⟩
      rw [holE] at hline hll
      have HOL := Lib.hid holE
      have hcat : (⟨out.toArray⟩ : ByteArray) ++ (⟨ol.toArray⟩ : ByteArray) = ⟨(out ++ ol).toArray⟩ := str_app out ol
      have HW6 := Lib.hid hW6
      clear hW6 hns hgo he holE
      go_wp2_with fail
      rw [HW6.out]
      refine hline.mono ?_
      rintro e w7 ⟨rfl, hb7⟩
      go_wp2_with fail
      refine ⟨⟨k + 1, out ++ ol, by omega, by go_num, rfl, ?_, Lib.hid ?_, hbr.trans ((hb6.trans (hb7.mono hb6.size)).mono hsz)⟩, by simp [intOf]; omega⟩
      · have h1 := HLEN.out
        rw [HOUT.out, ← HOL.out]
        simp only [List.length_append] at h1 ⊢
        omega
      · rw [HS.out, HOUT.out, HOL.out]; simp
    · obtain rfl : k = l.length := by omega
      have hce := rend_any out wr (by omega)
      have hcl : (endB out).length = 22 := endB_length out
      have hcat : (⟨out.toArray⟩ : ByteArray) ++ (⟨(endB out).toArray⟩ : ByteArray) = ⟨(out ++ endB out).toArray⟩ := str_app out (endB out)
      go_wp2_with fail
      refine hce.mono ?_
      rintro e w7 ⟨rfl, rfl⟩
      go_wp2_with fail
      go_ret2
      refine ⟨?_, hq5.trans (hbr.mono hq5.size)⟩
      have h1 := HOUT.out
      rw [List.take_length, ← HHD.out] at h1
      rw [writeS, if_pos HX.out]
      subst h1
      rfl
end Go.Proofs.YtaccaebdmndkiaaGreatDoor
