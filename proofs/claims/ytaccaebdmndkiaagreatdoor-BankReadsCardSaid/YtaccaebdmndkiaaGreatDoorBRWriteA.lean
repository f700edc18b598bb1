/- The reference of layer 36: WriteAnswer. No conditions beyond those stated. -/
import Derived.Test.YtaccaebdmndkiaaGreatDoorBRTxt
import Derived.Test.YtaccaebdmndkiaaGreatDoorBRRight
import Derived.Test.YtaccaebdmndkiaaGreatDoorBWr2
namespace Go.Proofs.YtaccaebdmndkiaaGreatDoor
open Go.RowKit
set_option linter.unusedVariables false

set_option maxHeartbeats 1000000 in
theorem rwriteA_any (K : Nat) (n d : Int) (l : List Rt) (v : Value) (w : World) (hv : Rets K w v l) (hK : K ≤ w.heap.size) :
    Calls Tryz.prog 11 #[.agg #[.int .i64 n, .int .i64 d, v]] w fun e w' => e = .returned (.tuple #[.string ⟨(writeAS ⟨n, d, l⟩).1.toArray⟩, .int .i64 (writeAS ⟨n, d, l⟩).2]) ∧ Below w.heap.size w w' := by
  have hb1 : Below w.heap.size w (w.alloc (.cells #[.int .i64 n, .int .i64 d, v] 41)) := (Below.refl _ w).alloc (Nat.le_refl _) _
  have q1 := Blk.new w #[.int .i64 n, .int .i64 d, v] 41
  have hvl : ∃ a cap, v = .slice a l.length cap := by obtain ⟨a, cap, rfl, _⟩ := hv; exact ⟨a, cap, rfl⟩
  obtain ⟨va, vcap, rfl⟩ := hvl
  have hvd := rright_any K n d _ l _ (hv.below hb1 hK (Nat.le_refl _)) (Nat.le_trans hK hb1.size)
  obtain ⟨x, hx⟩ : ∃ x, okA ⟨n, d, l⟩ = x := ⟨_, rfl⟩
  have HX := Lib.hid hx
  rw [hx] at hvd
  clear hx
  go_enter Tryz.func11, Tryz.ntmps11
  go_wp2_with fail
  refine hvd.mono ?_
  rintro e w1 ⟨rfl, hb2⟩
  have hbq := hb1.trans (hb2.mono hb1.size)
  have q2 := q1.below hb2 (by simp)
  have hs2 := q2.lt
  clear hb1 hb2 q1 hvd
  cases x with
  | false =>
    go_wp2_with fail
    go_ret2
    exact ⟨by rw [writeAS, if_neg (by rw [HX.out]; simp)]; rfl, hbq⟩
  | true =>
  obtain ⟨_, _, hl1000, hto⟩ := okA_parts HX.out
  simp only at hl1000 hto
  have HG := Lib.hid (okRs_all hto)
  have hgn := headGnA HX.out
  simp only at hgn
  clear hto
  obtain ⟨d0, d1, d2⟩ := q2.three
  have hns := Blk.new w1 #[.int .i64 n, .int .i64 d, .int .i64 l.length] 3
  have hq4 : Below w.heap.size w (w1.alloc (.cells #[.int .i64 n, .int .i64 d, .int .i64 l.length] 3)) := hbq.alloc hbq.size _
  have q4 := q2.alloc (.cells #[.int .i64 n, .int .i64 d, .int .i64 l.length] 3)
  obtain ⟨W4, hW4⟩ : ∃ W4, w1.alloc (.cells #[.int .i64 n, .int .i64 d, .int .i64 l.length] 3) = W4 := ⟨_, rfl⟩
  rw [hW4] at hns hq4 q4
  have HW4 := Lib.hid hW4
  have hline := rline_any 0 w1.heap.size wBACK [n, d, (l.length : Int)] W4 hns hgn (by simp [wBACK]) (by simp)
  clear hW4 hns hgn
  go_wp2_with fail
  rw [HW4.out]
  refine hline.mono ?_
  rintro e w5 ⟨rfl, hb5⟩
  have q5 := q4.below hb5 q4.lt
  have hq5 := hq4.trans (hb5.mono hq4.size)
  have hhl := numsB_len (headGnA HX.out)
  have hhd : (headA ⟨n, d, l⟩).length ≤ 80 := by
    simp only [headA, lineB, wBACK, List.length_append, List.length_cons, List.length_nil] at hhl ⊢; omega
  have hh0 : headA ⟨n, d, l⟩ = lineB wBACK [n, d, (l.length : Int)] := rfl
  rw [← hh0]
  obtain ⟨hd, hhdE⟩ : ∃ hd, headA ⟨n, d, l⟩ = hd := ⟨_, rfl⟩
  rw [hhdE] at hhd ⊢
  have HHD := Lib.hid hhdE
  clear hh0 hhdE hline hhl q4 hq4 hb5 d0 d1 d2
  have hs5 := q5.lt
  go_wp2_with fail
  go_loopw [4, 5] (fun s i wr => ∃ (k : Nat) (out : List UInt8), k ≤ l.length ∧ i = .int .i64 k ∧ s = .string ⟨out.toArray⟩ ∧ out.length ≤ 200000 ∧ Hid (out = hd ++ rtsB (l.take k)) ∧ Below w5.heap.size w5 wr) (fun _ i _ => l.length - (intOf i).toNat)
  case atStart => exact ⟨0, hd, Nat.zero_le _, rfl, rfl, by omega, Lib.hid (by simp [rtsB]), Below.refl _ _⟩
  case round =>
    obtain ⟨k, out, hk, rfl, rfl, hol, HOUT, hbr⟩ := hrel
    have hsz := hbr.size
    have qr := q5.below hbr hs5
    obtain ⟨d0, d1, d2⟩ := qr.three
    by_cases hlt : k < l.length
    · obtain ⟨ob, oo, ocap, he, _, hlc, hm, hob, hc⟩ := (Recs.cases hv).resolve_left (by rintro ⟨_, _, _, h0, _⟩; omega)
      simp only [Value.slice.injEq, true_and] at he
      obtain ⟨rfl, rfl⟩ := he
      unfold maxLen at hm
      have hgo := rtGn (HG.out _ (getD_mem hlt Rt.z))
      have hst := rtsB_take l k hlt
      have hlen := rtsB_len fun o (ho : o ∈ l.take (k + 1)) => HG.out o (List.mem_of_mem_take ho)
      rw [List.length_take] at hlen
      have hbwr : Below w.heap.size w wr := hq5.trans (hbr.mono hq5.size)
      obtain ⟨c0, c1⟩ := ret_cells (cells_below hc hbwr (by omega)) hlt
      obtain ⟨od, hod⟩ : ∃ od, l[k]?.getD Rt.z = od := ⟨_, rfl⟩
      rw [hod] at c0 c1 hgo hst
      rw [hst] at hlen
      have HS := Lib.hid hst
      have HLEN := Lib.hid hlen
      clear hst hod hc hlen
      go_upto_region 7 with fail
      refine region_plain (fun W => Blk W w.heap.size #[.int .i64 n, .int .i64 d, .slice (some ⟨ob, oo, none⟩) l.length vcap] 41 ∧ W.cell? ⟨ob, oo + k * 2, none⟩ = some (.int .i64 od.ord) ∧ W.cell? ⟨ob, oo + k * 2 + 1, none⟩ = some (.int .i64 od.why)) [] (by kernel_rfl) ?_
      have q0 : Blk wr.drew w.heap.size #[.int .i64 n, .int .i64 d, .slice (some ⟨ob, oo, none⟩) l.length vcap] 41 ∧ wr.drew.cell? ⟨ob, oo + k * 2, none⟩ = some (.int .i64 od.ord) ∧ wr.drew.cell? ⟨ob, oo + k * 2 + 1, none⟩ = some (.int .i64 od.why) := ⟨qr, c0, c1⟩
      clear d0 d1 d2
      refine wpAnyD_take (i := 0) (v := .string ⟨out.toArray⟩) rfl (by kernel_rfl) (by kernel_rfl) (by kernel_rfl) (by kernel_rfl) (by kernel_rfl) (fun _ _ _ h => h) (.inl ⟨by kernel_rfl, fun W' hS => by go_simp⟩) q0 ?_
      refine wpAnyD_take (i := 1) (v := .pointer (some ⟨w.heap.size, 2, none⟩)) rfl (by kernel_rfl) (by kernel_rfl) (by kernel_rfl) (by kernel_rfl) (by kernel_rfl) (fun _ _ _ h => h) (.inl ⟨by kernel_rfl, fun W' hS => by go_simp⟩) q0 ?_
      refine wpAnyD_take (i := 2) (v := .slice (some ⟨ob, oo, none⟩) l.length vcap) rfl (by kernel_rfl) (by kernel_rfl) (by kernel_rfl) (by kernel_rfl) (by kernel_rfl) (fun _ _ _ h => h) (.inl ⟨by kernel_rfl, fun W' hS => by obtain ⟨c0, c1, c2⟩ := hS.1.three; go_simp⟩) q0 ?_
      refine wpAnyD_take (i := 3) (v := .int .i64 k) rfl (by kernel_rfl) (by kernel_rfl) (by kernel_rfl) (by kernel_rfl) (by kernel_rfl) (fun _ _ _ h => h) (.inl ⟨by kernel_rfl, fun W' hS => by go_simp⟩) q0 ?_
      refine wpAnyD_take (i := 4) (v := .pointer (some ⟨ob, oo + k * 2, none⟩)) rfl (by kernel_rfl) (by kernel_rfl) (by kernel_rfl) (by kernel_rfl) (by kernel_rfl) (fun _ _ _ h => h) (.inl ⟨by kernel_rfl, fun W' hS => by go_simp⟩) q0 ?_
      refine wpAnyD_take (i := 5) (v := .pointer (some ⟨ob, oo + k * 2, none⟩)) rfl (by kernel_rfl) (by kernel_rfl) (by kernel_rfl) (by kernel_rfl) (by kernel_rfl) (fun _ _ _ h => h) (.inl ⟨by kernel_rfl, fun W' hS => by go_simp⟩) q0 ?_
      refine wpAnyD_take (i := 6) (v := .int .i64 od.ord) rfl (by kernel_rfl) (by kernel_rfl) (by kernel_rfl) (by kernel_rfl) (by kernel_rfl) (fun _ _ _ h => h) (.inl ⟨by kernel_rfl, fun W' hS => by have h2 := hS.2.1; go_simp⟩) q0 ?_
      refine wpAnyD_take (i := 7) (v := .pointer (some ⟨w.heap.size, 2, none⟩)) rfl (by kernel_rfl) (by kernel_rfl) (by kernel_rfl) (by kernel_rfl) (by kernel_rfl) (fun _ _ _ h => h) (.inl ⟨by kernel_rfl, fun W' hS => by go_simp⟩) q0 ?_
      refine wpAnyD_take (i := 8) (v := .slice (some ⟨ob, oo, none⟩) l.length vcap) rfl (by kernel_rfl) (by kernel_rfl) (by kernel_rfl) (by kernel_rfl) (by kernel_rfl) (fun _ _ _ h => h) (.inl ⟨by kernel_rfl, fun W' hS => by obtain ⟨c0, c1, c2⟩ := hS.1.three; go_simp⟩) q0 ?_
      refine wpAnyD_take (i := 9) (v := .int .i64 k) rfl (by kernel_rfl) (by kernel_rfl) (by kernel_rfl) (by kernel_rfl) (by kernel_rfl) (fun _ _ _ h => h) (.inl ⟨by kernel_rfl, fun W' hS => by go_simp⟩) q0 ?_
      refine wpAnyD_take (i := 10) (v := .pointer (some ⟨ob, oo + k * 2, none⟩)) rfl (by kernel_rfl) (by kernel_rfl) (by kernel_rfl) (by kernel_rfl) (by kernel_rfl) (fun _ _ _ h => h) (.inl ⟨by kernel_rfl, fun W' hS => by go_simp⟩) q0 ?_
      refine wpAnyD_take (i := 11) (v := .pointer (some ⟨ob, oo + k * 2 + 1, none⟩)) rfl (by kernel_rfl) (by kernel_rfl) (by kernel_rfl) (by kernel_rfl) (by kernel_rfl) (fun _ _ _ h => h) (.inl ⟨by kernel_rfl, fun W' hS => by go_simp⟩) q0 ?_
      refine wpAnyD_take (i := 12) (v := .int .i64 od.why) rfl (by kernel_rfl) (by kernel_rfl) (by kernel_rfl) (by kernel_rfl) (by kernel_rfl) (fun _ _ _ h => h) (.inl ⟨by kernel_rfl, fun W' hS => by have h2 := hS.2.2; go_simp⟩) q0 ?_
      obtain ⟨W0, hW0⟩ : ∃ W0, wr.drew = W0 := ⟨_, rfl⟩
      have hk0 : Below wr.heap.size wr W0 := hW0 ▸ (Below.refl _ wr).drew
      have hz0 : wr.heap.size ≤ W0.heap.size := hk0.size
      rw [hW0] at q0 ⊢
      clear hW0
      refine wpAnyD_one (i := 13) (by kernel_rfl) rfl (by kernel_rfl) ?_
      go_simp
      obtain ⟨W6, hW6⟩ : ∃ W6, W0.alloc (.cells #[.int .i64 od.ord, .int .i64 od.why] 3) = W6 := ⟨_, rfl⟩
      have hns : Blk W6 W0.heap.size ([od.ord, od.why].map I).toArray 3 := hW6 ▸ Blk.new W0 _ _
      have hb6 : Below wr.heap.size wr W6 := hW6 ▸ hk0.alloc hz0 _
      have hoblt : ob < wr.heap.size := by have := hbwr.size; omega
      have hwlt : w.heap.size < wr.heap.size := by omega
      rw [hW6]
      have q6 : Blk W6 w.heap.size #[.int .i64 n, .int .i64 d, .slice (some ⟨ob, oo, none⟩) l.length vcap] 41 ∧ W6.cell? ⟨ob, oo + k * 2, none⟩ = some (.int .i64 od.ord) ∧ W6.cell? ⟨ob, oo + k * 2 + 1, none⟩ = some (.int .i64 od.why) := ⟨qr.below hb6 hwlt, (hb6.cell (p := ⟨ob, oo + k * 2, none⟩) hoblt).trans c0, (hb6.cell (p := ⟨ob, oo + k * 2 + 1, none⟩) hoblt).trans c1⟩
      refine ⟨q6, ?_⟩
      have hline := rline_any 0 W0.heap.size wReturn [od.ord, od.why] W6 hns hgo (by simp [wReturn]) (by simp)
      have hll : (lineB wReturn [od.ord, od.why]).length ≤ 100 := by
        have := numsB_len hgo
        simp only [lineB, wReturn, List.length_append, List.length_cons, List.length_nil] at this ⊢; omega
      have he : lineB wReturn [od.ord, od.why] = rtL od := rfl
      rw [he] at hline hll
      obtain ⟨ol, holE⟩ : ∃ ol, rtL od = ol := ⟨_, rfl⟩
      rw [holE] at hline hll
      have HOL := Lib.hid holE
      have hcat : (⟨out.toArray⟩ : ByteArray) ++ (⟨ol.toArray⟩ : ByteArray) = ⟨(out ++ ol).toArray⟩ := str_app out ol
      have hszs : out.length + ol.length ≤ 9223372036854775807 := by omega
      clear hW6 hns hgo he holE
      refine wpAnyD_one (i := 14) (by kernel_rfl) rfl (by kernel_rfl) ?_
      go_simp
      refine hline.mono ?_
      rintro e w7 ⟨rfl, hb7⟩
      have hb7' := hb6.trans (hb7.mono hb6.size)
      have q7 : Blk w7 w.heap.size #[.int .i64 n, .int .i64 d, .slice (some ⟨ob, oo, none⟩) l.length vcap] 41 ∧ w7.cell? ⟨ob, oo + k * 2, none⟩ = some (.int .i64 od.ord) ∧ w7.cell? ⟨ob, oo + k * 2 + 1, none⟩ = some (.int .i64 od.why) := ⟨qr.below hb7' hwlt, (hb7'.cell (p := ⟨ob, oo + k * 2, none⟩) hoblt).trans c0, (hb7'.cell (p := ⟨ob, oo + k * 2 + 1, none⟩) hoblt).trans c1⟩
      refine ⟨q7, ?_⟩
      refine wpAnyD_take (i := 15) (v := .string ⟨(out ++ ol).toArray⟩) rfl (by kernel_rfl) (by kernel_rfl) (by kernel_rfl) (by kernel_rfl) (by kernel_rfl) (fun _ _ _ h => h) (.inl ⟨by kernel_rfl, fun W' hS => by go_simp⟩) q7 ?_
      refine wpAnyD_take (i := 16) (v := .string ⟨(out ++ ol).toArray⟩) rfl (by kernel_rfl) (by kernel_rfl) (by kernel_rfl) (by kernel_rfl) (by kernel_rfl) (fun _ _ _ h => h) (.inl ⟨by kernel_rfl, fun W' hS => by go_simp⟩) q7 ?_
      refine wpAnyD_done (by kernel_rfl) ?_ _
      go_wp2_with fail
      refine ⟨⟨k + 1, out ++ ol, by omega, by go_num, rfl, ?_, Lib.hid ?_, hbr.trans (hb7'.mono hsz)⟩, by simp [intOf]; omega⟩
      · have h1 := HLEN.out
        rw [HOUT.out, ← HOL.out]
        simp only [List.length_append] at h1 ⊢
        omega
      · rw [HS.out, HOUT.out, HOL.out]; simp
    · obtain rfl : k = l.length := by omega
      have hce := rend_any out wr (by omega)
      have hcl : (endB out).length = 22 := endB_length out
      have hcat : (⟨out.toArray⟩ : ByteArray) ++ (⟨(endB out).toArray⟩ : ByteArray) = ⟨(out ++ endB out).toArray⟩ := str_app out (endB out)
      go_wp2_with fail
      refine hce.mono ?_
      rintro e w7 ⟨rfl, rfl⟩
      go_wp2_with fail
      go_ret2
      refine ⟨?_, hq5.trans (hbr.mono hq5.size)⟩
      have h1 := HOUT.out
      rw [List.take_length, ← HHD.out] at h1
      rw [writeAS, if_pos HX.out]
      subst h1
      rfl
end Go.Proofs.YtaccaebdmndkiaaGreatDoor
