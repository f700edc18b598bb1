/- The reference of layer 36: Right. No conditions beyond the readings of the arguments. -/
import Derived.Test.YtaccaebdmndkiaaGreatDoorBVal
import Derived.Test.YtaccaebdmndkiaaGreatDoorRF
import Derived.Deep.CutRange
namespace Go.Proofs.YtaccaebdmndkiaaGreatDoor
open Go.RowKit
set_option linter.unusedVariables false

theorem below_drewN' {B : Nat} {a w : World} (h : Below B a w) (n : Nat) : Below B a (w.drewN n) := h.trans ⟨rfl, rfl, rfl, Nat.le_refl _, fun _ _ => rfl⟩
theorem okA_no {n d : Int} {l : List Rt} (h : ¬ ((1 ≤ n ∧ n ≤ 1099511627776) ∧ (0 ≤ d ∧ d < 65536) ∧ l.length ≤ 1000)) : false = okA ⟨n, d, l⟩ := by
  cases hx : okA ⟨n, d, l⟩ with
  | false => rfl
  | true => exact absurd (by have := okA_parts hx; simp only at this; exact ⟨this.1, this.2.1, this.2.2.1⟩) h
theorem okA_yes {n d : Int} {l : List Rt} (h : (1 ≤ n ∧ n ≤ 1099511627776) ∧ (0 ≤ d ∧ d < 65536) ∧ l.length ≤ 1000) : okA ⟨n, d, l⟩ = okRs 0 l := by
  have h1 : okHead n d = true := by rw [okHead_iff]; exact ⟨h.1, h.2.1⟩
  simp [okA, h1, h.2.2]
theorem okRt_iff (r : Rt) : okRt r = true ↔ (1 ≤ r.ord ∧ r.ord ≤ 1099511627776) ∧ 1 ≤ r.why ∧ r.why ≤ 9 := by simp [okRt, okNum]

set_option maxHeartbeats 2000000 in
theorem rright_any (K : Nat) (n d : Int) (v : Value) (l : List Rt) (w : World) (hv : Rets K w v l) (hK : K ≤ w.heap.size) :
    Calls Tryz.prog 30 #[.agg #[.int .i64 n, .int .i64 d, v]] w fun e w' => e = .returned (.bool (okA ⟨n, d, l⟩)) ∧ Below w.heap.size w w' := by
  have hvl : ∃ a cap, v = .slice a l.length cap := by obtain ⟨a, cap, rfl, _⟩ := hv; exact ⟨a, cap, rfl⟩
  obtain ⟨va, vcap, rfl⟩ := hvl
  have hbw : Below w.heap.size w (w.alloc (.cells #[.int .i64 n, .int .i64 d, .slice va l.length vcap] 41)) := (Below.refl _ w).alloc (Nat.le_refl _) _
  have q := Blk.new w #[.int .i64 n, .int .i64 d, .slice va l.length vcap] 41
  have hv1 := hv.below hbw hK (Nat.le_refl _)
  obtain ⟨W, hW⟩ : ∃ W, w.alloc (.cells #[.int .i64 n, .int .i64 d, .slice va l.length vcap] 41) = W := ⟨_, rfl⟩
  have hsW : W.heap.size = w.heap.size + 1 := by rw [← hW]; simp
  rw [hW] at hbw q hv1
  have HW := Lib.hid hW
  have HSW := Lib.hid hsW
  clear hW hv hsW
  by_cases hh : (1 ≤ n ∧ n ≤ 1099511627776) ∧ (0 ≤ d ∧ d < 65536) ∧ l.length ≤ 1000
  case neg =>
    go_enter Tryz.func30, Tryz.ntmps30
    go_wp2_with fail
    all_goals first
      | (rw [HW.out]; go_ret; exact ⟨ret_bool (okA_no hh), hbw⟩)
      | (exfalso; omega)
  case pos =>
    have HOK := Lib.hid (okA_yes hh)
    obtain ⟨⟨hn1, hn2⟩, ⟨hd1, hd2⟩, hl1000⟩ := hh
    go_enter Tryz.func30, Tryz.ntmps30
    go_wp2_with fail
    rw [HW.out]
    go_loopw [3] (fun i wr => ∃ (k : Nat) (last : Int), k ≤ l.length ∧ i = .int .i64 k ∧ Hid (last = if k = 0 then 0 else (l[k - 1]?.getD Rt.z).ord) ∧
      Hid (okRs 0 l = okRs last (l.drop k)) ∧ Below (w.heap.size + 1) W wr) (fun i _ => l.length - (intOf i).toNat)
    case atStart => exact ⟨0, 0, Nat.zero_le _, rfl, Lib.hid rfl, Lib.hid rfl, Below.refl _ _⟩
    case round =>
      obtain ⟨k, last, hk, rfl, HLA, HR, hbr⟩ := hrel
      have hsr := hbr.size
      rw [HSW.out] at hsr
      have qr := q.below hbr (Nat.lt_succ_self _)
      obtain ⟨d0, d1, d2⟩ := qr.three
      by_cases hlt : k < l.length
      · obtain ⟨b, o, cap, he, _, hlc, hm, hob, hc⟩ := hv1.cases.resolve_left (by rintro ⟨_, _, _, h0, _⟩; omega)
        simp only [Value.slice.injEq, true_and] at he
        obtain ⟨rfl, rfl⟩ := he
        unfold maxLen at hm
        have hc' := cells_below hc hbr (by omega)
        obtain ⟨c0, c1⟩ := ret_cells hc' hlt
        have hst := okRs_step l k last hlt
        obtain ⟨rt, hrt⟩ : ∃ rt, l[k]?.getD Rt.z = rt := ⟨_, rfl⟩
        rw [hrt] at c0 c1 hst
        have HC := Lib.hid hc'
        have HS := Lib.hid hst
        have HRT := Lib.hid hrt
        clear hc hc' hst hrt
        obtain ⟨ro, ry⟩ := rt
        dsimp only at c0 c1
        have hbn := hbr.alloc (o := .cells #[.int .i64 ro, .int .i64 ry] 72) hsr
        have q1 := Blk.new wr #[.int .i64 ro, .int .i64 ry] 72
        obtain ⟨e0, e1⟩ := q1.two
        obtain ⟨wq, hwq⟩ : ∃ wq, wr.alloc (.cells #[.int .i64 ro, .int .i64 ry] 72) = wq := ⟨_, rfl⟩
        have hnq : Below wr.heap.size wr wq := hwq ▸ (Below.refl wr.heap.size wr).alloc (Nat.le_refl _) _
        obtain ⟨f0, f1, f2⟩ := (qr.below hnq (by omega)).three
        rw [hwq] at hbn e0 e1
        have HWQ := Lib.hid hwq
        clear hwq q1
        by_cases h1 : ro < 1
        · have hno : okRt ⟨ro, ry⟩ = false := by rw [Bool.eq_false_iff]; intro h; have := (okRt_iff _).1 h; simp only at this; omega
          go_upto_region 7 with fail
          rw [HWQ.out]
          go_quiet (fail)
          go_wp2_with fail
          go_ret
          refine ⟨ret_bool ?_, hbw.trans ((below_drewN' hbn _).mono (Nat.le_succ _))⟩
          rw [HOK.out, HR.out, HS.out, hno]; rfl
        by_cases h2 : 1099511627776 < ro
        · have hno : okRt ⟨ro, ry⟩ = false := by rw [Bool.eq_false_iff]; intro h; have := (okRt_iff _).1 h; simp only at this; omega
          go_upto_region 7 with fail
          rw [HWQ.out]
          go_quiet (fail)
          go_wp2_with fail
          go_ret
          refine ⟨ret_bool ?_, hbw.trans ((below_drewN' hbn _).mono (Nat.le_succ _))⟩
          rw [HOK.out, HR.out, HS.out, hno]; rfl
        by_cases h3 : ry < 1
        · have hno : okRt ⟨ro, ry⟩ = false := by rw [Bool.eq_false_iff]; intro h; have := (okRt_iff _).1 h; simp only at this; omega
          go_upto_region 7 with fail
          rw [HWQ.out]
          go_quiet (fail)
          go_wp2_with fail
          go_ret
          refine ⟨ret_bool ?_, hbw.trans ((below_drewN' hbn _).mono (Nat.le_succ _))⟩
          rw [HOK.out, HR.out, HS.out, hno]; rfl
        by_cases h4 : 9 < ry
        · have hno : okRt ⟨ro, ry⟩ = false := by rw [Bool.eq_false_iff]; intro h; have := (okRt_iff _).1 h; simp only at this; omega
          go_upto_region 7 with fail
          rw [HWQ.out]
          go_quiet (fail)
          go_wp2_with fail
          go_ret
          refine ⟨ret_bool ?_, hbw.trans ((below_drewN' hbn _).mono (Nat.le_succ _))⟩
          rw [HOK.out, HR.out, HS.out, hno]; rfl
        have HO : Hid (okRt ⟨ro, ry⟩ = true) := Lib.hid ((okRt_iff _).2 (by simp only; omega))
        by_cases hk0 : 0 < k
        · have hkI : (0 : Int) < (k : Int) := by omega
          have hla : last = (l[k - 1]?.getD Rt.z).ord := by rw [HLA.out, if_neg (by omega)]
          have hpc := (hnq.cell (p := ⟨b, o + (k - 1) * 2, none⟩) (show b < wr.heap.size by omega)).trans (ret_cells HC.out (show k - 1 < l.length by omega)).1
          rw [← hla] at hpc
          clear hla
          by_cases hp : ro ≤ last
          · go_upto_region 7 with fail
            rw [HWQ.out]
            go_quiet (fail)
            go_wp2_with fail
            go_ret
            refine ⟨ret_bool ?_, hbw.trans ((below_drewN' hbn _).mono (Nat.le_succ _))⟩
            have h5 : decide (last < ro) = false := decide_eq_false (by omega)
            rw [HOK.out, HR.out, HS.out, h5, Bool.false_and, Bool.and_false]
          · go_upto_region 7 with fail
            rw [HWQ.out]
            go_quiet (fail)
            go_wp2_with fail
            refine ⟨⟨k + 1, ro, by omega, by go_num, Lib.hid ?_, Lib.hid ?_, below_drewN' hbn _⟩, by simp [intOf]; omega⟩
            · rw [if_neg (by omega), Nat.add_sub_cancel, HRT.out]
            · have h5 : decide (last < ro) = true := decide_eq_true (by omega)
              rw [HR.out, HS.out, HO.out]
              dsimp only
              rw [h5, Bool.true_and, Bool.true_and]
        · go_upto_region 7 with fail
          rw [HWQ.out]
          go_quiet (fail)
          go_wp2_with fail
          refine ⟨⟨k + 1, ro, by omega, by go_num, Lib.hid ?_, Lib.hid ?_, below_drewN' hbn _⟩, by simp [intOf]; omega⟩
          · rw [if_neg (by omega), Nat.add_sub_cancel, HRT.out]
          · have h0 := HLA.out
            rw [if_pos (by omega)] at h0
            have h5 : decide (last < ro) = true := decide_eq_true (by omega)
            rw [HR.out, HS.out, HO.out]
            dsimp only
            rw [h5, Bool.true_and, Bool.true_and]
      · obtain rfl : k = l.length := by omega
        go_wp2_with fail
        go_ret
        refine ⟨ret_bool ?_, hbw.trans (hbr.mono (Nat.le_succ _))⟩
        rw [HOK.out, HR.out, List.drop_length]
        rfl
end Go.Proofs.YtaccaebdmndkiaaGreatDoor
