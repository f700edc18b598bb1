/- The reference of layer 36: sum, Valid, Right. No conditions beyond the readings of the arguments. -/
import Derived.Test.YtaccaebdmndkiaaGreatDoorBVal
import Derived.Test.YtaccaebdmndkiaaGreatDoorRF
import Derived.Deep.CutRange
namespace Go.Proofs.YtaccaebdmndkiaaGreatDoor
open Go.RowKit
set_option linter.unusedVariables false

theorem rsum_any (K : Nat) (n d : Int) (v : Value) (l : List Od) (w : World) (hv : Ords K w v l) (hK : K ≤ w.heap.size) (hok : ∀ o ∈ l, okOd o = true) (hl : l.length ≤ 1000) :
    Calls Tryz.prog 29 #[.agg #[.int .i64 n, .int .i64 d, v]] w fun e w' => e = .returned (.int .i64 (tot l)) ∧ Below w.heap.size w w' := by
  have hvl : ∃ a cap, v = .slice a l.length cap := by obtain ⟨a, cap, rfl, _⟩ := hv; exact ⟨a, cap, rfl⟩
  obtain ⟨va, vcap, rfl⟩ := hvl
  have hbw : Below w.heap.size w (w.alloc (.cells #[.int .i64 n, .int .i64 d, .slice va l.length vcap] 36)) := (Below.refl _ w).alloc (Nat.le_refl _) _
  have q := Blk.new w #[.int .i64 n, .int .i64 d, .slice va l.length vcap] 36
  have hv1 := hv.below hbw hK (Nat.le_refl _)
  obtain ⟨W, hW⟩ : ∃ W, w.alloc (.cells #[.int .i64 n, .int .i64 d, .slice va l.length vcap] 36) = W := ⟨_, rfl⟩
  rw [hW] at hbw q hv1
  have HW := Lib.hid hW
  clear hW hv
  obtain ⟨d0, d1, d2⟩ := q.three
  go_enter Tryz.func29, Tryz.ntmps29
  go_wp2_with fail
  rw [HW.out]
  go_loop [3, 4] (fun s i => ∃ k : Nat, k ≤ l.length ∧ i = .int .i64 k ∧ s = .int .i64 (tot (l.take k))) (fun _ i => l.length - (intOf i).toNat)
  case atStart => exact ⟨0, Nat.zero_le _, rfl, rfl⟩
  case round =>
    obtain ⟨k, hk, rfl, rfl⟩ := hrel
    by_cases hlt : k < l.length
    · obtain ⟨b, o, cap, he, _, hlc, hm, hob, hc⟩ := hv1.cases.resolve_left (by rintro ⟨_, _, _, h0, _⟩; omega)
      simp only [Value.slice.injEq, true_and] at he
      obtain ⟨rfl, rfl⟩ := he
      unfold maxLen at hm
      have hs := tot_bd fun o (ho : o ∈ l.take k) => hok o (List.mem_of_mem_take ho)
      have hx := net_bd (hok _ (getD_mem hlt Od.z))
      have hst := tot_take l k hlt
      rw [List.length_take] at hs
      obtain ⟨c0, c1, c2, c3, c4⟩ := ord_cells hc hlt
      obtain ⟨od, hod⟩ : ∃ od, l[k]?.getD Od.z = od := ⟨_, rfl⟩
      obtain ⟨s, hse⟩ : ∃ s, tot (l.take k) = s := ⟨_, rfl⟩
      rw [hod] at c0 c1 c2 c3 c4 hx hst
      rw [hse] at hs hst ⊢
      have HS := Lib.hid hst
      clear hst hod hse hc
      have hs1 : 0 ≤ s := hs.1
      have hs2 : s ≤ 2000 * 1099511627776 := by omega
      have hx1 := hx.1
      have hx2 := hx.2
      clear hs hx
      go_wp2_with fail
      exact ⟨⟨k + 1, by omega, by go_num, by rw [HS.out]⟩, by simp [intOf]; omega⟩
    · obtain rfl : k = l.length := by omega
      go_wp2_with fail
      go_ret
      exact ⟨rfl, hbw⟩

theorem below_drewN {B : Nat} {a w : World} (h : Below B a w) (n : Nat) : Below B a (w.drewN n) := h.trans ⟨rfl, rfl, rfl, Nat.le_refl _, fun _ _ => rfl⟩
theorem okF_no {n d : Int} {l : List Od} (h : ¬ ((1 ≤ n ∧ n ≤ 1099511627776) ∧ (0 ≤ d ∧ d < 65536) ∧ l.length ≤ 1000)) : false = okF ⟨n, d, l⟩ := by
  cases hx : okF ⟨n, d, l⟩ with
  | false => rfl
  | true => exact absurd (by have := okF_parts hx; simp only at this; exact ⟨this.1, this.2.1, this.2.2.1⟩) h
theorem okF_yes {n d : Int} {l : List Od} (h : (1 ≤ n ∧ n ≤ 1099511627776) ∧ (0 ≤ d ∧ d < 65536) ∧ l.length ≤ 1000) : okF ⟨n, d, l⟩ = (okTo 0 l && decide (tot l ≤ 1099511627776)) := by
  have h1 : okHead n d = true := by rw [okHead_iff]; exact ⟨h.1, h.2.1⟩
  simp [okF, h1, h.2.2]

set_option maxRecDepth 100000 in
set_option maxHeartbeats 4000000 in
theorem rvalid_any (K : Nat) (n d : Int) (v : Value) (l : List Od) (w : World) (hv : Ords K w v l) (hK : K ≤ w.heap.size) :
    Calls Tryz.prog 27 #[.agg #[.int .i64 n, .int .i64 d, v]] w fun e w' => e = .returned (.bool (okF ⟨n, d, l⟩)) ∧ Below w.heap.size w w' := by
  have hvl : ∃ a cap, v = .slice a l.length cap := by obtain ⟨a, cap, rfl, _⟩ := hv; exact ⟨a, cap, rfl⟩
  obtain ⟨va, vcap, rfl⟩ := hvl
  have hbw : Below w.heap.size w (w.alloc (.cells #[.int .i64 n, .int .i64 d, .slice va l.length vcap] 36)) := (Below.refl _ w).alloc (Nat.le_refl _) _
  have q := Blk.new w #[.int .i64 n, .int .i64 d, .slice va l.length vcap] 36
  have hv1 := hv.below hbw hK (Nat.le_refl _)
  obtain ⟨W, hW⟩ : ∃ W, w.alloc (.cells #[.int .i64 n, .int .i64 d, .slice va l.length vcap] 36) = W := ⟨_, rfl⟩
  have hsW : W.heap.size = w.heap.size + 1 := by rw [← hW]; simp
  rw [hW] at hbw q hv1
  have HW := Lib.hid hW
  have HSW := Lib.hid hsW
  clear hW hv hsW
  by_cases hh : (1 ≤ n ∧ n ≤ 1099511627776) ∧ (0 ≤ d ∧ d < 65536) ∧ l.length ≤ 1000
  case neg =>
    go_enter Tryz.func27, Tryz.ntmps27
    go_wp2_with fail
    all_goals first
      | (rw [HW.out]; go_ret; exact ⟨ret_bool (okF_no hh), hbw⟩)
      | (exfalso; omega)
  case pos =>
    have HOK := Lib.hid (okF_yes hh)
    obtain ⟨⟨hn1, hn2⟩, ⟨hd1, hd2⟩, hl1000⟩ := hh
    go_enter Tryz.func27, Tryz.ntmps27
    go_wp2_with fail
    rw [HW.out]
    go_loopw [3, 4] (fun s i wr => ∃ (k : Nat) (x last : Int), k ≤ l.length ∧ i = .int .i64 k ∧ s = .int .i64 x ∧ 0 ≤ x ∧ x ≤ 1099511627776 ∧ Hid (last = if k = 0 then 0 else (l[k - 1]?.getD Od.z).num) ∧
      Hid ((okTo 0 l && decide (tot l ≤ 1099511627776)) = (okTo last (l.drop k) && decide (x + tot (l.drop k) ≤ 1099511627776))) ∧ Below (w.heap.size + 1) W wr) (fun _ i _ => l.length - (intOf i).toNat)
    case atStart => exact ⟨0, 0, 0, Nat.zero_le _, rfl, rfl, by omega, by omega, Lib.hid rfl, Lib.hid (by simp), Below.refl _ _⟩
    case round =>
      obtain ⟨k, x, last, hk, rfl, rfl, hx0, hx1, HLA, HR, hbr⟩ := hrel
      have hsr := hbr.size
      rw [HSW.out] at hsr
      have qr := q.below hbr (Nat.lt_succ_self _)
      obtain ⟨d0, d1, d2⟩ := qr.three
      by_cases hlt : k < l.length
      · obtain ⟨b, o, cap, he, _, hlc, hm, hob, hc⟩ := hv1.cases.resolve_left (by rintro ⟨_, _, _, h0, _⟩; omega)
        simp only [Value.slice.injEq, true_and] at he
        obtain ⟨rfl, rfl⟩ := he
        unfold maxLen at hm
        have hc' := cells_below hc hbr (by omega)
        obtain ⟨c0, c1, c2, c3, c4⟩ := ord_cells hc' hlt
        have hst := ref_step hlt last x
        obtain ⟨od, hod⟩ : ∃ od, l[k]?.getD Od.z = od := ⟨_, rfl⟩
        rw [hod] at c0 c1 c2 c3 c4 hst
        have HC := Lib.hid hc'
        have HS := Lib.hid hst
        have HOD := Lib.hid hod
        clear hc hc' hst hod
        have hbn := hbr.alloc (o := .cells #[.int .i64 od.num, .int .i64 od.acc, .int .i64 od.gross, .int .i64 od.tax, .int .i64 od.net] 47) hsr
        have q1 := Blk.new wr #[.int .i64 od.num, .int .i64 od.acc, .int .i64 od.gross, .int .i64 od.tax, .int .i64 od.net] 47
        by_cases hok : okOd od = true
        · have hkk := (okOd_iff od).1 hok
          have HO := Lib.hid hok
          have hnb := net_bd hok
          obtain ⟨on, oa, og, ot, onet⟩ := od
          clear hok
          dsimp only at c0 c1 c2 c3 c4 hkk hnb hbn q1
          obtain ⟨⟨k1, k2⟩, ⟨k3, k4⟩, k5, k6, k7, k8, k9, k10⟩ := hkk
          subst k9
          obtain ⟨e0, e1, e2, e3, e4⟩ := q1.five
          obtain ⟨hnb1, hnb2⟩ := hnb
          obtain ⟨wq, hwq⟩ : ∃ wq, wr.alloc (.cells #[.int .i64 on, .int .i64 oa, .int .i64 og, .int .i64 ot, .int .i64 (og - ot)] 47) = wq := ⟨_, rfl⟩
          have hnq : Below wr.heap.size wr wq := hwq ▸ (Below.refl wr.heap.size wr).alloc (Nat.le_refl _) _
          obtain ⟨f0, f1, f2⟩ := (qr.below hnq (by omega)).three
          rw [hwq] at hbn e0
          have HWQ := Lib.hid hwq
          clear hwq e1 e2 e3 e4 q1
          by_cases hs : 1099511627776 < x + (og - ot)
          · go_upto_region 11 with fail
            rw [HWQ.out]
            go_quiet (fail)
            go_wp2_with fail
            go_ret
            refine ⟨ret_bool ?_, hbw.trans ((below_drewN hbn _).mono (Nat.le_succ _))⟩
            rw [HOK.out, HR.out, HS.out]
            have : decide (x + (og - ot) ≤ 1099511627776) = false := by simp; omega
            simp [this]
          · have hs' : x + (og - ot) ≤ 1099511627776 := by omega
            by_cases hk0 : 0 < k
            · have hkI : (0 : Int) < (k : Int) := by omega
              have hla : last = (l[k - 1]?.getD Od.z).num := by rw [HLA.out, if_neg (by omega)]
              have hpc := (hnq.cell (p := ⟨b, o + (k - 1) * 5, none⟩) (show b < wr.heap.size by omega)).trans (ord_cells HC.out (show k - 1 < l.length by omega)).1
              rw [← hla] at hpc
              clear hla
              by_cases hp : on ≤ last
              · go_upto_region 11 with fail
                rw [HWQ.out]
                go_quiet (fail)
                go_wp2_with fail
                go_ret
                refine ⟨ret_bool ?_, hbw.trans ((below_drewN hbn _).mono (Nat.le_succ _))⟩
                rw [HOK.out, HR.out, HS.out]
                have : decide (last < on) = false := by simp; omega
                simp [this]
              · go_upto_region 11 with fail
                rw [HWQ.out]
                go_quiet (fail)
                go_wp2_with fail
                refine ⟨⟨k + 1, _, on, by omega, by go_num, rfl, by omega, hs', Lib.hid ?_, Lib.hid ?_, below_drewN hbn _⟩, by simp [intOf]; omega⟩
                · rw [if_neg (by omega), Nat.add_sub_cancel, HOD.out]
                · rw [HR.out, HS.out, HO.out]
                  have h1 : decide (last < on) = true := by simp; omega
                  have h2 : decide (x + (og - ot) ≤ 1099511627776) = true := decide_eq_true hs'
                  dsimp only
                  rw [h1, h2, Bool.true_and, Bool.true_and, Bool.true_and]
            · go_upto_region 11 with fail
              rw [HWQ.out]
              go_quiet (fail)
              go_wp2_with fail
              refine ⟨⟨k + 1, _, on, by omega, by go_num, rfl, by omega, hs', Lib.hid ?_, Lib.hid ?_, below_drewN hbn _⟩, by simp [intOf]; omega⟩
              · rw [if_neg (by omega), Nat.add_sub_cancel, HOD.out]
              · rw [HR.out, HS.out, HO.out]
                have h0 := HLA.out
                rw [if_pos (by omega)] at h0
                have h1 : decide (last < on) = true := by simp; omega
                have h2 : decide (x + (og - ot) ≤ 1099511627776) = true := decide_eq_true hs'
                dsimp only
                rw [h1, h2, Bool.true_and, Bool.true_and, Bool.true_and]
        · go_wp2_with fail
          all_goals first
            | (go_ret; refine ⟨ret_bool ?_, hbw.trans ((hbr.alloc hsr _).mono (Nat.le_succ _))⟩; rw [HOK.out, HR.out, HS.out, Bool.not_eq_true _ |>.mp hok]; rfl)
            | (exfalso; exact hok ((okOd_iff od).2 (by omega)))
      · obtain rfl : k = l.length := by omega
        go_wp2_with fail
        go_ret
        refine ⟨ret_bool ?_, hbw.trans (hbr.mono (Nat.le_succ _))⟩
        rw [HOK.out, HR.out, List.drop_length]
        simp [okTo, tot, hx1]
end Go.Proofs.YtaccaebdmndkiaaGreatDoor
