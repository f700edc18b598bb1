/- Package bank: total, Valid, Right. No conditions beyond the readings of the arguments. -/
import Derived.Test.YtaccaebdmndkiaaGreatDoorB1
namespace Go.Proofs.YtaccaebdmndkiaaGreatDoor
open Go.RowKit
set_option linter.unusedVariables false

theorem cells_below {c n b o B : Nat} {f : Nat → Nat → Int} {w w' : World} (hc : ∀ i, i < n → ∀ j, j < c → w.cell? ⟨b, o + (i * c + j), none⟩ = some (.int .i64 (f i j))) (hb : Below B w w') (hlt : b < B) :
    ∀ i, i < n → ∀ j, j < c → w'.cell? ⟨b, o + (i * c + j), none⟩ = some (.int .i64 (f i j)) :=
  fun i hi j hj => (hb.cell (p := ⟨b, o + (i * c + j), none⟩) hlt).trans (hc i hi j hj)

theorem sum_any (K : Nat) (n d : Int) (v : Value) (l : List Od) (w : World) (hv : Ords K w v l) (hK : K ≤ w.heap.size) (hok : ∀ o ∈ l, okOd o = true) (hl : l.length ≤ 1000) :
    Calls Tryz.prog 36 #[.agg #[.int .i64 n, .int .i64 d, v]] w fun e w' => e = .returned (.int .i64 (tot l)) ∧ Below w.heap.size w w' := by
  rcases hv.cases with ⟨a, cap, rfl, h0, hm, _⟩ | ⟨b, o, cap, rfl, h0, hlc, hm, hb, hc⟩
  · obtain rfl : l = [] := List.eq_nil_of_length_eq_zero h0
    go_enter Tryz.func36, Tryz.ntmps36
    go_wp2
    go_rounds 1
    go_ret
    exact ⟨rfl, (Below.refl _ w).alloc (Nat.le_refl _) _⟩
  · unfold maxLen at hm
    go_enter Tryz.func36, Tryz.ntmps36
    go_wp2
    have hbw : Below w.heap.size w (w.alloc (.cells #[.int .i64 n, .int .i64 d, .slice (some ⟨b, o, none⟩) l.length cap] 27)) := (Below.refl _ w).alloc (Nat.le_refl _) _
    go_loopw [3, 9] (fun s i wr => ∃ k : Nat, k ≤ l.length ∧ i = .int .i64 k ∧ s = .int .i64 (tot (l.take k)) ∧ Below w.heap.size w wr) (fun _ i _ => l.length - (intOf i).toNat)
    case atStart => exact ⟨0, Nat.zero_le _, rfl, rfl, hbw⟩
    case round =>
      obtain ⟨k, hk, rfl, rfl, hbr⟩ := hrel
      by_cases hlt : k < l.length
      · have hs := tot_bd fun o (ho : o ∈ l.take k) => hok o (List.mem_of_mem_take ho)
        have hx := net_bd (hok _ (getD_mem hlt Od.z))
        have hst := tot_take l k hlt
        rw [List.length_take] at hs
        obtain ⟨c0, c1, c2, c3, c4⟩ := ord_cells (cells_below hc hbr (by omega)) hlt
        obtain ⟨od, hod⟩ : ∃ od, l[k]?.getD Od.z = od := ⟨_, rfl⟩
        obtain ⟨s, hse⟩ : ∃ s, tot (l.take k) = s := ⟨_, rfl⟩
        rw [hod] at c0 c1 c2 c3 c4 hx hst
        rw [hse] at hs hst ⊢
        have HS := Lib.hid hst
        clear hst hod hse hc
        have hs1 : 0 ≤ s := hs.1
        have hs2 : s ≤ 2000 * 1099511627776 := by omega
        have hx1 := hx.1
        have hx2 := hx.2
        clear hs hx
        go_wp2_with fail
        exact ⟨⟨k + 1, by omega, by go_num, by rw [HS.out], hbr.alloc hbr.size _⟩, by simp [intOf]; omega⟩
      · obtain rfl : k = l.length := by omega
        go_wp2_with fail
        go_ret
        exact ⟨by rw [List.take_length]; rfl, hbr⟩

theorem okF_len {n d : Int} {l : List Od} (h : ¬ l.length ≤ 1000) : false = okF ⟨n, d, l⟩ := by simp [okF, h]
theorem okF_head {n d : Int} {l : List Od} (h : okHead n d = false) : false = okF ⟨n, d, l⟩ := by simp [okF, h]
theorem okF_to {n d : Int} {l : List Od} (h : okTo 0 l = false) : false = okF ⟨n, d, l⟩ := by simp [okF, h]
theorem okF_end {n d : Int} {l : List Od} (h1 : okHead n d = true) (h2 : l.length ≤ 1000) (h3 : okTo 0 l = true) : decide (tot l ≤ 1099511627776) = okF ⟨n, d, l⟩ := by simp [okF, h1, h2, h3]

set_option maxHeartbeats 1000000 in
theorem valid_any (K : Nat) (v : Value) (n d : Int) (l : List Od) (w : World) (hv : Ords K w v l) (hK : K ≤ w.heap.size) :
    Calls Tryz.prog 34 #[.agg #[.int .i64 n, .int .i64 d, v]] w fun e w' => e = .returned (.bool (okF ⟨n, d, l⟩)) ∧ Below w.heap.size w w' := by
  obtain ⟨x, hx⟩ : ∃ x, okHead n d = x := ⟨_, rfl⟩
  have HX := Lib.hid hx
  have hv0 := hv
  have hbox : Below w.heap.size w (w.alloc (.cells #[.int .i64 n, .int .i64 d, v] 27)) := (Below.refl _ w).alloc (Nat.le_refl _) _
  rcases hv.cases with ⟨a, cap, rfl, h0, hm, _⟩ | ⟨b, o, cap, rfl, h0, hlc, hm, hb, hc⟩
  · obtain rfl : l = [] := List.eq_nil_of_length_eq_zero h0
    have hv1 : Ords K (w.alloc (.cells #[.int .i64 n, .int .i64 d, .slice a 0 cap] 27)) (.slice a 0 cap) [] := hv0.below hbox hK (Nat.le_refl _)
    go_enter Tryz.func34, Tryz.ntmps34
    go_wp2_with (go_at_call 48; refine (isHead_any _ _ _).mono ?_; rintro e w1 ⟨rfl, rfl⟩; rw [hx]; cases x)
    · go_ret
      exact ⟨ret_bool (okF_head HX.out), hbox⟩
    · go_rounds 1
      go_rounds 1
      go_ret
      exact ⟨ret_bool (by simp [okF, HX.out, okTo, tot]), hbox.alloc hbox.size _⟩
  · unfold maxLen at hm
    obtain ⟨W0, hW0⟩ : ∃ W0, w.alloc (.cells #[.int .i64 n, .int .i64 d, .slice (some ⟨b, o, none⟩) l.length cap] 27) = W0 := ⟨_, rfl⟩
    have qbox : Blk W0 w.heap.size #[.int .i64 n, .int .i64 d, .slice (some ⟨b, o, none⟩) l.length cap] 27 := hW0 ▸ Blk.new w _ _
    have hsz0 : W0.heap.size = w.heap.size + 1 := by rw [← hW0]; simp
    rw [hW0] at hbox
    have HW0 := Lib.hid hW0
    clear hW0
    have HC := Lib.hid (cells_below hc hbox (Nat.lt_of_lt_of_le hb hK))
    have HV := Lib.hid (hv.below hbox hK (Nat.le_refl _))
    clear hc hv hv0
    by_cases hl : l.length ≤ 1000
    · have h1000 : decide ((1000 : Int) < (l.length : Int)) = false := by simp; omega
      have HS := Lib.hid hsz0
      clear hsz0
      go_enter Tryz.func34, Tryz.ntmps34
      go_wp2_with (go_at_call 48; refine (isHead_any _ _ _).mono ?_; rintro e w1 ⟨rfl, rfl⟩; rw [hx]; cases x)
      · go_ret
        exact ⟨ret_bool (okF_head HX.out), HW0.out ▸ hbox⟩
      · rw [HW0.out]
        go_loopw [3, 21] (fun s i wr => ∃ (k : Nat) (last : Int), k ≤ l.length ∧ i = .int .i64 k ∧ s = .int .i64 last ∧ Hid (okTo 0 l = okTo last (l.drop k)) ∧ Below (w.heap.size + 1) W0 wr) (fun _ i _ => l.length - (intOf i).toNat)
        case atStart => exact ⟨0, 0, Nat.zero_le _, rfl, rfl, Lib.hid rfl, Below.refl _ _⟩
        case round =>
          obtain ⟨k, last, hk, rfl, rfl, HR, hbr⟩ := hrel
          have hsr := hbr.size
          rw [HS.out] at hsr
          by_cases hlt : k < l.length
          · obtain ⟨c0, c1, c2, c3, c4⟩ := ord_cells (cells_below HC.out hbr (by omega)) hlt
            have hst := okTo_step l k last hlt
            obtain ⟨od, hod⟩ : ∃ od, l[k]?.getD Od.z = od := ⟨_, rfl⟩
            rw [hod] at c0 c1 c2 c3 c4 hst
            have HS2 := Lib.hid hst
            clear hst hod
            have hbr2 := hbr.alloc (o := .cells #[.int .i64 od.num, .int .i64 od.acc, .int .i64 od.gross, .int .i64 od.tax, .int .i64 od.net] 47) hsr
            obtain ⟨y, hy⟩ : ∃ y, okOd od = y := ⟨_, rfl⟩
            have HY := Lib.hid hy
            go_wp2_with (go_at_call 49; refine (isOd_any od _).mono ?_; rintro e w1 ⟨rfl, hb1⟩; have q1 := (Blk.new wr #[.int .i64 od.num, .int .i64 od.acc, .int .i64 od.gross, .int .i64 od.tax, .int .i64 od.net] 47).below hb1 (by simp); obtain ⟨e0, e1, e2, e3, e4⟩ := q1.five; have hbx := (hbr2.trans (hb1.mono (by simp; omega))); clear e1 e2 e3 e4 q1; rw [hy]; cases y)
            · go_ret
              exact ⟨ret_bool (okF_to (by rw [HR.out, HS2.out, HY.out]; rfl)), hbox.trans (hbx.mono (Nat.le_succ _))⟩
            · have hh : od.num ≤ last := by assumption
              go_ret
              exact ⟨ret_bool (okF_to (by rw [HR.out, HS2.out, HY.out]; simp; omega)), hbox.trans (hbx.mono (Nat.le_succ _))⟩
            · have hh : last < od.num := by assumption
              exact ⟨⟨k + 1, od.num, by omega, by go_num, rfl, Lib.hid (by rw [HR.out, HS2.out, HY.out]; simp [hh]), hbx⟩, by simp [intOf]; omega⟩
          · obtain rfl : k = l.length := by omega
            have hsz : K ≤ wr.heap.size := by omega
            obtain ⟨d0, d1, d2⟩ := (qbox.below hbr (by omega)).three
            have hok : okTo 0 l = true := by rw [HR.out, List.drop_length]; rfl
            have HOK := Lib.hid hok
            clear hok
            have HVr := Lib.hid (Recs.below HV.out hbr (by omega) (Nat.le_refl _))
            go_wp2_with (go_at_call 36; refine (sum_any K n d _ l _ HVr.out hsz (okTo_all HOK.out) hl).mono ?_; rintro e w1 ⟨rfl, hb1⟩)
            go_ret
            exact ⟨ret_bool (okF_end HX.out hl HOK.out), hbox.trans ((hbr.mono (Nat.le_succ _)).trans (hb1.mono (by omega)))⟩
    · have h1000 : decide ((1000 : Int) < (l.length : Int)) = true := by simp; omega
      go_enter Tryz.func34, Tryz.ntmps34
      go_wp2_with (go_at_call 48; refine (isHead_any _ _ _).mono ?_; rintro e w1 ⟨rfl, rfl⟩; rw [hx]; cases x)
      all_goals go_ret
      all_goals exact ⟨ret_bool (okF_len hl), HW0.out ▸ hbox⟩
theorem okA_len {n d : Int} {l : List Rt} (h : ¬ l.length ≤ 1000) : false = okA ⟨n, d, l⟩ := by simp [okA, h]
theorem okA_head {n d : Int} {l : List Rt} (h : okHead n d = false) : false = okA ⟨n, d, l⟩ := by simp [okA, h]
theorem okA_to {n d : Int} {l : List Rt} (h : okRs 0 l = false) : false = okA ⟨n, d, l⟩ := by simp [okA, h]
theorem okA_end {n d : Int} {l : List Rt} (h1 : okHead n d = true) (h2 : l.length ≤ 1000) (h3 : okRs 0 l = true) : true = okA ⟨n, d, l⟩ := by simp [okA, h1, h2, h3]

set_option maxHeartbeats 1000000 in
theorem right_any (K : Nat) (v : Value) (n d : Int) (l : List Rt) (w : World) (hv : Rets K w v l) (hK : K ≤ w.heap.size) :
    Calls Tryz.prog 35 #[.agg #[.int .i64 n, .int .i64 d, v]] w fun e w' => e = .returned (.bool (okA ⟨n, d, l⟩)) ∧ Below w.heap.size w w' := by
  obtain ⟨x, hx⟩ : ∃ x, okHead n d = x := ⟨_, rfl⟩
  have HX := Lib.hid hx
  have hv0 := hv
  have hbox : Below w.heap.size w (w.alloc (.cells #[.int .i64 n, .int .i64 d, v] 30)) := (Below.refl _ w).alloc (Nat.le_refl _) _
  rcases hv.cases with ⟨a, cap, rfl, h0, hm, _⟩ | ⟨b, o, cap, rfl, h0, hlc, hm, hb, hc⟩
  · obtain rfl : l = [] := List.eq_nil_of_length_eq_zero h0
    have hv1 : Rets K (w.alloc (.cells #[.int .i64 n, .int .i64 d, .slice a 0 cap] 30)) (.slice a 0 cap) [] := hv0.below hbox hK (Nat.le_refl _)
    go_enter Tryz.func35, Tryz.ntmps35
    go_wp2_with (go_at_call 48; refine (isHead_any _ _ _).mono ?_; rintro e w1 ⟨rfl, rfl⟩; rw [hx]; cases x)
    · go_ret
      exact ⟨ret_bool (okA_head HX.out), hbox⟩
    · go_rounds 1
      go_ret
      exact ⟨ret_bool (by simp [okA, HX.out, okRs]), hbox⟩
  · unfold maxLen at hm
    obtain ⟨W0, hW0⟩ : ∃ W0, w.alloc (.cells #[.int .i64 n, .int .i64 d, .slice (some ⟨b, o, none⟩) l.length cap] 30) = W0 := ⟨_, rfl⟩
    have qbox : Blk W0 w.heap.size #[.int .i64 n, .int .i64 d, .slice (some ⟨b, o, none⟩) l.length cap] 30 := hW0 ▸ Blk.new w _ _
    have hsz0 : W0.heap.size = w.heap.size + 1 := by rw [← hW0]; simp
    rw [hW0] at hbox
    have HW0 := Lib.hid hW0
    clear hW0
    have HC := Lib.hid (cells_below hc hbox (Nat.lt_of_lt_of_le hb hK))
    have HV := Lib.hid (hv.below hbox hK (Nat.le_refl _))
    clear hc hv hv0
    by_cases hl : l.length ≤ 1000
    · have h1000 : decide ((1000 : Int) < (l.length : Int)) = false := by simp; omega
      have HS := Lib.hid hsz0
      clear hsz0
      go_enter Tryz.func35, Tryz.ntmps35
      go_wp2_with (go_at_call 48; refine (isHead_any _ _ _).mono ?_; rintro e w1 ⟨rfl, rfl⟩; rw [hx]; cases x)
      · go_ret
        exact ⟨ret_bool (okA_head HX.out), HW0.out ▸ hbox⟩
      · rw [HW0.out]
        go_loopw [3, 21] (fun s i wr => ∃ (k : Nat) (last : Int), k ≤ l.length ∧ i = .int .i64 k ∧ s = .int .i64 last ∧ Hid (okRs 0 l = okRs last (l.drop k)) ∧ Below (w.heap.size + 1) W0 wr) (fun _ i _ => l.length - (intOf i).toNat)
        case atStart => exact ⟨0, 0, Nat.zero_le _, rfl, rfl, Lib.hid rfl, Below.refl _ _⟩
        case round =>
          obtain ⟨k, last, hk, rfl, rfl, HR, hbr⟩ := hrel
          have hsr := hbr.size
          rw [HS.out] at hsr
          by_cases hlt : k < l.length
          · obtain ⟨c0, c1⟩ := ret_cells (cells_below HC.out hbr (by omega)) hlt
            have hst := okRs_step l k last hlt
            obtain ⟨od, hod⟩ : ∃ od, l[k]?.getD Rt.z = od := ⟨_, rfl⟩
            rw [hod] at c0 c1 hst
            have HS2 := Lib.hid hst
            clear hst hod
            have hbr2 := hbr.alloc (o := .cells #[.int .i64 od.ord, .int .i64 od.why] 49) hsr
            obtain ⟨y, hy⟩ : ∃ y, okNum od.ord = y := ⟨_, rfl⟩
            have HY := Lib.hid hy
            have q1 := Blk.new wr #[.int .i64 od.ord, .int .i64 od.why] 49
            obtain ⟨e0, e1⟩ := q1.two
            have hbx := hbr2
            clear q1
            go_wp2_with (go_at_call 50; refine (isNum_any _ _).mono ?_; rintro e w1 ⟨rfl, rfl⟩; rw [hy]; cases y)
            all_goals first
              | (go_ret; exact ⟨ret_bool (okA_to (by rw [HR.out, HS2.out, Bool.eq_false_iff]; intro hc; simp [okRt, HY.out] at hc <;> omega)), hbox.trans (hbx.mono (Nat.le_succ _))⟩)
              | (refine ⟨⟨k + 1, od.ord, by omega, by go_num, rfl, Lib.hid ?_, hbx⟩, by simp [intOf]; omega⟩
                 have h1 : okRt od = true := by simp [okRt, HY.out]; omega
                 have h2 : decide (last < od.ord) = true := by simp; omega
                 rw [HR.out, HS2.out, h1, h2]; rfl)
          · obtain rfl : k = l.length := by omega
            have hok : okRs 0 l = true := by rw [HR.out, List.drop_length]; rfl
            have HOK := Lib.hid hok
            clear hok
            go_wp2_with fail
            go_ret
            exact ⟨ret_bool (okA_end HX.out hl HOK.out), hbox.trans (hbr.mono (Nat.le_succ _))⟩
    · have h1000 : decide ((1000 : Int) < (l.length : Int)) = true := by simp; omega
      go_enter Tryz.func35, Tryz.ntmps35
      go_wp2_with (go_at_call 48; refine (isHead_any _ _ _).mono ?_; rintro e w1 ⟨rfl, rfl⟩; rw [hx]; cases x)
      all_goals go_ret
      all_goals exact ⟨ret_bool (okA_len hl), HW0.out ▸ hbox⟩
end Go.Proofs.YtaccaebdmndkiaaGreatDoor
