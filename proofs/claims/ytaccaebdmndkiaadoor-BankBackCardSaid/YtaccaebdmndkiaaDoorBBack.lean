/- BankBack: the walk. No conditions beyond the readings of the arguments. -/
import Derived.Test.YtaccaebdmndkiaaDoorBSame
import Derived.Test.YtaccaebdmndkiaaDoorBSw0
import Derived.Test.YtaccaebdmndkiaaDoorBOnly
namespace Go.Proofs.YtaccaebdmndkiaaDoor
open Go.RowKit
set_option linter.unusedVariables false

theorem tot_dropB (l : List Od) (k : Nat) (h : k < l.length) : tot (l.drop k) = (l[k]?.getD Od.z).net + tot (l.drop (k + 1)) := by
  rw [List.drop_eq_getElem_cons h, List.getElem?_eq_getElem h]; rfl
theorem totalS_ok {f : Fi} (h : okF f = true) : totalS f = (tot f.ods, 0) := by rw [totalS, if_pos h]

set_option maxRecDepth 100000 in
set_option maxHeartbeats 8000000 in
theorem back_walk (K : Nat) (n d : Int) (l : List Od) (v : Value) (an ad : Int) (rs : List Rt) (u : Value) (w : World) (hv : Ords K w v l) (hu : Rets K w u rs) (hK : K ≤ w.heap.size)
    (hT : Tabs w.heap.size w) (hM : MaxI w.heap.size w) :
    Calls Tryd.prog 7 #[.agg #[.int .i64 n, .int .i64 d, v], .agg #[.int .i64 an, .int .i64 ad, u]] w fun e w' => e = .returned (.bool true) ∧ Below w.heap.size w w' := by
  have hvl : ∃ a cap, v = .slice a l.length cap := by obtain ⟨a, cap, rfl, _⟩ := hv; exact ⟨a, cap, rfl⟩
  obtain ⟨va, vcap, rfl⟩ := hvl
  have hul : ∃ a cap, u = .slice a rs.length cap := by obtain ⟨a, cap, rfl, _⟩ := hu; exact ⟨a, cap, rfl⟩
  obtain ⟨ua, ucap, rfl⟩ := hul
  have hb1 : Below w.heap.size w ((w.alloc (.cells #[.int .i64 n, .int .i64 d, .slice va l.length vcap] 24)).alloc (.cells #[.int .i64 an, .int .i64 ad, .slice ua rs.length ucap] 27)) := ((Below.refl _ w).alloc (Nat.le_refl _) _).alloc (by simp) _
  have q1 := (Blk.new w #[.int .i64 n, .int .i64 d, .slice va l.length vcap] 24).alloc (.cells #[.int .i64 an, .int .i64 ad, .slice ua rs.length ucap] 27)
  have q2 := Blk.new (w.alloc (.cells #[.int .i64 n, .int .i64 d, .slice va l.length vcap] 24)) #[.int .i64 an, .int .i64 ad, .slice ua rs.length ucap] 27
  rw [World.size_alloc] at q2
  obtain ⟨W1, hW1⟩ : ∃ W1, (w.alloc (.cells #[.int .i64 n, .int .i64 d, .slice va l.length vcap] 24)).alloc (.cells #[.int .i64 an, .int .i64 ad, .slice ua rs.length ucap] 27) = W1 := ⟨_, rfl⟩
  rw [hW1] at hb1 q1 q2
  have HW1 := Lib.hid hW1
  clear hW1
  have hv1 : Ords W1.heap.size W1 (.slice va l.length vcap) l := Recs.below hv hb1 hK (Nat.le_trans hK hb1.size)
  have hu1 : Rets W1.heap.size W1 (.slice ua rs.length ucap) rs := Recs.below hu hb1 hK (Nat.le_trans hK hb1.size)
  have ha := awake_any W1 (hT.up hb1 hb1.size)
  clear hv hu
  go_enter Tryd.func7, Tryd.ntmps7
  go_wp2_with fail
  rw [HW1.out]
  refine ha.mono ?_
  rintro e w2 ⟨rfl, hb2⟩
  clear ha
  have hbq := hb1.trans (hb2.mono hb1.size)
  have q1 := q1.below hb2 q1.lt
  have q2 := q2.below hb2 q2.lt
  obtain ⟨d0, d1, d2⟩ := q1.three
  obtain ⟨e0, e1, e2⟩ := q2.three
  have hv2 : Ords W1.heap.size w2 (.slice va l.length vcap) l := Recs.below hv1 hb2 (Nat.le_refl _) (Nat.le_refl _)
  have hu2 : Rets W1.heap.size w2 (.slice ua rs.length ucap) rs := Recs.below hu1 hb2 (Nat.le_refl _) (Nat.le_refl _)
  have hs2 := hb2.size
  clear hv1 hu1 hb1 hb2
  by_cases hl1 : 100 < l.length
  · have g1 : decide ((100 : Int) < (l.length : Int)) = true := decide_eq_true (by omega)
    clear hl1 hv2 hu2
    go_wp2_with fail
    go_ret
    exact ⟨rfl, hbq⟩
  have g1 : decide ((100 : Int) < (l.length : Int)) = false := decide_eq_false (by omega)
  by_cases hl2 : 100 < rs.length
  · have g2 : decide ((100 : Int) < (rs.length : Int)) = true := decide_eq_true (by omega)
    clear hl1 hl2 hv2 hu2
    go_wp2_with fail
    go_ret
    exact ⟨rfl, hbq⟩
  have g2 : decide ((100 : Int) < (rs.length : Int)) = false := decide_eq_false (by omega)
  have HRL := Lib.hid (show rs.length ≤ 8796093021952 by omega)
  have HLL := Lib.hid (show l.length ≤ 100 by omega)
  have hvd := valid_any W1.heap.size (.slice va l.length vcap) n d l w2 hv2 hs2
  obtain ⟨x, hx⟩ : ∃ x, okF ⟨n, d, l⟩ = x := ⟨_, rfl⟩
  rw [hx] at hvd
  have HX := Lib.hid hx
  clear hx hl1 hl2
  go_wp2_with fail
  refine hvd.mono ?_
  rintro e w3 ⟨rfl, hb3⟩
  clear hvd d0 d1 d2 e0 e1 e2 g1 g2
  have hbw := hbq.trans (hb3.mono hbq.size)
  have q1 := q1.below hb3 q1.lt
  have q2 := q2.below hb3 q2.lt
  have hv3 : Ords W1.heap.size w3 (.slice va l.length vcap) l := Recs.below hv2 hb3 hs2 (Nat.le_refl _)
  have hu3 : Rets W1.heap.size w3 (.slice ua rs.length ucap) rs := Recs.below hu2 hb3 hs2 (Nat.le_refl _)
  have hs3 := Nat.le_trans hs2 hb3.size
  clear hv2 hu2 hs2 hb3 hbq
  cases x with
  | false =>
    obtain ⟨e0, e1, e2⟩ := q2.three
    have hra := right_any W1.heap.size (.slice ua rs.length ucap) an ad rs w3 hu3 hs3
    obtain ⟨y, hy⟩ : ∃ y, okA ⟨an, ad, rs⟩ = y := ⟨_, rfl⟩
    rw [hy] at hra
    have HY := Lib.hid hy
    clear hy
    go_wp2_with fail
    refine hra.mono ?_
    rintro e t1 ⟨rfl, hc1⟩
    clear hra e0 e1 e2
    have hbt1 := hbw.trans (hc1.mono hbw.size)
    have q2 := q2.below hc1 q2.lt
    have hz1 := Nat.le_trans hs3 hc1.size
    have hut1 : Rets W1.heap.size t1 (.slice ua rs.length ucap) rs := Recs.below hu3 hc1 hs3 (Nat.le_refl _)
    obtain ⟨e0, e1, e2⟩ := q2.three
    clear hc1 hu3 hbw hs3
    cases y with
    | false =>
      clear hut1
      go_wp2_with fail
      go_ret
      exact ⟨rfl, hbt1⟩
    | true =>
    have hwa := writeA_any W1.heap.size an ad rs _ t1 hut1 hz1 (hT.up hbt1 hbt1.size)
    obtain ⟨xl, hxl⟩ : ∃ tl, textA ⟨an, ad, rs⟩ = tl := ⟨_, rfl⟩
    have hr1 := readA_text HY.out
    have hr2 := readF_textA HY.out
    rw [writeAS_ok HY.out] at hwa
    dsimp only at hwa
    have hln : xl.length ≤ 2 ^ 40 := by
      have := bodyA_len HY.out
      rw [← hxl]; simp only [textA, List.length_append, endB_length]; omega
    rw [hxl] at hwa hr1 hr2
    obtain ⟨x, hx⟩ : ∃ x : ByteArray, (⟨xl.toArray⟩ : ByteArray) = x := ⟨_, rfl⟩
    have hxd : x.data.toList = xl := by rw [← hx]
    rw [hx] at hwa
    have hxs : x.size ≤ 2 ^ 40 := by rw [size_of hxd]; exact hln
    have HXD := Lib.hid hxd
    have HQ1 := Lib.hid hr1
    have HQ2 := Lib.hid hr2
    have HXS := Lib.hid hxs
    clear hx hxl hln hxd hr1 hr2 hxs
    go_wp2_with fail
    refine hwa.mono ?_
    rintro e t2 ⟨rfl, hc2⟩
    clear hwa e0 e1 e2
    have hbt2 := hbt1.trans (hc2.mono hbt1.size)
    have q2 := q2.below hc2 q2.lt
    have hz2 := Nat.le_trans hz1 hc2.size
    have hut2 : Rets W1.heap.size t2 (.slice ua rs.length ucap) rs := Recs.below hut1 hc2 hz1 (Nat.le_refl _)
    clear hut1 hz1 hbt1 hc2
    have hra := readA_any x t2 HXS.out (hT.up hbt2 hbt2.size) (hM.up hbt2 hbt2.size)
    rw [HXD.out, HQ1.out] at hra
    dsimp only at hra
    go_wp2_with fail
    refine hra.mono ?_
    rintro e t3 ⟨oa, rfl, hoa, hc3⟩
    have hol : ∃ p c, oa = .slice p rs.length c := by obtain ⟨p, c, h, _⟩ := hoa; exact ⟨p, c, h⟩
    obtain ⟨ap, ac, rfl⟩ := hol
    clear hra
    have hc23 := hc3.trans ((Below.refl _ t3).mono hc3.size |>.alloc hc3.size (.cells #[.int .i64 an, .int .i64 ad, .slice ap rs.length ac] 27))
    have hcz : Below t3.heap.size t3 (t3.alloc (.cells #[.int .i64 an, .int .i64 ad, .slice ap rs.length ac] 27)) := (Below.refl _ t3).alloc (Nat.le_refl _) _
    have q4 := Blk.new t3 #[.int .i64 an, .int .i64 ad, .slice ap rs.length ac] 27
    obtain ⟨T3, hT3⟩ : ∃ W5, t3.alloc (.cells #[.int .i64 an, .int .i64 ad, .slice ap rs.length ac] 27) = W5 := ⟨_, rfl⟩
    rw [hT3] at hc23 hcz q4
    have HT3 := Lib.hid hT3
    have hk23 : t2.heap.size ≤ t3.heap.size := hc3.size
    have hbt3 := hbt2.trans (hc23.mono hbt2.size)
    have q2 := q2.below hc23 q2.lt
    have hz3 := Nat.le_trans hz2 hc23.size
    have hut3 : Rets W1.heap.size T3 (.slice ua rs.length ucap) rs := Recs.below hut2 hc23 hz2 (Nat.le_refl _)
    have hoa3 : Rets T3.heap.size T3 (.slice ap rs.length ac) rs := Recs.below hoa hcz (Nat.le_refl _) hcz.size
    clear hT3 hut2 hz2 hc23 hbt2 hoa hcz hc3
    have hrf := readF_any x T3 HXS.out (hT.up hbt3 hbt3.size) (hM.up hbt3 hbt3.size)
    rw [HXD.out, HQ2.out] at hrf
    dsimp only [Fi.z] at hrf
    go_wp2_with fail
    rw [HT3.out]
    refine hrf.mono ?_
    rintro e t4 ⟨ov, rfl, hov, hc4⟩
    have hol : ∃ p c, ov = .slice p 0 c := by obtain ⟨p, c, h, _⟩ := hov; exact ⟨p, c, h⟩
    obtain ⟨bp, bc, rfl⟩ := hol
    clear hrf hov
    have hc34 := hc4.trans ((Below.refl _ t4).mono hc4.size |>.alloc hc4.size (.cells #[.int .i64 0, .int .i64 0, .slice bp 0 bc] 24))
    obtain ⟨T4, hT4⟩ : ∃ W6, t4.alloc (.cells #[.int .i64 0, .int .i64 0, .slice bp 0 bc] 24) = W6 := ⟨_, rfl⟩
    rw [hT4] at hc34
    have HT4 := Lib.hid hT4
    have hk34 : T3.heap.size ≤ t4.heap.size := hc4.size
    have hk3 : t3.heap.size < t4.heap.size := Nat.lt_of_lt_of_le q4.lt hc4.size
    have hbt4 := hbt3.trans (hc34.mono hbt3.size)
    have q2 := q2.below hc34 q2.lt
    have q4 := q4.below hc34 q4.lt
    have hz4 := Nat.le_trans hz3 hc34.size
    have hz34 := hc34.size
    have hut4 : Rets W1.heap.size T4 (.slice ua rs.length ucap) rs := Recs.below hut3 hc34 hz3 (Nat.le_refl _)
    have hoa4 : Rets T3.heap.size T4 (.slice ap rs.length ac) rs := Recs.below hoa3 hc34 (Nat.le_refl _) (Nat.le_refl _)
    clear hT4 hut3 hoa3 hz3 hc34 hbt3 hc4
    go_wp2_with fail
    rw [HT4.out]
    refine wp_onlyN ?_
    refine region_plain (fun W' => Below T4.heap.size T4 W') [] (by kernel_rfl) ?_
    have qQ : (fun W' => Below T4.heap.size T4 W') T4.drew := ⟨rfl, rfl, rfl, Nat.le_refl _, fun _ _ => rfl⟩
    refine wpAnyD_take (i := 0) (v := .int .i64 0) rfl (by kernel_rfl) (by kernel_rfl) (by kernel_rfl) (by kernel_rfl) (by kernel_rfl) (fun _ _ _ h => h) (.inl ⟨by kernel_rfl, fun W' hS => by go_simp⟩) qQ ?_
    refine wpAnyD_take (i := 1) (v := .bool true) rfl (by kernel_rfl) (by kernel_rfl) (by kernel_rfl) (by kernel_rfl) (by kernel_rfl) (fun _ _ _ h => h) (.inl ⟨by kernel_rfl, fun W' hS => by go_simp⟩) qQ ?_
    refine wpAnyD_take (i := 2) (v := .bool true) rfl (by kernel_rfl) (by kernel_rfl) (by kernel_rfl) (by kernel_rfl) (by kernel_rfl) (fun _ _ _ h => h) (.inl ⟨by kernel_rfl, fun W' hS => by go_simp⟩) qQ ?_
    refine wpAnyD_take (i := 3) (v := .int .i64 0) rfl (by kernel_rfl) (by kernel_rfl) (by kernel_rfl) (by kernel_rfl) (by kernel_rfl) (fun _ _ _ h => h) (.inl ⟨by kernel_rfl, fun W' hS => by go_simp⟩) qQ ?_
    refine wpAnyD_take (i := 4) (v := .bool true) rfl (by kernel_rfl) (by kernel_rfl) (by kernel_rfl) (by kernel_rfl) (by kernel_rfl) (fun _ _ _ h => h) (.inl ⟨by kernel_rfl, fun W' hS => by go_simp⟩) qQ ?_
    refine wpAnyD_take (i := 5) (v := .bool true) rfl (by kernel_rfl) (by kernel_rfl) (by kernel_rfl) (by kernel_rfl) (by kernel_rfl) (fun _ _ _ h => h) (.inl ⟨by kernel_rfl, fun W' hS => by go_simp⟩) qQ ?_
    refine wpAnyD_take (i := 6) (v := .bool true) rfl (by kernel_rfl) (by kernel_rfl) (by kernel_rfl) (by kernel_rfl) (by kernel_rfl) (fun _ _ _ h => h) (.inl ⟨by kernel_rfl, fun W' hS => by go_simp⟩) qQ ?_
    refine wpAnyD_take (i := 7) (v := .int .i64 360) rfl (by kernel_rfl) (by kernel_rfl) (by kernel_rfl) (by kernel_rfl) (by kernel_rfl) (fun _ _ _ h => h) (.inl ⟨by kernel_rfl, fun W' hS => by go_simp⟩) qQ ?_
    refine wpAnyD_take (i := 8) (v := .bool true) rfl (by kernel_rfl) (by kernel_rfl) (by kernel_rfl) (by kernel_rfl) (by kernel_rfl) (fun _ _ _ h => h) (.inl ⟨by kernel_rfl, fun W' hS => by go_simp⟩) qQ ?_
    refine wpAnyD_take (i := 9) (v := .bool true) rfl (by kernel_rfl) (by kernel_rfl) (by kernel_rfl) (by kernel_rfl) (by kernel_rfl) (fun _ _ _ h => h) (.inl ⟨by kernel_rfl, fun W' hS => by go_simp⟩) qQ ?_
    refine wpAnyD_take (i := 10) (v := .bool true) rfl (by kernel_rfl) (by kernel_rfl) (by kernel_rfl) (by kernel_rfl) (by kernel_rfl) (fun _ _ _ h => h) (.inl ⟨by kernel_rfl, fun W' hS => by go_simp⟩) qQ ?_
    refine wpAnyD_take (i := 11) (v := .agg #[.int .i64 an, .int .i64 ad, .slice ua rs.length ucap]) rfl (by kernel_rfl) (by kernel_rfl) (by kernel_rfl) (by kernel_rfl) (by kernel_rfl) (fun _ _ _ h => h) (.inl ⟨by kernel_rfl, fun W' hS => by have d := (q2.below hS q2.lt).three; have d0' := d.1; have d1' := d.2.1; have d2' := d.2.2; go_simp⟩) qQ ?_
    refine wpAnyD_take (i := 13) (v := .agg #[.int .i64 an, .int .i64 ad, .slice ap rs.length ac]) rfl (by kernel_rfl) (by kernel_rfl) (by kernel_rfl) (by kernel_rfl) (by kernel_rfl) (fun _ _ _ h => h) (.inl ⟨by kernel_rfl, fun W' hS => by have d := (q4.below hS q4.lt).three; have d0' := d.1; have d1' := d.2.1; have d2' := d.2.2; go_simp⟩) qQ ?_
    have ho1 := old_any T4.heap.size an ad rs (.slice ua rs.length ucap) T4.drew (Recs.below hut4 qQ hz4 hz4) (Nat.le_refl _) HRL.out
    refine wpAnyD_one (i := 12) (by kernel_rfl) rfl (by kernel_rfl) ?_
    go_simp
    refine ho1.mono ?_
    rintro e t5 ⟨a5, c5, rfl, hw5, hc5⟩
    have hS5 : Below T4.heap.size T4 t5 := qQ.trans hc5
    have hr5 : Rets t5.heap.size t5 (.slice a5 rs.length c5) rs := hw5.rets
    have ho2 := old_any T4.heap.size an ad rs (.slice ap rs.length ac) t5 (Recs.below hoa4 hS5 hz34 hz34) hS5.size HRL.out
    go_simp
    refine wpAnyD_one (i := 14) (by kernel_rfl) rfl (by kernel_rfl) ?_
    go_simp
    refine ho2.mono ?_
    rintro e t6 ⟨a6, c6, rfl, hw6, hc6⟩
    have hS6 : Below T4.heap.size T4 t6 := hS5.trans (hc6.mono hS5.size)
    have hr6 : Rets t6.heap.size t6 (.slice a6 rs.length c6) rs := hw6.rets
    have hr56 : Rets t6.heap.size t6 (.slice a5 rs.length c5) rs := Recs.below hr5 hc6 (Nat.le_refl _) hc6.size
    have hsa := sameA_any t6.heap.size an ad (.slice a5 rs.length c5) (.slice a6 rs.length c6) rs t6 hr56 hr6 (Nat.le_refl _)
    go_simp
    refine wpAnyD_one (i := 15) (by kernel_rfl) rfl (by kernel_rfl) ?_
    go_simp
    refine hsa.mono ?_
    rintro e t7 ⟨rfl, hc7⟩
    have hS7 : Below T4.heap.size T4 t7 := hS6.trans (hc7.mono hS6.size)
    go_simp
    refine wpAnyD_one (i := 16) (by kernel_rfl) rfl (by kernel_rfl) ?_
    go_simp
    refine wpAnyD_one (i := 17) (by kernel_rfl) rfl (by kernel_rfl) ?_
    go_simp
    refine wpAnyD_done (by kernel_rfl) ?_ _
    refine onlyN_mk ?_
    go_simp
    go_wp2_with fail
    go_ret
    exact ⟨rfl, hbt4.trans (hS7.mono hbt4.size)⟩
  | true =>
  obtain ⟨d0, d1, d2⟩ := q1.three
  have hwr := write_any W1.heap.size n d l (.slice va l.length vcap) w3 hv3 hs3 (hT.up hbw hbw.size)
  obtain ⟨tl, htl⟩ : ∃ tl, textF ⟨n, d, l⟩ = tl := ⟨_, rfl⟩
  have hr1 := readF_text HX.out
  have hr2 := readA_textF HX.out
  rw [writeS_ok HX.out] at hwr
  dsimp only at hwr
  have hln : tl.length ≤ 2 ^ 40 := by
    have := bodyF_len HX.out
    rw [← htl]; simp only [textF, List.length_append, endB_length]; omega
  rw [htl] at hwr hr1 hr2
  obtain ⟨t, ht⟩ : ∃ t : ByteArray, (⟨tl.toArray⟩ : ByteArray) = t := ⟨_, rfl⟩
  have htd : t.data.toList = tl := by rw [← ht]
  rw [ht] at hwr
  have hts : t.size ≤ 2 ^ 40 := by rw [size_of htd]; exact hln
  have HTD := Lib.hid htd
  have HR1 := Lib.hid hr1
  have HR2 := Lib.hid hr2
  have HTS := Lib.hid hts
  clear ht htl hln htd hr1 hr2 hts
  go_wp2_with fail
  refine hwr.mono ?_
  rintro e w4 ⟨rfl, hb4⟩
  clear hwr d0 d1 d2
  have hbw4 := hbw.trans (hb4.mono hbw.size)
  have q1 := q1.below hb4 q1.lt
  have q2 := q2.below hb4 q2.lt
  have hs4 := Nat.le_trans hs3 hb4.size
  have hv4 : Ords W1.heap.size w4 (.slice va l.length vcap) l := Recs.below hv3 hb4 hs3 (Nat.le_refl _)
  have hu4 : Rets W1.heap.size w4 (.slice ua rs.length ucap) rs := Recs.below hu3 hb4 hs3 (Nat.le_refl _)
  clear hv3 hu3 hs3 hb4 hbw
  obtain ⟨d0, d1, d2⟩ := q1.three
  have hrf := readF_any t w4 HTS.out (hT.up hbw4 hbw4.size) (hM.up hbw4 hbw4.size)
  rw [HTD.out, HR1.out] at hrf
  dsimp only at hrf
  go_wp2_with fail
  refine hrf.mono ?_
  rintro e w5 ⟨ov, rfl, hov, hb5⟩
  have hol : ∃ p c, ov = .slice p l.length c := by obtain ⟨p, c, h, _⟩ := hov; exact ⟨p, c, h⟩
  obtain ⟨op, oc, rfl⟩ := hol
  clear hrf d0 d1 d2
  have hb45 := hb5.trans ((Below.refl _ w5).mono hb5.size |>.alloc hb5.size (.cells #[.int .i64 n, .int .i64 d, .slice op l.length oc] 24))
  have hbz : Below w5.heap.size w5 (w5.alloc (.cells #[.int .i64 n, .int .i64 d, .slice op l.length oc] 24)) := (Below.refl _ w5).alloc (Nat.le_refl _) _
  have q3 := Blk.new w5 #[.int .i64 n, .int .i64 d, .slice op l.length oc] 24
  obtain ⟨W5, hW5⟩ : ∃ W5, w5.alloc (.cells #[.int .i64 n, .int .i64 d, .slice op l.length oc] 24) = W5 := ⟨_, rfl⟩
  rw [hW5] at hb45 hbz q3
  have HW5 := Lib.hid hW5
  have hl45 : w4.heap.size ≤ w5.heap.size := hb5.size
  have hbw5 := hbw4.trans (hb45.mono hbw4.size)
  have q1 := q1.below hb45 q1.lt
  have q2 := q2.below hb45 q2.lt
  have hs5 := Nat.le_trans hs4 hb45.size
  have hv5 : Ords W1.heap.size W5 (.slice va l.length vcap) l := Recs.below hv4 hb45 hs4 (Nat.le_refl _)
  have hu5 : Rets W1.heap.size W5 (.slice ua rs.length ucap) rs := Recs.below hu4 hb45 hs4 (Nat.le_refl _)
  have ho5 : Ords W5.heap.size W5 (.slice op l.length oc) l := Recs.below hov hbz (Nat.le_refl _) hbz.size
  clear hW5 hv4 hu4 hs4 hb45 hbw4 hov hbz hb5
  obtain ⟨d0, d1, d2⟩ := q1.three
  have hra := readA_any t W5 HTS.out (hT.up hbw5 hbw5.size) (hM.up hbw5 hbw5.size)
  rw [HTD.out, HR2.out] at hra
  dsimp only [An.z] at hra
  go_wp2_with fail
  rw [HW5.out]
  refine hra.mono ?_
  rintro e w6 ⟨ou, rfl, hou, hb6⟩
  have hol : ∃ p c, ou = .slice p 0 c := by obtain ⟨p, c, h, _⟩ := hou; exact ⟨p, c, h⟩
  obtain ⟨up, uc, rfl⟩ := hol
  clear hra d0 d1 d2 hou
  have hb56 := hb6.trans ((Below.refl _ w6).mono hb6.size |>.alloc hb6.size (.cells #[.int .i64 0, .int .i64 0, .slice up 0 uc] 27))
  obtain ⟨W6, hW6⟩ : ∃ W6, w6.alloc (.cells #[.int .i64 0, .int .i64 0, .slice up 0 uc] 27) = W6 := ⟨_, rfl⟩
  rw [hW6] at hb56
  have HW6 := Lib.hid hW6
  have hl56 : W5.heap.size ≤ w6.heap.size := hb6.size
  have hl5 : w5.heap.size < w6.heap.size := Nat.lt_of_lt_of_le q3.lt hb6.size
  have hbw6 := hbw5.trans (hb56.mono hbw5.size)
  have q1w := q1.below hb6 q1.lt
  have hlw6 := q1w.lt
  have q1 := q1.below hb56 q1.lt
  have q2 := q2.below hb56 q2.lt
  have q3 := q3.below hb56 q3.lt
  have hs6 := Nat.le_trans hs5 hb56.size
  have hv6 : Ords W1.heap.size W6 (.slice va l.length vcap) l := Recs.below hv5 hb56 hs5 (Nat.le_refl _)
  have hu6 : Rets W1.heap.size W6 (.slice ua rs.length ucap) rs := Recs.below hu5 hb56 hs5 (Nat.le_refl _)
  have ho6 : Ords W5.heap.size W6 (.slice op l.length oc) l := Recs.below ho5 hb56 (Nat.le_refl _) (Nat.le_refl _)
  have hs56 := hb56.size
  clear hW6 hv5 hu5 ho5 hs5 hb56 hbw5 hb6
  obtain ⟨d0, d1, d2⟩ := q1w.three
  have htt := total_any W1.heap.size n d l (.slice va l.length vcap) W6 hv6 hs6
  rw [totalS_ok HX.out] at htt
  dsimp only at htt
  go_wp2_with fail
  rw [HW6.out]
  refine htt.mono ?_
  rintro e w7 ⟨rfl, hb7⟩
  clear htt d0 d1 d2 q1w hlw6
  have hbw7 := hbw6.trans (hb7.mono hbw6.size)
  have q1 := q1.below hb7 q1.lt
  have q2 := q2.below hb7 q2.lt
  have q3 := q3.below hb7 q3.lt
  have hs7 := Nat.le_trans hs6 hb7.size
  have hv7 : Ords W1.heap.size w7 (.slice va l.length vcap) l := Recs.below hv6 hb7 hs6 (Nat.le_refl _)
  have hu7 : Rets W1.heap.size w7 (.slice ua rs.length ucap) rs := Recs.below hu6 hb7 hs6 (Nat.le_refl _)
  have ho7 : Ords W5.heap.size w7 (.slice op l.length oc) l := Recs.below ho6 hb7 hs56 (Nat.le_refl _)
  have hs57 := Nat.le_trans hs56 hb7.size
  clear hv6 hu6 ho6 hs6 hb7 hbw6 hs56
  obtain ⟨d0, d1, d2⟩ := q1.three
  have hpt := okF_parts HX.out
  have HOK := Lib.hid (okTo_all hpt.2.2.2.1)
  clear hpt
  go_wp2_with fail
  go_loopw [11, 13] (fun s i wr => ∃ k : Nat, k ≤ l.length ∧ i = .int .i64 k ∧ s = .int .i64 (tot (l.drop k)) ∧ w7 = wr) (fun _ i _ => l.length - (intOf i).toNat)
  case atStart => exact ⟨0, Nat.zero_le _, rfl, by rw [List.drop_zero], rfl⟩
  case round =>
    obtain ⟨k, hk, rfl, rfl, rfl⟩ := hrel
    by_cases hlt : k < l.length
    · obtain ⟨ob, oo, ocap, he, _, hlc, hm, hob, hc⟩ := (Recs.cases hv7).resolve_left (by rintro ⟨_, _, _, h0, _⟩; omega)
      simp only [Value.slice.injEq, true_and] at he
      obtain ⟨rfl, rfl⟩ := he
      unfold maxLen at hm
      have hs := tot_bd fun o (ho : o ∈ l.drop (k + 1)) => HOK.out o (List.mem_of_mem_drop ho)
      have hx := net_bd (HOK.out _ (getD_mem hlt Od.z))
      have hst := tot_dropB l k hlt
      have hll := HLL.out
      rw [List.length_drop] at hs
      obtain ⟨c0, c1, c2, c3, c4⟩ := ord_cells hc hlt
      obtain ⟨od, hod⟩ : ∃ od, l[k]?.getD Od.z = od := ⟨_, rfl⟩
      obtain ⟨s, hse⟩ : ∃ s, tot (l.drop (k + 1)) = s := ⟨_, rfl⟩
      obtain ⟨s', hse'⟩ : ∃ s, tot (l.drop k) = s := ⟨_, rfl⟩
      rw [hod] at c0 c1 c2 c3 c4 hx hst
      rw [hse, hse'] at hst
      rw [hse] at hs
      rw [hse']
      have HS := Lib.hid (show s' - od.net = tot (l.drop (k + 1)) by rw [hse]; omega)
      have hs1 : 0 ≤ s' - od.net := by omega
      have hs2 : s' - od.net ≤ 9223372036854775807 := by omega
      have hs3 : -9223372036854775808 ≤ s' - od.net := by omega
      have hx1 := hx.1
      have hx2 := hx.2
      clear hst hod hse hse' hc hs hx hll hv7 hu7 ho7
      go_wp2_with fail
      exact ⟨⟨k + 1, by omega, by go_num, by rw [HS.out], trivial⟩, by simp [intOf]; omega⟩
    · obtain rfl : k = l.length := by omega
      have hz : tot (l.drop l.length) = 0 := by rw [List.drop_length]; rfl
      rw [hz]
      clear hz hlt hk
      go_wp2_with fail
      have hp1 := fun W' (hS : Below w7.heap.size w7 W') => plainF_any n d va l.length vcap W'
      have hp2 := fun W' (hS : Below w7.heap.size w7 W') => plainF_any n d op l.length oc W'
      have hsm := fun W' (hS : Below w7.heap.size w7 W') => sameF_any w7.heap.size n d (.slice va l.length vcap) (.slice op l.length oc) l W' (Recs.below hv7 hS hs7 hs7) (Recs.below ho7 hS hs57 hs57) hS.size
      refine wp_onlyN ?_
      refine region_WQ (fun W' => Below w7.heap.size w7 W') (by kernel_rfl) (by kernel_rfl) ⟨rfl, rfl, rfl, Nat.le_refl _, fun _ _ => rfl⟩ ?_
      refine WQ.take (.int .i64 0) (.inl ⟨by kernel_rfl, fun W' hS => by go_simp <;> exact hS⟩) ?_
      refine WQ.take (.bool false) (.inl ⟨by kernel_rfl, fun W' hS => by go_simp <;> exact hS⟩) ?_
      refine WQ.take (.bool false) (.inl ⟨by kernel_rfl, fun W' hS => by go_simp <;> exact hS⟩) ?_
      refine WQ.take (.int .i64 0) (.inl ⟨by kernel_rfl, fun W' hS => by go_simp <;> exact hS⟩) ?_
      refine WQ.take (.bool false) (.inl ⟨by kernel_rfl, fun W' hS => by go_simp <;> exact hS⟩) ?_
      refine WQ.take (.bool false) (.inl ⟨by kernel_rfl, fun W' hS => by go_simp <;> exact hS⟩) ?_
      refine WQ.take (.bool false) (.inl ⟨by kernel_rfl, fun W' hS => by go_simp <;> exact hS⟩) ?_
      refine WQ.take (.int .i64 360) (.inl ⟨by kernel_rfl, fun W' hS => by go_simp <;> exact hS⟩) ?_
      refine WQ.take (.bool false) (.inl ⟨by kernel_rfl, fun W' hS => by go_simp <;> exact hS⟩) ?_
      refine WQ.take (.bool false) (.inl ⟨by kernel_rfl, fun W' hS => by go_simp <;> exact hS⟩) ?_
      refine WQ.take (.bool false) (.inl ⟨by kernel_rfl, fun W' hS => by go_simp <;> exact hS⟩) ?_
      refine WQ.take (.int .i64 0) (.inl ⟨by kernel_rfl, fun W' hS => by go_simp <;> exact hS⟩) ?_
      refine WQ.take (.bool false) (.inl ⟨by kernel_rfl, fun W' hS => by go_simp <;> exact hS⟩) ?_
      refine WQ.take (.bool false) (.inl ⟨by kernel_rfl, fun W' hS => by go_simp <;> exact hS⟩) ?_
      refine WQ.take (.bool false) (.inl ⟨by kernel_rfl, fun W' hS => by go_simp <;> exact hS⟩) ?_
      refine WQ.take (.int .i64 0) (.inl ⟨by kernel_rfl, fun W' hS => by go_simp <;> exact hS⟩) ?_
      refine WQ.take (.bool false) (.inl ⟨by kernel_rfl, fun W' hS => by go_simp <;> exact hS⟩) ?_
      refine WQ.take (.bool false) (.inl ⟨by kernel_rfl, fun W' hS => by go_simp <;> exact hS⟩) ?_
      refine WQ.take (.bool false) (.inl ⟨by kernel_rfl, fun W' hS => by go_simp <;> exact hS⟩) ?_
      refine WQ.take (.agg #[.int .i64 n, .int .i64 d, .slice va l.length vcap]) (.inl ⟨by kernel_rfl, fun W' hS => by have d := (q1.below hS q1.lt).three; have d0' := d.1; have d1' := d.2.1; have d2' := d.2.2; go_simp <;> exact hS⟩) ?_
      refine WQ.take (.agg #[.int .i64 n, .int .i64 d, .slice va l.length vcap]) (.inl ⟨by kernel_rfl, fun W' hS => by go_simp <;> exact (hp1 W' hS).mono fun e W'' ⟨h1, h2⟩ => ⟨h1, hS.trans (h2.mono hS.size)⟩⟩) ?_
      refine WQ.take (.agg #[.int .i64 n, .int .i64 d, .slice op l.length oc]) (.inl ⟨by kernel_rfl, fun W' hS => by have d := (q3.below hS q3.lt).three; have d0' := d.1; have d1' := d.2.1; have d2' := d.2.2; go_simp <;> exact hS⟩) ?_
      refine WQ.take (.agg #[.int .i64 n, .int .i64 d, .slice op l.length oc]) (.inl ⟨by kernel_rfl, fun W' hS => by go_simp <;> exact (hp2 W' hS).mono fun e W'' ⟨h1, h2⟩ => ⟨h1, hS.trans (h2.mono hS.size)⟩⟩) ?_
      refine WQ.take (.bool true) (.inl ⟨by kernel_rfl, fun W' hS => by go_simp <;> exact (hsm W' hS).mono fun e W'' ⟨h1, h2⟩ => ⟨h1, hS.trans (h2.mono hS.size)⟩⟩) ?_
      refine WQ.take (.bool false) (.inl ⟨by kernel_rfl, fun W' hS => by go_simp <;> exact hS⟩) ?_
      refine WQ.take (.bool false) (.inl ⟨by kernel_rfl, fun W' hS => by go_simp <;> exact hS⟩) ?_
      refine WQ.nil ?_
      intro w8 hb8
      refine onlyN_mk ?_
      go_simp
      have hbw8 := hbw7.trans (hb8.mono hbw7.size)
      have q2 := q2.below hb8 q2.lt
      have hs8 := Nat.le_trans hs7 hb8.size
      have hu8 : Rets W1.heap.size w8 (.slice ua rs.length ucap) rs := Recs.below hu7 hb8 hs7 (Nat.le_refl _)
      clear hv7 hu7 ho7 hs7 hb8 hbw7 hp1 hp2 hsm q1 q3 hs57
      obtain ⟨e0, e1, e2⟩ := q2.three
      have hra := right_any W1.heap.size (.slice ua rs.length ucap) an ad rs w8 hu8 hs8
      obtain ⟨y, hy⟩ : ∃ y, okA ⟨an, ad, rs⟩ = y := ⟨_, rfl⟩
      rw [hy] at hra
      have HY := Lib.hid hy
      clear hy
      go_wp2_with fail
      refine hra.mono ?_
      rintro e t1 ⟨rfl, hc1⟩
      clear hra e0 e1 e2
      have hbt1 := hbw8.trans (hc1.mono hbw8.size)
      have q2 := q2.below hc1 q2.lt
      have hz1 := Nat.le_trans hs8 hc1.size
      have hut1 : Rets W1.heap.size t1 (.slice ua rs.length ucap) rs := Recs.below hu8 hc1 hs8 (Nat.le_refl _)
      obtain ⟨e0, e1, e2⟩ := q2.three
      clear hc1 hu8 hbw8 hs8
      cases y with
      | false =>
        clear hut1
        go_wp2_with fail
        go_ret
        exact ⟨rfl, hbt1⟩
      | true =>
      have hwa := writeA_any W1.heap.size an ad rs _ t1 hut1 hz1 (hT.up hbt1 hbt1.size)
      obtain ⟨xl, hxl⟩ : ∃ tl, textA ⟨an, ad, rs⟩ = tl := ⟨_, rfl⟩
      have hr1 := readA_text HY.out
      have hr2 := readF_textA HY.out
      rw [writeAS_ok HY.out] at hwa
      dsimp only at hwa
      have hln : xl.length ≤ 2 ^ 40 := by
        have := bodyA_len HY.out
        rw [← hxl]; simp only [textA, List.length_append, endB_length]; omega
      rw [hxl] at hwa hr1 hr2
      obtain ⟨x, hx⟩ : ∃ x : ByteArray, (⟨xl.toArray⟩ : ByteArray) = x := ⟨_, rfl⟩
      have hxd : x.data.toList = xl := by rw [← hx]
      rw [hx] at hwa
      have hxs : x.size ≤ 2 ^ 40 := by rw [size_of hxd]; exact hln
      have HXD := Lib.hid hxd
      have HQ1 := Lib.hid hr1
      have HQ2 := Lib.hid hr2
      have HXS := Lib.hid hxs
      clear hx hxl hln hxd hr1 hr2 hxs
      go_wp2_with fail
      refine hwa.mono ?_
      rintro e t2 ⟨rfl, hc2⟩
      clear hwa e0 e1 e2
      have hbt2 := hbt1.trans (hc2.mono hbt1.size)
      have q2 := q2.below hc2 q2.lt
      have hz2 := Nat.le_trans hz1 hc2.size
      have hut2 : Rets W1.heap.size t2 (.slice ua rs.length ucap) rs := Recs.below hut1 hc2 hz1 (Nat.le_refl _)
      clear hut1 hz1 hbt1 hc2
      have hra := readA_any x t2 HXS.out (hT.up hbt2 hbt2.size) (hM.up hbt2 hbt2.size)
      rw [HXD.out, HQ1.out] at hra
      dsimp only at hra
      go_wp2_with fail
      refine hra.mono ?_
      rintro e t3 ⟨oa, rfl, hoa, hc3⟩
      have hol : ∃ p c, oa = .slice p rs.length c := by obtain ⟨p, c, h, _⟩ := hoa; exact ⟨p, c, h⟩
      obtain ⟨ap, ac, rfl⟩ := hol
      clear hra
      have hc23 := hc3.trans ((Below.refl _ t3).mono hc3.size |>.alloc hc3.size (.cells #[.int .i64 an, .int .i64 ad, .slice ap rs.length ac] 27))
      have hcz : Below t3.heap.size t3 (t3.alloc (.cells #[.int .i64 an, .int .i64 ad, .slice ap rs.length ac] 27)) := (Below.refl _ t3).alloc (Nat.le_refl _) _
      have q4 := Blk.new t3 #[.int .i64 an, .int .i64 ad, .slice ap rs.length ac] 27
      obtain ⟨T3, hT3⟩ : ∃ W5, t3.alloc (.cells #[.int .i64 an, .int .i64 ad, .slice ap rs.length ac] 27) = W5 := ⟨_, rfl⟩
      rw [hT3] at hc23 hcz q4
      have HT3 := Lib.hid hT3
      have hk23 : t2.heap.size ≤ t3.heap.size := hc3.size
      have hbt3 := hbt2.trans (hc23.mono hbt2.size)
      have q2 := q2.below hc23 q2.lt
      have hz3 := Nat.le_trans hz2 hc23.size
      have hut3 : Rets W1.heap.size T3 (.slice ua rs.length ucap) rs := Recs.below hut2 hc23 hz2 (Nat.le_refl _)
      have hoa3 : Rets T3.heap.size T3 (.slice ap rs.length ac) rs := Recs.below hoa hcz (Nat.le_refl _) hcz.size
      clear hT3 hut2 hz2 hc23 hbt2 hoa hcz hc3
      have hrf := readF_any x T3 HXS.out (hT.up hbt3 hbt3.size) (hM.up hbt3 hbt3.size)
      rw [HXD.out, HQ2.out] at hrf
      dsimp only [Fi.z] at hrf
      go_wp2_with fail
      rw [HT3.out]
      refine hrf.mono ?_
      rintro e t4 ⟨ov, rfl, hov, hc4⟩
      have hol : ∃ p c, ov = .slice p 0 c := by obtain ⟨p, c, h, _⟩ := hov; exact ⟨p, c, h⟩
      obtain ⟨bp, bc, rfl⟩ := hol
      clear hrf hov
      have hc34 := hc4.trans ((Below.refl _ t4).mono hc4.size |>.alloc hc4.size (.cells #[.int .i64 0, .int .i64 0, .slice bp 0 bc] 24))
      obtain ⟨T4, hT4⟩ : ∃ W6, t4.alloc (.cells #[.int .i64 0, .int .i64 0, .slice bp 0 bc] 24) = W6 := ⟨_, rfl⟩
      rw [hT4] at hc34
      have HT4 := Lib.hid hT4
      have hk34 : T3.heap.size ≤ t4.heap.size := hc4.size
      have hk3 : t3.heap.size < t4.heap.size := Nat.lt_of_lt_of_le q4.lt hc4.size
      have hbt4 := hbt3.trans (hc34.mono hbt3.size)
      have q2 := q2.below hc34 q2.lt
      have q4 := q4.below hc34 q4.lt
      have hz4 := Nat.le_trans hz3 hc34.size
      have hz34 := hc34.size
      have hut4 : Rets W1.heap.size T4 (.slice ua rs.length ucap) rs := Recs.below hut3 hc34 hz3 (Nat.le_refl _)
      have hoa4 : Rets T3.heap.size T4 (.slice ap rs.length ac) rs := Recs.below hoa3 hc34 (Nat.le_refl _) (Nat.le_refl _)
      clear hT4 hut3 hoa3 hz3 hc34 hbt3 hc4
      go_wp2_with fail
      rw [HT4.out]
      refine wp_onlyN ?_
      refine region_plain (fun W' => Below T4.heap.size T4 W') [] (by kernel_rfl) ?_
      have qQ : (fun W' => Below T4.heap.size T4 W') T4.drew := ⟨rfl, rfl, rfl, Nat.le_refl _, fun _ _ => rfl⟩
      refine wpAnyD_take (i := 0) (v := .int .i64 0) rfl (by kernel_rfl) (by kernel_rfl) (by kernel_rfl) (by kernel_rfl) (by kernel_rfl) (fun _ _ _ h => h) (.inl ⟨by kernel_rfl, fun W' hS => by go_simp⟩) qQ ?_
      refine wpAnyD_take (i := 1) (v := .bool true) rfl (by kernel_rfl) (by kernel_rfl) (by kernel_rfl) (by kernel_rfl) (by kernel_rfl) (fun _ _ _ h => h) (.inl ⟨by kernel_rfl, fun W' hS => by go_simp⟩) qQ ?_
      refine wpAnyD_take (i := 2) (v := .bool true) rfl (by kernel_rfl) (by kernel_rfl) (by kernel_rfl) (by kernel_rfl) (by kernel_rfl) (fun _ _ _ h => h) (.inl ⟨by kernel_rfl, fun W' hS => by go_simp⟩) qQ ?_
      refine wpAnyD_take (i := 3) (v := .int .i64 0) rfl (by kernel_rfl) (by kernel_rfl) (by kernel_rfl) (by kernel_rfl) (by kernel_rfl) (fun _ _ _ h => h) (.inl ⟨by kernel_rfl, fun W' hS => by go_simp⟩) qQ ?_
      refine wpAnyD_take (i := 4) (v := .bool true) rfl (by kernel_rfl) (by kernel_rfl) (by kernel_rfl) (by kernel_rfl) (by kernel_rfl) (fun _ _ _ h => h) (.inl ⟨by kernel_rfl, fun W' hS => by go_simp⟩) qQ ?_
      refine wpAnyD_take (i := 5) (v := .bool true) rfl (by kernel_rfl) (by kernel_rfl) (by kernel_rfl) (by kernel_rfl) (by kernel_rfl) (fun _ _ _ h => h) (.inl ⟨by kernel_rfl, fun W' hS => by go_simp⟩) qQ ?_
      refine wpAnyD_take (i := 6) (v := .bool true) rfl (by kernel_rfl) (by kernel_rfl) (by kernel_rfl) (by kernel_rfl) (by kernel_rfl) (fun _ _ _ h => h) (.inl ⟨by kernel_rfl, fun W' hS => by go_simp⟩) qQ ?_
      refine wpAnyD_take (i := 7) (v := .int .i64 360) rfl (by kernel_rfl) (by kernel_rfl) (by kernel_rfl) (by kernel_rfl) (by kernel_rfl) (fun _ _ _ h => h) (.inl ⟨by kernel_rfl, fun W' hS => by go_simp⟩) qQ ?_
      refine wpAnyD_take (i := 8) (v := .bool true) rfl (by kernel_rfl) (by kernel_rfl) (by kernel_rfl) (by kernel_rfl) (by kernel_rfl) (fun _ _ _ h => h) (.inl ⟨by kernel_rfl, fun W' hS => by go_simp⟩) qQ ?_
      refine wpAnyD_take (i := 9) (v := .bool true) rfl (by kernel_rfl) (by kernel_rfl) (by kernel_rfl) (by kernel_rfl) (by kernel_rfl) (fun _ _ _ h => h) (.inl ⟨by kernel_rfl, fun W' hS => by go_simp⟩) qQ ?_
      refine wpAnyD_take (i := 10) (v := .bool true) rfl (by kernel_rfl) (by kernel_rfl) (by kernel_rfl) (by kernel_rfl) (by kernel_rfl) (fun _ _ _ h => h) (.inl ⟨by kernel_rfl, fun W' hS => by go_simp⟩) qQ ?_
      refine wpAnyD_take (i := 11) (v := .agg #[.int .i64 an, .int .i64 ad, .slice ua rs.length ucap]) rfl (by kernel_rfl) (by kernel_rfl) (by kernel_rfl) (by kernel_rfl) (by kernel_rfl) (fun _ _ _ h => h) (.inl ⟨by kernel_rfl, fun W' hS => by have d := (q2.below hS q2.lt).three; have d0' := d.1; have d1' := d.2.1; have d2' := d.2.2; go_simp⟩) qQ ?_
      refine wpAnyD_take (i := 13) (v := .agg #[.int .i64 an, .int .i64 ad, .slice ap rs.length ac]) rfl (by kernel_rfl) (by kernel_rfl) (by kernel_rfl) (by kernel_rfl) (by kernel_rfl) (fun _ _ _ h => h) (.inl ⟨by kernel_rfl, fun W' hS => by have d := (q4.below hS q4.lt).three; have d0' := d.1; have d1' := d.2.1; have d2' := d.2.2; go_simp⟩) qQ ?_
      have ho1 := old_any T4.heap.size an ad rs (.slice ua rs.length ucap) T4.drew (Recs.below hut4 qQ hz4 hz4) (Nat.le_refl _) HRL.out
      refine wpAnyD_one (i := 12) (by kernel_rfl) rfl (by kernel_rfl) ?_
      go_simp
      refine ho1.mono ?_
      rintro e t5 ⟨a5, c5, rfl, hw5, hc5⟩
      have hS5 : Below T4.heap.size T4 t5 := qQ.trans hc5
      have hr5 : Rets t5.heap.size t5 (.slice a5 rs.length c5) rs := hw5.rets
      have ho2 := old_any T4.heap.size an ad rs (.slice ap rs.length ac) t5 (Recs.below hoa4 hS5 hz34 hz34) hS5.size HRL.out
      go_simp
      refine wpAnyD_one (i := 14) (by kernel_rfl) rfl (by kernel_rfl) ?_
      go_simp
      refine ho2.mono ?_
      rintro e t6 ⟨a6, c6, rfl, hw6, hc6⟩
      have hS6 : Below T4.heap.size T4 t6 := hS5.trans (hc6.mono hS5.size)
      have hr6 : Rets t6.heap.size t6 (.slice a6 rs.length c6) rs := hw6.rets
      have hr56 : Rets t6.heap.size t6 (.slice a5 rs.length c5) rs := Recs.below hr5 hc6 (Nat.le_refl _) hc6.size
      have hsa := sameA_any t6.heap.size an ad (.slice a5 rs.length c5) (.slice a6 rs.length c6) rs t6 hr56 hr6 (Nat.le_refl _)
      go_simp
      refine wpAnyD_one (i := 15) (by kernel_rfl) rfl (by kernel_rfl) ?_
      go_simp
      refine hsa.mono ?_
      rintro e t7 ⟨rfl, hc7⟩
      have hS7 : Below T4.heap.size T4 t7 := hS6.trans (hc7.mono hS6.size)
      go_simp
      refine wpAnyD_one (i := 16) (by kernel_rfl) rfl (by kernel_rfl) ?_
      go_simp
      refine wpAnyD_one (i := 17) (by kernel_rfl) rfl (by kernel_rfl) ?_
      go_simp
      refine wpAnyD_done (by kernel_rfl) ?_ _
      refine onlyN_mk ?_
      go_simp
      go_wp2_with fail
      go_ret
      exact ⟨rfl, hbt4.trans (hS7.mono hbt4.size)⟩
end Go.Proofs.YtaccaebdmndkiaaDoor
