/- The reference of layer 36: Match. No conditions beyond the readings of the arguments. -/
import Derived.Test.YtaccaebdmndkiaaDoorBMatch
import Derived.Test.YtaccaebdmndkiaaDoorBRVal
import Derived.Test.YtaccaebdmndkiaaDoorBRRight
namespace Go.Proofs.YtaccaebdmndkiaaDoor
open Go.RowKit
set_option linter.unusedVariables false

theorem pick_take (l : List Od) (r : Rt) (m : Nat) (h : m < l.length) : pick (l.take (m + 1)) r = pick (l.take m) r ++ (if (l[m]?.getD Od.z).num = r.ord then [l[m]?.getD Od.z] else []) := by
  unfold pick
  rw [List.take_add_one, List.getElem?_eq_getElem h, List.filter_append]
  congr 1
  simp only [Option.toList_some, Option.getD_some, List.filter_cons, List.filter_nil]
  by_cases h1 : (l[m]).num = r.ord <;> simp [h1]
theorem pick_len (l : List Od) (r : Rt) : (pick l r).length ≤ l.length := List.length_filter_le _ _
theorem picks_len (l : List Od) (rs : List Rt) : (picks l rs).length ≤ rs.length * l.length := by
  induction rs with
  | nil => simp [picks]
  | cons x r ih => have := pick_len l x; simp only [picks, List.length_append, List.length_cons, Nat.add_mul]; omega

set_option maxRecDepth 100000 in
set_option maxHeartbeats 2000000 in
theorem rmatch_any (K : Nat) (n d : Int) (l : List Od) (v : Value) (an ad : Int) (rs : List Rt) (u : Value) (w : World) (hv : Ords K w v l) (hu : Rets K w u rs) (hK : K ≤ w.heap.size) :
    Calls Tryd.prog 36 #[.agg #[.int .i64 n, .int .i64 d, v], .agg #[.int .i64 an, .int .i64 ad, u]] w fun e w' =>
      ∃ x, e = .returned (.tuple #[x, .int .i64 (matchS ⟨n, d, l⟩ ⟨an, ad, rs⟩).2]) ∧ Ords w'.heap.size w' x (matchS ⟨n, d, l⟩ ⟨an, ad, rs⟩).1 ∧ Below w.heap.size w w' := by
  obtain ⟨ms, mc, hM⟩ : ∃ ms mc, matchS ⟨n, d, l⟩ ⟨an, ad, rs⟩ = (ms, mc) := ⟨_, _, rfl⟩
  rw [hM]
  dsimp only
  have HM := Lib.hid hM
  clear hM
  have hvl : ∃ a cap, v = .slice a l.length cap := by obtain ⟨a, cap, rfl, _⟩ := hv; exact ⟨a, cap, rfl⟩
  obtain ⟨va, vcap, rfl⟩ := hvl
  have hul : ∃ a cap, u = .slice a rs.length cap := by obtain ⟨a, cap, rfl, _⟩ := hu; exact ⟨a, cap, rfl⟩
  obtain ⟨ua, ucap, rfl⟩ := hul
  have hb1 : Below w.heap.size w ((w.alloc (.cells #[.int .i64 n, .int .i64 d, .slice va l.length vcap] 30)).alloc (.cells #[.int .i64 an, .int .i64 ad, .slice ua rs.length ucap] 36)) := ((Below.refl _ w).alloc (Nat.le_refl _) _).alloc (by simp) _
  have q1 := (Blk.new w #[.int .i64 n, .int .i64 d, .slice va l.length vcap] 30).alloc (.cells #[.int .i64 an, .int .i64 ad, .slice ua rs.length ucap] 36)
  have q2 := Blk.new (w.alloc (.cells #[.int .i64 n, .int .i64 d, .slice va l.length vcap] 30)) #[.int .i64 an, .int .i64 ad, .slice ua rs.length ucap] 36
  rw [World.size_alloc] at q2
  obtain ⟨W1, hW1⟩ : ∃ W1, (w.alloc (.cells #[.int .i64 n, .int .i64 d, .slice va l.length vcap] 30)).alloc (.cells #[.int .i64 an, .int .i64 ad, .slice ua rs.length ucap] 36) = W1 := ⟨_, rfl⟩
  rw [hW1] at hb1 q1 q2
  have HW1 := Lib.hid hW1
  clear hW1
  have hs1 := q2.lt
  have hvd := rvalid_any K n d _ l W1 (hv.below hb1 hK (Nat.le_refl _)) (Nat.le_trans hK hb1.size)
  obtain ⟨x, hx⟩ : ∃ x, okF ⟨n, d, l⟩ = x := ⟨_, rfl⟩
  obtain ⟨y, hy⟩ : ∃ y, okA ⟨an, ad, rs⟩ = y := ⟨_, rfl⟩
  have HX := Lib.hid hx
  have HY := Lib.hid hy
  rw [hx] at hvd
  clear hx
  go_enter Tryd.func36, Tryd.ntmps36
  go_wp2_with fail
  rw [HW1.out]
  refine hvd.mono ?_
  rintro e w1 ⟨rfl, hb2⟩
  have hbq := hb1.trans (hb2.mono hb1.size)
  have q3 := q1.below hb2 (by omega)
  have q4 := q2.below hb2 hs1
  have hs4 := q4.lt
  have hra := rright_any K an ad _ rs w1 (hu.below hbq hK (Nat.le_refl _)) (Nat.le_trans hK hbq.size)
  rw [hy] at hra
  clear hy hvd hb1 hb2 q1 q2
  obtain ⟨e0, e1, e2⟩ := q3.three
  obtain ⟨f0, f1, f2⟩ := q4.three
  cases x with
  | false =>
    go_wp2_with fail
    go_ret2
    obtain ⟨rfl, rfl⟩ := Prod.mk.inj (HM.out.symm.trans (matchS_bad (.inl HX.out)))
    exact ⟨_, rfl, nilO _, hbq⟩
  | true =>
  go_wp2_with fail
  refine hra.mono ?_
  rintro e w2 ⟨rfl, hb5⟩
  have hbr := hbq.trans (hb5.mono hbq.size)
  have q5 := q3.below hb5 (by omega)
  have q6 := q4.below hb5 hs4
  have hs6 := q6.lt
  clear e0 e1 e2 f0 f1 f2 q3 q4 hb5 hra
  obtain ⟨e0, e1, e2⟩ := q5.three
  obtain ⟨f0, f1, f2⟩ := q6.three
  cases y with
  | false =>
    go_wp2_with fail
    go_ret2
    obtain ⟨rfl, rfl⟩ := Prod.mk.inj (HM.out.symm.trans (matchS_bad (.inr HY.out)))
    exact ⟨_, rfl, nilO _, hbr⟩
  | true =>
  by_cases ho : n ≠ an ∨ ad < d
  · have hfin : ∀ W, Below w.heap.size w W → ∃ x, Ending.returned (Value.tuple #[.slice none 0 0, .int .i64 363]) = Ending.returned (Value.tuple #[x, .int .i64 mc]) ∧ Ords W.heap.size W x ms ∧ Below w.heap.size w W := by
      intro W hW
      obtain ⟨rfl, rfl⟩ := Prod.mk.inj (HM.out.symm.trans (matchS_other HX.out HY.out ho))
      exact ⟨_, rfl, nilO _, hW⟩
    have HF := Lib.hid hfin
    clear hfin
    by_cases h1 : n = an
    · have h2 : ad < d := by rcases ho with h | h; exact absurd h1 h; exact h
      subst h1
      clear ho
      go_wp2_with fail
      go_ret2
      exact HF.out _ hbr
    · clear ho
      go_wp2_with fail
      go_ret2
      exact HF.out _ hbr
  have HNO := Lib.hid ho
  obtain rfl : n = an := by
    rcases Int.lt_trichotomy n an with h | h | h
    · exact absurd (.inl (by omega)) ho
    · exact h
    · exact absurd (.inl (by omega)) ho
  have had : ¬ ad < d := fun h => ho (.inr h)
  clear ho
  have HP := Lib.hid (okF_parts HX.out)
  have HQ := Lib.hid (okA_parts HY.out)
  have hrl : rs.length ≤ 1000 := HQ.out.2.2.1
  have hll : l.length ≤ 1000 := HP.out.2.2.1
  have hwb := hbr.size
  go_wp2_with fail
  go_loopw [6, 7] (fun lv i wr => ∃ k : Nat, k ≤ rs.length ∧ i = .int .i64 k ∧ OwnO (w.heap.size + 2) wr lv (picks l (rs.take k)) ∧ Below (w.heap.size + 2) w2 wr ∧ Below w.heap.size w wr) (fun _ i _ => rs.length - (intOf i).toNat)
  case atStart => exact ⟨0, Nat.zero_le _, rfl, OwnO.nil _ _, Below.refl _ _, hbr⟩
  case round =>
    obtain ⟨k, hk, rfl, hOwn, hb2r, hbw⟩ := hrel
    have hszr := hbw.size
    have hsz2 := hb2r.size
    have qa := q5.below hb2r (by omega)
    have qb := q6.below hb2r (by omega)
    obtain ⟨d0, d1, d2⟩ := qa.three
    obtain ⟨g0, g1, g2⟩ := qb.three
    by_cases hlt : k < rs.length
    · obtain ⟨ob, oo, ocap, he, _, hlc, hm, hob, hc⟩ := (Recs.cases hu).resolve_left (by rintro ⟨_, _, _, h0, _⟩; omega)
      simp only [Value.slice.injEq, true_and] at he
      obtain ⟨rfl, rfl⟩ := he
      unfold maxLen at hm
      have HC := Lib.hid hc
      obtain ⟨rt, hrt⟩ : ∃ rt, rs[k]?.getD Rt.z = rt := ⟨_, rfl⟩
      have HRT := Lib.hid hrt
      clear hrt hc
      obtain ⟨ro, ry⟩ := rt
      obtain ⟨wo, hwo⟩ : ∃ wo : World, wo = wr := ⟨_, rfl⟩
      rw [← hwo] at hb2r hbw hszr hsz2 qa qb
      have HWO := Lib.hid hwo
      clear hwo
      go_wp2_with fail
      go_loopw [6, 8] (fun lv i wi => ∃ m : Nat, m ≤ l.length ∧ i = .int .i64 m ∧ OwnO (w.heap.size + 2) wi lv (picks l (rs.take k) ++ pick (l.take m) ⟨ro, ry⟩) ∧ Below (w.heap.size + 2) w2 wi ∧ Below w.heap.size w wi) (fun _ i _ => l.length - (intOf i).toNat)
      case atStart => exact ⟨0, Nat.zero_le _, rfl, by simpa [pick] using hOwn, by rw [← HWO.out]; exact hb2r, by rw [← HWO.out]; exact hbw⟩
      case round =>
        obtain ⟨m, hm', rfl, hOi, hb2i, hbwi⟩ := hrel
        have hszi := hbwi.size
        have hsz2i := hb2i.size
        have qai := q5.below hb2i (by omega)
        have qbi := q6.below hb2i (by omega)
        obtain ⟨d0, d1, d2⟩ := qai.three
        obtain ⟨g0, g1, g2⟩ := qbi.three
        by_cases hml : m < l.length
        · obtain ⟨pb, po, pcap, he, _, hplc, hpm, hpb, hpc⟩ := (Recs.cases hv).resolve_left (by rintro ⟨_, _, _, h0, _⟩; omega)
          simp only [Value.slice.injEq, true_and] at he
          obtain ⟨rfl, rfl⟩ := he
          unfold maxLen at hpm
          obtain ⟨c0, c1⟩ := ret_cells (cells_below HC.out hbwi (by omega)) hlt
          obtain ⟨k0, k1, k2, k3, k4⟩ := ord_cells (cells_below hpc hbwi (by omega)) hml
          have hpt := pick_take l ⟨ro, ry⟩ m hml
          obtain ⟨od, hod⟩ : ∃ od, l[m]?.getD Od.z = od := ⟨_, rfl⟩
          rw [HRT.out] at c0 c1
          rw [hod] at k0 k1 k2 k3 k4 hpt
          have HPT := Lib.hid hpt
          clear hod hpc hpt
          obtain ⟨on, oa, og, ot, onet⟩ := od
          dsimp only at k0 k1 k2 k3 k4 c0 c1
          by_cases heq : on = ro
          · subst heq
            go_upto_region 12 with fail
            go_quiet (fail)
            obtain ⟨wy, hwy⟩ : ∃ wy, wr.drewN nq = wy := ⟨_, rfl⟩
            rw [hwy]
            have hbwy : Below w.heap.size w wy := hwy ▸ below_drewN2 hbwi nq
            have hb2y : Below (w.heap.size + 2) w2 wy := hwy ▸ below_drewN2 hb2i nq
            have hOy : OwnO (w.heap.size + 2) wy _ _ := hwy ▸ (show OwnO (w.heap.size + 2) (wr.drewN nq) _ _ from hOi)
            have x0 : wy.cell? ⟨pb, po + m * 5, none⟩ = some (.int .i64 on) := hwy ▸ (show (wr.drewN nq).cell? ⟨pb, po + m * 5, none⟩ = _ from k0)
            have x1 : wy.cell? ⟨pb, po + m * 5 + 1, none⟩ = some (.int .i64 oa) := hwy ▸ (show (wr.drewN nq).cell? ⟨pb, po + m * 5 + 1, none⟩ = _ from k1)
            have x2 : wy.cell? ⟨pb, po + m * 5 + 2, none⟩ = some (.int .i64 og) := hwy ▸ (show (wr.drewN nq).cell? ⟨pb, po + m * 5 + 2, none⟩ = _ from k2)
            have x3 : wy.cell? ⟨pb, po + m * 5 + 3, none⟩ = some (.int .i64 ot) := hwy ▸ (show (wr.drewN nq).cell? ⟨pb, po + m * 5 + 3, none⟩ = _ from k3)
            have x4 : wy.cell? ⟨pb, po + m * 5 + 4, none⟩ = some (.int .i64 onet) := hwy ▸ (show (wr.drewN nq).cell? ⟨pb, po + m * 5 + 4, none⟩ = _ from k4)
            have hsz2y := hb2y.size
            obtain ⟨y0, y1, y2⟩ := (q5.below hb2y (by omega)).three
            obtain ⟨z0, z1, z2⟩ := (q6.below hb2y (by omega)).three
            have hlk : (picks l (rs.take k) ++ pick (l.take m) ⟨on, ry⟩).length ≤ 1000000 := by
              have h1 := picks_le HP.out.2.2.2.1 (rs.take k)
              have h2 := pick_len (l.take m) ⟨on, ry⟩
              simp only [List.length_append, List.length_take] at h1 h2 ⊢
              omega
            clear hwy k0 k1 k2 k3 k4 d0 d1 d2 g0 g1 g2 c0 c1 hOi
            go_wp2_with (at_builtin; refine wpList_append_O rfl (.tmp 56) (.tmp 62) rfl wy ⟨on, oa, og, ot, onet⟩ rfl rfl hOy hlk (by omega) ?_; intro v' w' hOn hbn)
            refine ⟨⟨m + 1, by omega, by go_num, by rw [HPT.out, if_pos rfl, ← List.append_assoc]; exact hOn, hb2y.trans hbn, hbwy.trans (hbn.mono (by omega))⟩, by simp [intOf]; omega⟩
          · have hbq : (on == ro) = false := by rw [beq_eq_false_iff_ne]; exact heq
            go_upto_region 12 with fail
            go_quiet (fail)
            go_wp2_with fail
            refine ⟨⟨m + 1, by omega, by go_num, by rw [HPT.out, if_neg heq, List.append_nil]; exact hOi, below_drewN2 hb2i _, below_drewN2 hbwi _⟩, by simp [intOf]; omega⟩
        · obtain rfl : m = l.length := by omega
          go_wp2_with fail
          rw [List.take_length] at hOi
          refine ⟨⟨k + 1, by omega, by go_num, by rw [picks_take l rs k hlt, HRT.out]; exact hOi, hb2i, hbwi⟩, by simp [intOf]; omega⟩
    · obtain rfl : k = rs.length := by omega
      rw [List.take_length] at hOwn
      obtain ⟨la, lc, hlv, _⟩ := hOwn.ords
      subst hlv
      have hfin := hOwn.ords
      obtain ⟨p, hp⟩ : ∃ p, (picks l rs).length = p := ⟨_, rfl⟩
      rw [hp] at hfin hOwn ⊢
      by_cases hpe : p = rs.length
      · subst hpe
        have hms := matchS_ok HX.out HY.out HNO.out hp
        obtain ⟨rfl, rfl⟩ := Prod.mk.inj (HM.out.symm.trans hms)
        have HF := Lib.hid hfin
        clear hms hp hfin hOwn
        go_wp2_with fail
        go_ret2
        exact ⟨_, rfl, HF.out, hbw⟩
      · have hms := matchS_none HX.out HY.out HNO.out (show (picks l rs).length ≠ rs.length by rw [hp]; exact hpe)
        obtain ⟨rfl, rfl⟩ := Prod.mk.inj (HM.out.symm.trans hms)
        have hbq : ((p : Int) != (rs.length : Int)) = true := bne_iff_ne.2 (by omega)
        clear hms hp hfin hOwn
        go_wp2_with fail
        go_ret2
        exact ⟨_, rfl, nilO _, hbw⟩
end Go.Proofs.YtaccaebdmndkiaaDoor
