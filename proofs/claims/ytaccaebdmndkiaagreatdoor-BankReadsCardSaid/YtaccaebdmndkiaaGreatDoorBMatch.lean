/- Package bank: Match. No conditions beyond the readings of the arguments. -/
import Derived.Test.YtaccaebdmndkiaaGreatDoorBOwn
import Derived.Test.YtaccaebdmndkiaaGreatDoorRF
import Derived.Deep.CutRange
namespace Go.Proofs.YtaccaebdmndkiaaGreatDoor
open Go.RowKit
set_option linter.unusedVariables false

theorem okTo_mono {last : Int} {l : List Od} (h : okTo last l = true) {i k : Nat} (hik : i < k) (hk : k < l.length) : (l[i]?.getD Od.z).num < (l[k]?.getD Od.z).num := by
  obtain ⟨last', h1⟩ := okTo_drop h i
  rw [okTo_step l i last' (by omega)] at h1
  simp only [Bool.and_eq_true, decide_eq_true_eq] at h1
  have h2 := okTo_lt h1.2.2 (l[k]?.getD Od.z)
  refine h2 ?_
  rw [List.getElem?_eq_getElem hk, Option.getD_some]
  have : l[k] = (l.drop (i + 1))[k - (i + 1)]'(by simp; omega) := by simp [List.getElem_drop, show i + 1 + (k - (i + 1)) = k by omega]
  rw [this]
  exact List.getElem_mem _
theorem okRs_mono {last : Int} {l : List Rt} (h : okRs last l = true) {i k : Nat} (hik : i < k) (hk : k < l.length) : (l[i]?.getD Rt.z).ord < (l[k]?.getD Rt.z).ord := by
  obtain ⟨last', h1⟩ := okRs_drop h i
  rw [okRs_step l i last' (by omega)] at h1
  simp only [Bool.and_eq_true, decide_eq_true_eq] at h1
  have h2 := okRs_lt h1.2.2 (l[k]?.getD Rt.z)
  refine h2 ?_
  rw [List.getElem?_eq_getElem hk, Option.getD_some]
  have : l[k] = (l.drop (i + 1))[k - (i + 1)]'(by simp; omega) := by simp [List.getElem_drop, show i + 1 + (k - (i + 1)) = k by omega]
  rw [this]
  exact List.getElem_mem _

/-- What is left of the orders. -/
def Rest (K : Nat) (w : World) (v : Value) (l : List Od) (j : Nat) : Prop := Recs 5 (fun i c => (l[j + i]?.getD Od.z).fld c) K w v (l.length - j)
theorem Rest.zero {K : Nat} {w : World} {v : Value} {l : List Od} (h : Ords K w v l) : Rest K w v l 0 := by
  unfold Rest; simpa [Ords] using h
theorem Rest.form {K : Nat} {w : World} {v : Value} {l : List Od} {j : Nat} (h : Rest K w v l j) (hj : j < l.length) : ∃ b o cap, v = .slice (some ⟨b, o, none⟩) (l.length - j) cap ∧ l.length - j ≤ cap ∧ cap ≤ maxLen ∧ b < K ∧
    w.cell? ⟨b, o, none⟩ = some (.int .i64 (l[j]?.getD Od.z).num) ∧ w.cell? ⟨b, o + 1, none⟩ = some (.int .i64 (l[j]?.getD Od.z).acc) ∧ w.cell? ⟨b, o + 2, none⟩ = some (.int .i64 (l[j]?.getD Od.z).gross) ∧
    w.cell? ⟨b, o + 3, none⟩ = some (.int .i64 (l[j]?.getD Od.z).tax) ∧ w.cell? ⟨b, o + 4, none⟩ = some (.int .i64 (l[j]?.getD Od.z).net) ∧
    Rest K w (.slice (some (if cap = 1 then ⟨b, o, none⟩ else ⟨b, o + 5, none⟩)) (l.length - j - 1) (cap - 1)) l (j + 1) := by
  obtain ⟨b, o, cap, rfl, _, hlc, hm, hb, hc⟩ := Recs.cases h |>.resolve_left (by rintro ⟨_, _, _, h0, _⟩; omega)
  have h0 := hc 0 (by omega)
  refine ⟨b, o, cap, rfl, hlc, hm, hb, by simpa [Od.fld] using h0 0 (by omega), by simpa [Od.fld] using h0 1 (by omega), by simpa [Od.fld] using h0 2 (by omega), by simpa [Od.fld] using h0 3 (by omega), by simpa [Od.fld] using h0 4 (by omega), ?_⟩
  refine ⟨some (if cap = 1 then ⟨b, o, none⟩ else ⟨b, o + 5, none⟩), cap - 1, by rw [show l.length - (j + 1) = l.length - j - 1 by omega], by omega, by omega, (fun h => by simp at h), fun i hi => ?_⟩
  have hne : cap ≠ 1 := by omega
  rw [if_neg hne]
  refine ⟨b, o + 5, rfl, hb, fun c hcc => ?_⟩
  have := hc (i + 1) (by omega) c hcc
  rw [show o + 5 + (i * 5 + c) = o + ((i + 1) * 5 + c) by omega, this, show j + (i + 1) = j + 1 + i by omega]
theorem Rest.below {K B : Nat} {w w' : World} {v : Value} {l : List Od} {j : Nat} (h : Rest K w v l j) (hb : Below B w w') (hB : K ≤ B) : Rest K w' v l j := Recs.below h hb hB (Nat.le_refl _)

theorem matchS_bad {f : Fi} {a : An} (h : okF f = false ∨ okA a = false) : matchS f a = ([], 2) := by
  rw [matchS, if_neg]; rintro ⟨h1, h2⟩; rcases h with h | h <;> simp_all
theorem matchS_other {f : Fi} {a : An} (h1 : okF f = true) (h2 : okA a = true) (h : f.num ≠ a.num ∨ a.day < f.day) : matchS f a = ([], 363) := by
  rw [matchS, if_pos ⟨h1, h2⟩, if_pos h]
theorem matchS_none {f : Fi} {a : An} (h1 : okF f = true) (h2 : okA a = true) (h : ¬ (f.num ≠ a.num ∨ a.day < f.day)) (h3 : (picks f.ods a.rts).length ≠ a.rts.length) : matchS f a = ([], 6) := by
  rw [matchS, if_pos ⟨h1, h2⟩, if_neg h, if_neg h3]
theorem matchS_ok {f : Fi} {a : An} (h1 : okF f = true) (h2 : okA a = true) (h : ¬ (f.num ≠ a.num ∨ a.day < f.day)) (h3 : (picks f.ods a.rts).length = a.rts.length) : matchS f a = (picks f.ods a.rts, 0) := by
  rw [matchS, if_pos ⟨h1, h2⟩, if_neg h, if_pos h3]
theorem nilO (w : World) : Ords w.heap.size w (.slice none 0 0) [] := Recs.nil none 0 (by simp [maxLen]) (fun _ => rfl)
theorem below_drewN2 {B : Nat} {a w : World} (h : Below B a w) (n : Nat) : Below B a (w.drewN n) := h.trans ⟨rfl, rfl, rfl, Nat.le_refl _, fun _ _ => rfl⟩

set_option maxRecDepth 100000 in
set_option maxHeartbeats 2000000 in
theorem match_any (K : Nat) (n d : Int) (l : List Od) (v : Value) (an ad : Int) (rs : List Rt) (u : Value) (w : World) (hv : Ords K w v l) (hu : Rets K w u rs) (hK : K ≤ w.heap.size) :
    Calls Tryz.prog 19 #[.agg #[.int .i64 n, .int .i64 d, v], .agg #[.int .i64 an, .int .i64 ad, u]] w fun e w' =>
      ∃ x, e = .returned (.tuple #[x, .int .i64 (matchS ⟨n, d, l⟩ ⟨an, ad, rs⟩).2]) ∧ Ords w'.heap.size w' x (matchS ⟨n, d, l⟩ ⟨an, ad, rs⟩).1 ∧ Below w.heap.size w w' := by
  obtain ⟨ms, mc, hM⟩ : ∃ ms mc, matchS ⟨n, d, l⟩ ⟨an, ad, rs⟩ = (ms, mc) := ⟨_, _, rfl⟩
  rw [hM]
  dsimp only
  have HM := Lib.hid hM
  clear hM
  have hvl : ∃ a cap, v = .slice a l.length cap := by obtain ⟨a, cap, rfl, _⟩ := hv; exact ⟨a, cap, rfl⟩
  obtain ⟨va, vcap, rfl⟩ := hvl
  have hul : ∃ a cap, u = .slice a rs.length cap := by obtain ⟨a, cap, rfl, _⟩ := hu; exact ⟨a, cap, rfl⟩
  obtain ⟨ua, ucap, rfl⟩ := hul
  have hb1 : Below w.heap.size w ((w.alloc (.cells #[.int .i64 n, .int .i64 d, .slice va l.length vcap] 27)).alloc (.cells #[.int .i64 an, .int .i64 ad, .slice ua rs.length ucap] 30)) := ((Below.refl _ w).alloc (Nat.le_refl _) _).alloc (by simp) _
  have q1 := (Blk.new w #[.int .i64 n, .int .i64 d, .slice va l.length vcap] 27).alloc (.cells #[.int .i64 an, .int .i64 ad, .slice ua rs.length ucap] 30)
  have q2 := Blk.new (w.alloc (.cells #[.int .i64 n, .int .i64 d, .slice va l.length vcap] 27)) #[.int .i64 an, .int .i64 ad, .slice ua rs.length ucap] 30
  rw [World.size_alloc] at q2
  obtain ⟨W1, hW1⟩ : ∃ W1, (w.alloc (.cells #[.int .i64 n, .int .i64 d, .slice va l.length vcap] 27)).alloc (.cells #[.int .i64 an, .int .i64 ad, .slice ua rs.length ucap] 30) = W1 := ⟨_, rfl⟩
  rw [hW1] at hb1 q1 q2
  have HW1 := Lib.hid hW1
  clear hW1
  have hs1 := q2.lt
  have hvd := valid_any K _ n d l W1 (hv.below hb1 hK (Nat.le_refl _)) (Nat.le_trans hK hb1.size)
  obtain ⟨x, hx⟩ : ∃ x, okF ⟨n, d, l⟩ = x := ⟨_, rfl⟩
  obtain ⟨y, hy⟩ : ∃ y, okA ⟨an, ad, rs⟩ = y := ⟨_, rfl⟩
  have HX := Lib.hid hx
  have HY := Lib.hid hy
  rw [hx] at hvd
  clear hx
  go_enter Tryz.func19, Tryz.ntmps19
  go_wp2_with fail
  rw [HW1.out]
  refine hvd.mono ?_
  rintro e w1 ⟨rfl, hb2⟩
  have hbq := hb1.trans (hb2.mono hb1.size)
  have q3 := q1.below hb2 (by omega)
  have q4 := q2.below hb2 hs1
  have hs4 := q4.lt
  have hra := right_any K _ an ad rs w1 (hu.below hbq hK (Nat.le_refl _)) (Nat.le_trans hK hbq.size)
  rw [hy] at hra
  clear hy hvd hb1 hb2 q1 q2
  obtain ⟨e0, e1, e2⟩ := q3.three
  obtain ⟨f0, f1, f2⟩ := q4.three
  cases x with
  | false =>
    go_wp2_with fail
    go_ret2
    obtain ⟨rfl, rfl⟩ := Prod.mk.inj (HM.out.symm.trans (matchS_bad (.inl HX.out)))
    exact ⟨_, rfl, nilO _, hbq⟩
  | true =>
  go_wp2_with fail
  refine hra.mono ?_
  rintro e w2 ⟨rfl, hb5⟩
  have hbr := hbq.trans (hb5.mono hbq.size)
  have q5 := q3.below hb5 (by omega)
  have q6 := q4.below hb5 hs4
  have hs6 := q6.lt
  clear e0 e1 e2 f0 f1 f2 q3 q4 hb5 hra
  obtain ⟨e0, e1, e2⟩ := q5.three
  obtain ⟨f0, f1, f2⟩ := q6.three
  cases y with
  | false =>
    go_wp2_with fail
    go_ret2
    obtain ⟨rfl, rfl⟩ := Prod.mk.inj (HM.out.symm.trans (matchS_bad (.inr HY.out)))
    exact ⟨_, rfl, nilO _, hbr⟩
  | true =>
  by_cases ho : n ≠ an ∨ ad < d
  · have hfin : ∀ W, Below w.heap.size w W → ∃ x, Ending.returned (Value.tuple #[.slice none 0 0, .int .i64 363]) = Ending.returned (Value.tuple #[x, .int .i64 mc]) ∧ Ords W.heap.size W x ms ∧ Below w.heap.size w W := by
      intro W hW
      obtain ⟨rfl, rfl⟩ := Prod.mk.inj (HM.out.symm.trans (matchS_other HX.out HY.out ho))
      exact ⟨_, rfl, nilO _, hW⟩
    have HF := Lib.hid hfin
    clear hfin
    by_cases h1 : n = an
    · have h2 : ad < d := by rcases ho with h | h; exact absurd h1 h; exact h
      subst h1
      clear ho
      go_wp2_with fail
      go_ret2
      exact HF.out _ hbr
    · clear ho
      go_wp2_with fail
      go_ret2
      exact HF.out _ hbr
  have HNO := Lib.hid ho
  obtain rfl : n = an := by
    rcases Int.lt_trichotomy n an with h | h | h
    · exact absurd (.inl (by omega)) ho
    · exact h
    · exact absurd (.inl (by omega)) ho
  have had : ¬ ad < d := fun h => ho (.inr h)
  clear ho
  have HP := Lib.hid (okF_parts HX.out)
  have HQ := Lib.hid (okA_parts HY.out)
  have hrl : rs.length ≤ 1000 := HQ.out.2.2.1
  have hwb := hbr.size
  go_wp2_with fail
  go_loopw [6, 7, 35] (fun lv rv i wr => ∃ (k j : Nat), k ≤ rs.length ∧ j ≤ l.length ∧ i = .int .i64 k ∧ Rest K wr rv l j ∧ OwnO w.heap.size wr lv (picks l (rs.take k)) ∧ Hid ((picks l (rs.take k)).length = k) ∧
    Hid (∀ i m, i < j → k ≤ m → m < rs.length → (l[i]?.getD Od.z).num < (rs[m]?.getD Rt.z).ord) ∧ Below w.heap.size w wr) (fun _ _ i _ => rs.length - (intOf i).toNat)
  case atStart => exact ⟨0, 0, Nat.zero_le _, Nat.zero_le _, rfl, Rest.zero (hv.below hbr hK (Nat.le_refl _)), OwnO.nil _ _, Lib.hid rfl, Lib.hid (fun i m h => absurd h (Nat.not_lt_zero _)), hbr⟩
  case round =>
    obtain ⟨k, j, hk, hj, rfl, hRest, hOwn, HLK, HLT, hbw⟩ := hrel
    have hszr := hbw.size
    by_cases hlt : k < rs.length
    · obtain ⟨ob, oo, ocap, he, _, hlc, hm, hob, hc⟩ := (Recs.cases hu).resolve_left (by rintro ⟨_, _, _, h0, _⟩; omega)
      simp only [Value.slice.injEq, true_and] at he
      obtain ⟨rfl, rfl⟩ := he
      unfold maxLen at hm
      obtain ⟨c0, c1⟩ := ret_cells (cells_below hc hbw (by omega)) hlt
      obtain ⟨rt, hrt⟩ : ∃ rt, rs[k]?.getD Rt.z = rt := ⟨_, rfl⟩
      rw [hrt] at c0 c1
      have HRT := Lib.hid hrt
      clear hrt hc
      obtain ⟨ro, ry⟩ := rt
      dsimp only at c0 c1
      obtain ⟨wa, hwa⟩ : ∃ wa, wr.alloc (.cells #[.int .i64 ro, .int .i64 ry] 49) = wa := ⟨_, rfl⟩
      have qa : Blk wa wr.heap.size #[.int .i64 ro, .int .i64 ry] 49 := hwa ▸ Blk.new wr _ _
      have hba : Below wr.heap.size wr wa := hwa ▸ (Below.refl _ wr).alloc (Nat.le_refl _) _
      have HWA := Lib.hid hwa
      have hsa := qa.lt
      have hRa := hRest.below hba (by omega)
      clear hwa hRest
      have hORD : Hid (∀ i, i < j → (l[i]?.getD Od.z).num < ro) := Lib.hid fun i hi => by have h1 := HLT.out i k hi (Nat.le_refl _) hlt; rw [HRT.out] at h1; exact h1
      have hOa := hOwn.old hba
      go_wp2_with fail
      rw [HWA.out]
      go_loopw [7] (fun rv wi => ∃ j' : Nat, j' ≤ l.length ∧ Rest K wi rv l j' ∧ Hid (∀ i, i < j' → (l[i]?.getD Od.z).num < ro) ∧ Below wa.heap.size wa wi) (fun rv _ => match rv with | .slice _ n _ => n | _ => 0)
      case atStart => exact ⟨j, hj, hRa, hORD, Below.refl _ _⟩
      case round =>
        obtain ⟨j', hj', hRi, HOD, hbi⟩ := hrel
        obtain ⟨g0, g1⟩ := (qa.below hbi hsa).two
        have hsi := hbi.size
        by_cases hjl : j' < l.length
        · obtain ⟨b, o, cap, rfl, hlc2, hm2, hbK, k0, k1, k2, k3, k4, hRn⟩ := hRi.form hjl
          unfold maxLen at hm2
          obtain ⟨od, hod⟩ : ∃ od, l[j']?.getD Od.z = od := ⟨_, rfl⟩
          rw [hod] at k0 k1 k2 k3 k4
          obtain ⟨m, hm3⟩ : ∃ m, l.length - j' = m := ⟨_, rfl⟩
          rw [hm3] at hlc2 hRn hRi ⊢
          have hm4 : 0 < m := by omega
          have hmI : (0 : Int) < (m : Int) := by omega
          have hmN : ¬ m = 0 := by omega
          have HMM := Lib.hid hm3
          have HODE := Lib.hid hod
          clear hm3 hod
          obtain ⟨on, oa, og, ot, onet⟩ := od
          dsimp only at k0 k1 k2 k3 k4
          by_cases hcmp : on < ro
          · go_upto_region 10 with fail
            go_quiet (fail)
            go_wp2_with fail
            refine ⟨⟨j' + 1, by omega, ?_, Lib.hid ?_, below_drewN2 hbi _⟩, by simp; omega⟩
            · rw [show (if cap = 1 then some (⟨b, o, none⟩ : Addr) else some ⟨b, o + 5, none⟩) = some (if cap = 1 then ⟨b, o, none⟩ else ⟨b, o + 5, none⟩) by split <;> rfl]
              exact Recs.drewN hRn _
            · intro i hi
              rcases Nat.lt_or_ge i j' with h | h
              · exact HOD.out i h
              · obtain rfl : i = j' := by omega
                rw [HODE.out]; exact hcmp
          · by_cases heq : on = ro
            · subst heq
              clear hcmp
              have hcmp : ¬ on < on := by omega
              go_upto_region 10 with fail
              go_quiet (fail)
              obtain ⟨wz, hwz⟩ : ∃ wz, wr.drewN nq = wz := ⟨_, rfl⟩
              rw [hwz]
              have z0 : wz.cell? ⟨b, o, none⟩ = some (.int .i64 on) := hwz ▸ (show (wr.drewN nq).cell? ⟨b, o, none⟩ = _ from k0)
              have z1 : wz.cell? ⟨b, o + 1, none⟩ = some (.int .i64 oa) := hwz ▸ (show (wr.drewN nq).cell? ⟨b, o + 1, none⟩ = _ from k1)
              have z2 : wz.cell? ⟨b, o + 2, none⟩ = some (.int .i64 og) := hwz ▸ (show (wr.drewN nq).cell? ⟨b, o + 2, none⟩ = _ from k2)
              have z3 : wz.cell? ⟨b, o + 3, none⟩ = some (.int .i64 ot) := hwz ▸ (show (wr.drewN nq).cell? ⟨b, o + 3, none⟩ = _ from k3)
              have z4 : wz.cell? ⟨b, o + 4, none⟩ = some (.int .i64 onet) := hwz ▸ (show (wr.drewN nq).cell? ⟨b, o + 4, none⟩ = _ from k4)
              have hbz : Below wa.heap.size wa wz := hwz ▸ below_drewN2 hbi nq
              obtain ⟨y0, y1⟩ := (qa.below hbz hsa).two
              have hOz := hOa.old hbz
              have hRz : Rest K wz (.slice (some ⟨b, o, none⟩) m cap) l j' := hwz ▸ (Recs.drewN hRi nq)
              clear hwz k0 k1 k2 k3 k4 g0 g1
              go_upto_region 12 with fail
              go_quiet (fail)
              obtain ⟨wy, hwy⟩ : ∃ wy, wz.drewN nq = wy := ⟨_, rfl⟩
              rw [hwy]
              have x0 : wy.cell? ⟨b, o, none⟩ = some (.int .i64 on) := hwy ▸ (show (wz.drewN nq).cell? ⟨b, o, none⟩ = _ from z0)
              have x1 : wy.cell? ⟨b, o + 1, none⟩ = some (.int .i64 oa) := hwy ▸ (show (wz.drewN nq).cell? ⟨b, o + 1, none⟩ = _ from z1)
              have x2 : wy.cell? ⟨b, o + 2, none⟩ = some (.int .i64 og) := hwy ▸ (show (wz.drewN nq).cell? ⟨b, o + 2, none⟩ = _ from z2)
              have x3 : wy.cell? ⟨b, o + 3, none⟩ = some (.int .i64 ot) := hwy ▸ (show (wz.drewN nq).cell? ⟨b, o + 3, none⟩ = _ from z3)
              have x4 : wy.cell? ⟨b, o + 4, none⟩ = some (.int .i64 onet) := hwy ▸ (show (wz.drewN nq).cell? ⟨b, o + 4, none⟩ = _ from z4)
              have hby : Below wa.heap.size wa wy := hwy ▸ below_drewN2 hbz nq
              have hRy : Rest K wy (.slice (some ⟨b, o, none⟩) m cap) l j' := hwy ▸ (Recs.drewN hRz nq)
              have hOy := hOa.old hby
              have hbyw : Below w.heap.size w wy := hbw.trans ((hba.trans (hby.mono hba.size)).mono hszr)
              have hlk : (picks l (rs.take k)).length ≤ 3000000 := by rw [HLK.out]; omega
              have hpk := pick_one HP.out.2.2.2.1 ⟨on, ry⟩ hjl (by rw [HODE.out])
              have hpt := picks_take l rs k hlt
              rw [HRT.out, hpk, HODE.out] at hpt
              have HPT := Lib.hid hpt
              clear hwy z0 z1 z2 z3 z4 y0 y1 hpk hpt hRz hOz hbz
              go_wp2_with (at_builtin; refine wpList_append_O rfl (.tmp 65) (.tmp 69) rfl wy ⟨on, oa, og, ot, onet⟩ rfl rfl hOy hlk hbyw.size ?_; intro v' w' hOn hbn)
              rw [← HPT.out] at hOn
              refine ⟨⟨k + 1, j', by omega, by omega, by go_num, hRy.below (hbn.mono ?_) (Nat.le_refl _), hOn, Lib.hid (by rw [HPT.out, List.length_append, HLK.out]; rfl), Lib.hid ?_, hbyw.trans hbn⟩, by simp [intOf]; omega⟩
              · exact hK
              · intro i m h1 h2 h3
                have h4 := HOD.out i h1
                have h5 := okRs_mono HQ.out.2.2.2 (show k < m by omega) h3
                rw [HRT.out] at h5
                exact Int.lt_trans h4 h5
            · have hbq1 : ((m : Int) == 0) = false := by rw [beq_eq_false_iff_ne]; omega
              have hbq2 : (on != ro) = true := bne_iff_ne.2 heq
              have hpn : pick l ⟨ro, ry⟩ = [] := pick_nil fun q hq => by
                obtain ⟨i, hi, rfl⟩ := List.mem_iff_getElem.1 hq
                have e1 : l[i] = l[i]?.getD Od.z := by rw [List.getElem?_eq_getElem hi]; rfl
                rw [e1]
                rcases Nat.lt_or_ge i j' with h | h
                · have := HOD.out i h; simp only; omega
                · rcases Nat.lt_or_ge j' i with h2 | h2
                  · have h3 := okTo_mono HP.out.2.2.2.1 h2 hi
                    rw [HODE.out] at h3; simp only at h3 ⊢; omega
                  · obtain rfl : i = j' := by omega
                    rw [HODE.out]; simp only; omega
              have hms := matchS_none HX.out HY.out HNO.out (picks_ne HP.out.2.2.2.1 rs hlt (by rw [HRT.out]; exact hpn))
              obtain ⟨rfl, rfl⟩ := Prod.mk.inj (HM.out.symm.trans hms)
              clear hms hpn
              go_upto_region 10 with fail
              go_quiet (fail)
              obtain ⟨wz, hwz⟩ : ∃ wz, wr.drewN nq = wz := ⟨_, rfl⟩
              rw [hwz]
              have z0 : wz.cell? ⟨b, o, none⟩ = some (.int .i64 on) := hwz ▸ (show (wr.drewN nq).cell? ⟨b, o, none⟩ = _ from k0)
              have z1 : wz.cell? ⟨b, o + 1, none⟩ = some (.int .i64 oa) := hwz ▸ (show (wr.drewN nq).cell? ⟨b, o + 1, none⟩ = _ from k1)
              have z2 : wz.cell? ⟨b, o + 2, none⟩ = some (.int .i64 og) := hwz ▸ (show (wr.drewN nq).cell? ⟨b, o + 2, none⟩ = _ from k2)
              have z3 : wz.cell? ⟨b, o + 3, none⟩ = some (.int .i64 ot) := hwz ▸ (show (wr.drewN nq).cell? ⟨b, o + 3, none⟩ = _ from k3)
              have z4 : wz.cell? ⟨b, o + 4, none⟩ = some (.int .i64 onet) := hwz ▸ (show (wr.drewN nq).cell? ⟨b, o + 4, none⟩ = _ from k4)
              have hbz : Below wa.heap.size wa wz := hwz ▸ below_drewN2 hbi nq
              obtain ⟨y0, y1⟩ := (qa.below hbz hsa).two
              have hOz := hOa.old hbz
              have hRz : Rest K wz (.slice (some ⟨b, o, none⟩) m cap) l j' := hwz ▸ (Recs.drewN hRi nq)
              clear hwz k0 k1 k2 k3 k4 g0 g1
              go_upto_region 12 with fail
              go_quiet (fail)
              go_wp2_with fail
              go_ret2
              exact ⟨_, rfl, nilO _, below_drewN2 (hbw.trans ((hba.trans (hbz.mono hba.size)).mono hszr)) _⟩
        · obtain rfl : j' = l.length := by omega
          have hpn : pick l ⟨ro, ry⟩ = [] := pick_nil fun q hq => by
            obtain ⟨i, hi, rfl⟩ := List.mem_iff_getElem.1 hq
            have e1 : l[i] = l[i]?.getD Od.z := by rw [List.getElem?_eq_getElem hi]; rfl
            rw [e1]
            have := HOD.out i hi; simp only; omega
          have hms := matchS_none HX.out HY.out HNO.out (picks_ne HP.out.2.2.2.1 rs hlt (by rw [HRT.out]; exact hpn))
          obtain ⟨rfl, rfl⟩ := Prod.mk.inj (HM.out.symm.trans hms)
          clear hms hpn
          obtain ⟨a, cap, rfl, hcl, hcm, hcz, _⟩ := hRi
          rw [Nat.sub_self]
          have hfin := hbw.trans ((hba.trans (hbi.mono hba.size)).mono hszr)
          clear hjl
          go_upto_region 10 with fail
          go_quiet (fail)
          go_upto_region 12 with fail
          go_quiet (fail)
          go_wp2_with fail
          go_ret2
          exact ⟨_, rfl, nilO _, by first | exact below_drewN2 (below_drewN2 hfin _) _ | exact below_drewN2 hfin _ | exact hfin.trans ⟨rfl, rfl, rfl, Nat.le_refl _, fun _ _ => rfl⟩⟩
    · obtain rfl : k = rs.length := by omega
      have hms := matchS_ok HX.out HY.out HNO.out (by have := HLK.out; rw [List.take_length] at this; exact this)
      obtain ⟨rfl, rfl⟩ := Prod.mk.inj (HM.out.symm.trans hms)
      clear hms
      rw [List.take_length] at hOwn
      go_wp2_with fail
      go_ret2
      exact ⟨_, rfl, hOwn.ords, hbw⟩
end Go.Proofs.YtaccaebdmndkiaaGreatDoor
