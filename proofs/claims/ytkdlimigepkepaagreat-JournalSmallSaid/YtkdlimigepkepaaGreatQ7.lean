/- The reference of layer 37: Add. No conditions beyond sizes. -/
import Derived.Test.YtkdlimigepkepaaGreatQ6
namespace Go.Proofs.YtkdlimigepkepaaGreat
open Go.RowKit
set_option linter.unusedVariables false

theorem wrS_code (s : St) (d : List UInt8) : (wrS s d).2 = 0 ∨ (wrS s d).2 = 370 := by
  unfold wrS
  repeat' split
  all_goals simp

set_option maxRecDepth 100000 in
set_option maxHeartbeats 2000000 in
theorem add_ref (K : Nat) (v vp : Value) (l : Lg) (pl : List UInt8) (w : World) (hv : Byts K w v l.st.data) (hvp : Byts K w vp pl) (hK : K ≤ w.heap.size) (hp : l.st.power ≤ 2 ^ 63 - 1) (hl21 : l.st.data.length ≤ 2 ^ 21) :
    Calls Tryz.prog 31 #[.agg #[v, .int .i64 l.st.power, .int .i64 l.count, .bool l.down], vp] w fun e w' => ∃ v',
      e = .returned (.tuple #[.agg #[v', .int .i64 (addS l pl).1.st.power, .int .i64 (addS l pl).1.count, .bool (addS l pl).1.down], .int .i64 (addS l pl).2]) ∧ OwnB w.heap.size w' v' (addS l pl).1.st.data ∧ Below w.heap.size w w' := by
  obtain ⟨va, cap, rfl, hl1, hl2, hz, _⟩ := id hv
  obtain ⟨da, dcap, rfl, hm1, hm2, hy, _⟩ := id hvp
  have HV := Lib.hid hv; have HL1 := Lib.hid hl1; have HL2 := Lib.hid hl2; have HZ := Lib.hid hz
  have HD := Lib.hid hvp; have HM1 := Lib.hid hm1; have HM2 := Lib.hid hm2; have HY := Lib.hid hy
  have hmd : pl.length ≤ 2 ^ 63 - 1 := by unfold maxLen at hm2; omega
  clear hv hl1 hl2 hz hvp hm1 hm2 hy
  obtain ⟨lp, hlp⟩ : ∃ x, l.st.power = x := ⟨_, rfl⟩
  obtain ⟨lc, hlc⟩ : ∃ x, l.count = x := ⟨_, rfl⟩
  obtain ⟨ld, hld⟩ : ∃ x, l.down = x := ⟨_, rfl⟩
  have hR : ∀ (K : Nat) (v : Value) (w : World), Byts K w v l.st.data → K ≤ w.heap.size → Calls Tryz.prog 35 #[.agg #[v, .int .i64 lp, .int .i64 lc, .bool ld]] w fun e w' => e = .returned (.bool (rightB l)) ∧ Below w.heap.size w w' :=
    fun K v w h1 h2 => hlp ▸ hlc ▸ hld ▸ right_ref K v l w h1 h2 hl21
  have HLP := Lib.hid hlp
  have hW : ∀ (K : Nat) (v vd : Value) (d : List UInt8) (w : World), Byts K w v l.st.data → Byts K w vd d → K ≤ w.heap.size → -1 ≤ lp → l.st.data.length + d.length ≤ 2 ^ 21 → Calls Tryz.prog 38 #[.agg #[v, .int .i64 lp], vd] w fun e w' => ∃ v', e = .returned (.tuple #[.agg #[v', .int .i64 (wrS l.st d).1.power], .int .i64 (wrS l.st d).2]) ∧ OwnB w.heap.size w' v' (wrS l.st d).1.data ∧ Below w.heap.size w w' :=
    fun K v vd d w h1 h2 h3 h4 h5 => hlp ▸ wr_ref K v vd l.st d w h1 h2 h3 hp (hlp ▸ h4) h5
  have HR := Lib.hid hR; have HW := Lib.hid hW; clear hR hW
  rw [hlp, hlc, hld]
  have HLC := Lib.hid hlc; have HLD := Lib.hid hld
  clear hlp hlc hld hp
  go_enter Tryz.func31, Tryz.ntmps31
  go_wp2_with fail
  have hp0 : Below w.heap.size w ((w.alloc (Obj.cells #[.slice va l.st.data.length cap, .int .i64 lp, .int .i64 lc, .bool ld] 49)).alloc (Obj.cells #[.slice none 0 0, .int .i64 0, .int .i64 0, .bool false] 49)) := ((Below.refl _ w).alloc (Nat.le_refl _) _).alloc (by simp) _
  refine (HR.out K _ _ (HV.out.below (hp0.mono hK) (Nat.le_refl _)) (by simp; omega)).mono ?_
  rintro e w1 ⟨rfl, hb1⟩
  have q1 : Blk w1 w.heap.size #[.slice va l.st.data.length cap, .int .i64 lp, .int .i64 lc, .bool ld] 49 := ((Blk.new w _ _).alloc _).below hb1 (by simp; omega)
  have r1 : Blk w1 (w.heap.size + 1) #[.slice none 0 0, .int .i64 0, .int .i64 0, .bool false] 49 := by
    have := Blk.new (w.alloc (.cells #[.slice va l.st.data.length cap, .int .i64 lp, .int .i64 lc, .bool ld] 49)) #[.slice none 0 0, .int .i64 0, .int .i64 0, .bool false] 49
    rw [World.size_alloc] at this
    exact this.below hb1 (by simp)
  obtain ⟨c0, c1, c2, c3, f0, f1, f2, f3⟩ := q1.four
  obtain ⟨d0, d1, d2, d3, g0, g1, g2, g3⟩ := r1.four
  have hz1 : w.heap.size + 1 < w1.heap.size := r1.lt
  have hz0 : w.heap.size < w1.heap.size := q1.lt
  have hz : K ≤ w1.heap.size := by omega
  have hq1 : Below w.heap.size w w1 := hp0.trans (hb1.mono (by simp; omega))
  clear hp0
  by_cases hbad : rightB l = false ∨ 4096 < pl.length
  · have hr : Hid (addS l pl = (zLg, 2)) := by unfold Hid addS; rw [if_pos hbad]
    cases hrb : rightB l with
    | false =>
      clear hbad hrb
      go_wp2_with fail
      rw [hr.out]
      refine bodyPost_ret (v := .tuple #[.agg #[.slice none 0 0, .int .i64 0, .int .i64 0, .bool false], .int .i64 2]) (by simp [results, Tryz.results31, go_sem, d0, d1, d2, d3]) rfl ⟨_, rfl, OwnB.nil _ _, ?_⟩
      exact (((hq1.setCell (by simp) _).setCell (by simp) _).setCell (by simp) _).setCell (by simp) _
    | true =>
      have h2 := hbad.resolve_left (by rw [hrb]; simp)
      have t : decide ((4096 : Int) < (pl.length : Int)) = true := by simp; omega
      clear hbad hrb h2
      go_wp2_with fail
      rw [hr.out]
      refine bodyPost_ret (v := .tuple #[.agg #[.slice none 0 0, .int .i64 0, .int .i64 0, .bool false], .int .i64 2]) (by simp [results, Tryz.results31, go_sem, d0, d1, d2, d3]) rfl ⟨_, rfl, OwnB.nil _ _, ?_⟩
      exact (((hq1.setCell (by simp) _).setCell (by simp) _).setCell (by simp) _).setCell (by simp) _
  have hr1 := Lib.hid hbad
  have hrb : rightB l = true := by cases h : rightB l <;> simp_all
  have hpl : pl.length ≤ 2 ^ 12 := by omega
  have t1 : decide ((4096 : Int) < (pl.length : Int)) = false := by simp; omega
  clear hbad
  obtain ⟨k1, k2, k3, k4⟩ := rightB_facts hrb
  rw [HLC.out] at k1
  rw [hrb]
  clear hrb
  cases ld with
  | true =>
    have hr : Hid (addS l pl = (zLg, 371)) := by unfold Hid addS; rw [if_neg hr1.out, if_pos HLD.out]
    clear k1
    go_wp2_with fail
    rw [hr.out]
    refine bodyPost_ret (v := .tuple #[.agg #[.slice none 0 0, .int .i64 0, .int .i64 0, .bool false], .int .i64 371]) (by simp [results, Tryz.results31, go_sem, d0, d1, d2, d3]) rfl ⟨_, rfl, OwnB.nil _ _, ?_⟩
    exact (((hq1.setCell (by simp) _).setCell (by simp) _).setCell (by simp) _).setCell (by simp) _
  | false =>
    have hr2 : Hid (¬ l.down = true) := by unfold Hid; rw [HLD.out]; simp
    by_cases h3 : lc = 65536
    · have hr : Hid (addS l pl = (zLg, 4)) := by unfold Hid addS; rw [if_neg hr1.out, if_neg hr2.out, HLC.out, if_pos (by omega)]
      have t : (lc == (65536 : Int)) = true := by rw [beq_iff_eq]; exact h3
      clear k1 h3
      go_wp2_with fail
      rw [hr.out]
      refine bodyPost_ret (v := .tuple #[.agg #[.slice none 0 0, .int .i64 0, .int .i64 0, .bool false], .int .i64 4]) (by simp [results, Tryz.results31, go_sem, d0, d1, d2, d3]) rfl ⟨_, rfl, OwnB.nil _ _, ?_⟩
      exact (((hq1.setCell (by simp) _).setCell (by simp) _).setCell (by simp) _).setCell (by simp) _
    have t : (lc == (65536 : Int)) = false := by rw [beq_eq_false_iff_ne]; exact h3
    obtain ⟨m, rfl⟩ : ∃ m : Nat, lc = m := ⟨lc.toNat, by omega⟩
    have hm : m ≤ 2 ^ 16 - 1 := by omega
    have hr3 : Hid (¬ (65536 : Int) ≤ (m : Int)) := by unfold Hid; omega
    have hfl : (formOf (m + 1) pl).length = 10 + pl.length := formOf_length _ _
    by_cases h4 : 1048576 < l.st.data.length + pl.length + 10
    · have hws : writeS l.st (formOf (m + 1) pl) = (zSt, 4) := by
        unfold writeS
        rw [if_neg (by unfold validB; simp; omega), if_pos (by rw [hfl]; omega)]
      have hr : Hid (addS l pl = (zLg, 4)) := by
        unfold Hid addS; rw [if_neg hr1.out, if_neg hr2.out, HLC.out, if_neg hr3.out, show ((m : Int) + 1).toNat = m + 1 by omega, hws, if_neg (by simp), if_neg (by simp)]
      have t2 : decide ((1048576 : Int) < (l.st.data.length : Int) + (pl.length : Int) + 10) = true := by simp; omega
      clear k1 h3 h4 hws hfl
      go_wp2_with fail
      rw [hr.out]
      refine bodyPost_ret (v := .tuple #[.agg #[.slice none 0 0, .int .i64 0, .int .i64 0, .bool false], .int .i64 4]) (by simp [results, Tryz.results31, go_sem, d0, d1, d2, d3]) rfl ⟨_, rfl, OwnB.nil _ _, ?_⟩
      exact (((hq1.setCell (by simp) _).setCell (by simp) _).setCell (by simp) _).setCell (by simp) _
    have t2 : decide ((1048576 : Int) < (l.st.data.length : Int) + (pl.length : Int) + 10) = false := by simp; omega
    have hwe : Hid (writeS l.st (formOf (m + 1) pl) = wrS l.st (formOf (m + 1) pl)) := by
      unfold Hid writeS wrS
      rw [if_neg (by unfold validB; simp; omega), if_neg (by rw [hfl]; omega)]
    have hws21 : l.st.data.length + (formOf (m + 1) pl).length ≤ 2 ^ 21 := by rw [hfl]; omega
    have hpw : -1 ≤ lp := by rw [← HLP.out]; exact k3
    have hwc : (wrS l.st (formOf (m + 1) pl)).2 = 0 ∨ (wrS l.st (formOf (m + 1) pl)).2 = 370 := wrS_code _ _
    clear k1 h3 h4 hfl
    go_wp2_with fail
    have hm1' : (m + 1 : Nat) ≤ 65536 := by omega
    refine (form_ref K _ pl (m + 1) _ w1 (HD.out.below (hq1.mono hK) (Nat.le_refl _)) hz (by simp) (by omega) hm1' (by omega)).mono ?_
    rintro e w2 ⟨fv, rfl, ho2, hb2⟩
    have q2 := q1.below hb2 hz0
    have r2 := r1.below hb2 hz1
    clear c0 c1 c2 c3 f0 f1 f2 f3 d0 d1 d2 d3 g0 g1 g2 g3
    obtain ⟨c0, c1, c2, c3, f0, f1, f2, f3⟩ := q2.four
    have hq2 : Below w.heap.size w w2 := hq1.trans (hb2.mono (by omega))
    have hs2 : w1.heap.size ≤ w2.heap.size := hb2.size
    go_wp2_with fail
    refine (HW.out w2.heap.size _ fv _ w2 (HV.out.below (hq2.mono hK) (by omega)) ho2.byts (Nat.le_refl _) hpw hws21).mono ?_
    rintro e w3 ⟨v', rfl, ho3, hb3⟩
    have q3 := q2.below hb3 (by omega)
    have r3 := r2.below hb3 (by omega)
    clear c0 c1 c2 c3 f0 f1 f2 f3
    obtain ⟨c0, c1, c2, c3, f0, f1, f2, f3⟩ := q3.four
    obtain ⟨d0, d1, d2, d3, g0, g1, g2, g3⟩ := r3.four
    have hq3 : Below w.heap.size w w3 := hq2.trans (hb3.mono (by omega))
    have hs3 : w2.heap.size ≤ w3.heap.size := hb3.size
    have hz3 : w.heap.size + 1 < w3.heap.size := by omega
    have hz4 : w.heap.size < w3.heap.size := by omega
    obtain ⟨ws, hws⟩ : ∃ ws, wrS l.st (formOf (m + 1) pl) = ws := ⟨_, rfl⟩
    have HWS : Hid (writeS l.st (formOf (l.count + 1).toNat pl) = ws) := by unfold Hid; rw [HLC.out, show ((m : Int) + 1).toNat = m + 1 by omega, hwe.out, hws]
    rw [hws] at ho3 hwc ⊢
    clear hws hwe
    obtain ⟨⟨d', p'⟩, e'⟩ := ws
    simp only at ho3 hwc ⊢
    obtain ⟨ra, rn, rc, rfl⟩ := ownBlock_of_OwnB ho3
    have hr3' := hr3
    by_cases he : e' = 0
    · have hr : Hid (addS l pl = (⟨⟨d', p'⟩, (m : Int) + 1, false⟩, 0)) := by unfold Hid addS; rw [if_neg hr1.out, if_neg hr2.out, HLC.out, if_neg (by have := hr3'.out; omega), ← HLC.out, HWS.out, if_pos (by simp [he])]
      have he'' : (e' != (0 : Int)) = false := by simp [he]
      clear he
      go_wp2_with fail
      rw [hr.out]
      refine bodyPost_ret (v := .tuple #[.agg #[.slice ra rn rc, .int .i64 p', .int .i64 ((m : Int) + 1), .bool false], .int .i64 0]) (by simp [results, Tryz.results31, go_sem, d0, d1, d2, d3, hz3]) rfl ⟨_, rfl, ?_, ?_⟩
      · refine OwnB.mono (ho3.above (B := w.heap.size + 2) ?_ (by omega)) (by omega)
        exact (((((Above.refl _ w3).set (by omega) _ _).set (by omega) _ _).set (by omega) _ _).set (by omega) _ _).alloc _
      · exact ((((hq3.setCell (by simp) _).setCell (by simp) _).setCell (by simp) _).setCell (by simp) _).alloc (by simp [World.setCell]; omega) _
    have h7 : e' = 370 := hwc.resolve_left he
    subst h7
    · have hr : Hid (addS l pl = (⟨⟨d', p'⟩, (m : Int), true⟩, 370)) := by unfold Hid addS; rw [if_neg hr1.out, if_neg hr2.out, HLC.out, if_neg (by have := hr3'.out; omega), ← HLC.out, HWS.out, if_neg (by simp [he]), if_pos (by simp)]
      have he'' : ((370 : Int) != (0 : Int)) = true := by decide
      clear he
      go_wp2_with fail
      rw [hr.out]
      refine bodyPost_ret (v := .tuple #[.agg #[.slice ra rn rc, .int .i64 p', .int .i64 (m : Int), .bool true], .int .i64 370]) (by simp [results, Tryz.results31, go_sem, d0, d1, d2, d3, hz3]) rfl ⟨_, rfl, ?_, ?_⟩
      · refine OwnB.mono (ho3.above (B := w.heap.size + 2) ?_ (by omega)) (by omega)
        exact (((((Above.refl _ w3).set (by omega) _ _).set (by omega) _ _).set (by omega) _ _).set (by omega) _ _).alloc _
      · exact ((((hq3.setCell (by simp) _).setCell (by simp) _).setCell (by simp) _).setCell (by simp) _).alloc (by simp [World.setCell]; omega) _
end Go.Proofs.YtkdlimigepkepaaGreat
