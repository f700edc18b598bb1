/- Package journal: Add, Restore. No conditions beyond the readings of the arguments. -/
import Derived.Test.YtkdlimigepkepaaGreatJ7
namespace Go.Proofs.YtkdlimigepkepaaGreat
open Go.RowKit
set_option linter.unusedVariables false

theorem rightB_facts {l : Lg} (h : rightB l = true) : l.count = ((scanOf l.st.data).length : Int) ∧ l.st.data.length ≤ 1048576 ∧ -1 ≤ l.st.power ∧ (scanOf l.st.data).length ≤ 65536 := by
  unfold rightB validB at h
  simp at h
  exact ⟨h.2.1, h.1.1, h.1.2, (scanOf_spec l.st.data).1.fits.2⟩

set_option maxRecDepth 100000 in
set_option maxHeartbeats 1000000 in
theorem restore_any (K : Nat) (v : Value) (l : Lg) (p : Int) (w : World) (hv : Byts K w v l.st.data) (hK : K ≤ w.heap.size) :
    Calls Tryz.prog 32 #[.agg #[v, .int .i64 l.st.power, .int .i64 l.count, .bool l.down], .int .i64 p] w fun e w' => ∃ v',
      e = .returned (.tuple #[.agg #[v', .int .i64 (restoreS l p).1.power], .int .i64 (restoreS l p).2]) ∧ OwnB w.heap.size w' v' (restoreS l p).1.data ∧ Below w.heap.size w w' := by
  obtain ⟨va, cap, rfl, hl1, hl2, hz, _⟩ := id hv
  have HV := Lib.hid hv; have HL1 := Lib.hid hl1; have HL2 := Lib.hid hl2; have HZ := Lib.hid hz
  clear hv hl1 hl2 hz
  obtain ⟨lp, hlp⟩ : ∃ x, l.st.power = x := ⟨_, rfl⟩
  obtain ⟨lc, hlc⟩ : ∃ x, l.count = x := ⟨_, rfl⟩
  obtain ⟨ld, hld⟩ : ∃ x, l.down = x := ⟨_, rfl⟩
  have hR : ∀ (K : Nat) (v : Value) (w : World), Byts K w v l.st.data → K ≤ w.heap.size → Calls Tryz.prog 34 #[.agg #[v, .int .i64 lp, .int .i64 lc, .bool ld]] w fun e w' => e = .returned (.bool (rightB l)) ∧ Below w.heap.size w w' :=
    fun K v w h1 h2 => hlp ▸ hlc ▸ hld ▸ right_any K v l w h1 h2
  have HR := Lib.hid hR; clear hR
  rw [hlp, hlc, hld]
  clear hlp hlc hld
  go_enter Tryz.func32, Tryz.ntmps32
  go_wp2_with fail
  have hp0 : Below w.heap.size w ((w.alloc (Obj.cells #[.slice va l.st.data.length cap, .int .i64 lp, .int .i64 lc, .bool ld] 32)).alloc (Obj.cells #[Value.slice none 0 0, Value.int IntKind.i64 0] 28)) := ((Below.refl _ w).alloc (Nat.le_refl _) _).alloc (by simp) _
  refine (HR.out K _ _ (HV.out.below (hp0.mono hK) (Nat.le_refl _)) (by simp; omega)).mono ?_
  rintro e w1 ⟨rfl, hb1⟩
  have q1 : Blk w1 w.heap.size #[.slice va l.st.data.length cap, .int .i64 lp, .int .i64 lc, .bool ld] 32 := ((Blk.new w _ _).alloc _).below hb1 (by simp; omega)
  have r1 : Blk w1 (w.heap.size + 1) #[.slice none 0 0, .int .i64 0] 28 := by
    have := Blk.new (w.alloc (.cells #[.slice va l.st.data.length cap, .int .i64 lp, .int .i64 lc, .bool ld] 32)) #[.slice none 0 0, .int .i64 0] 28
    rw [World.size_alloc] at this
    exact this.below hb1 (by simp)
  obtain ⟨c0, c1, c2, c3, f0, f1, f2, f3⟩ := q1.four
  obtain ⟨d0, d1, g0, g1⟩ := r1.two
  have hz1 : w.heap.size + 1 < w1.heap.size := r1.lt
  have hz0 : w.heap.size < w1.heap.size := q1.lt
  have hz : K ≤ w1.heap.size := by omega
  have hq1 : Below w.heap.size w w1 := hp0.trans (hb1.mono (by simp; omega))
  clear hp0
  cases hrb : rightB l with
  | false =>
    have hr : Hid (restoreS l p = (zSt, 2)) := by unfold Hid restoreS; rw [if_pos (.inl hrb)]
    clear hrb
    go_wp2_with fail
    rw [hr.out]
    refine bodyPost_ret (v := .tuple #[.agg #[.slice none 0 0, .int .i64 0], .int .i64 2]) (by simp [results, Tryz.results32, go_sem, d0, d1]) rfl ⟨_, rfl, OwnB.nil _ _, ?_⟩
    exact (hq1.setCell (by simp) _).setCell (by simp) _
  | true =>
    have hdl := (rightB_facts hrb).2.1
    by_cases h2 : p < -1
    · have hr : Hid (restoreS l p = (zSt, 2)) := by unfold Hid restoreS; rw [if_pos (.inr h2)]
      have t : decide (p < (-1 : Int)) = true := by simp; omega
      clear hrb h2
      go_wp2_with fail
      rw [hr.out]
      refine bodyPost_ret (v := .tuple #[.agg #[.slice none 0 0, .int .i64 0], .int .i64 2]) (by simp [results, Tryz.results32, go_sem, d0, d1]) rfl ⟨_, rfl, OwnB.nil _ _, ?_⟩
      exact (hq1.setCell (by simp) _).setCell (by simp) _
    · have hr : Hid (restoreS l p = (⟨l.st.data, p⟩, 0)) := by unfold Hid restoreS; rw [if_neg (by rw [hrb]; simp; omega)]
      have t : decide (p < (-1 : Int)) = false := by simp; omega
      clear hrb h2
      go_wp2_with fail
      refine (own_any K _ l.st.data w1 (HV.out.below (hq1.mono hK) (Nat.le_refl _)) (by omega)).mono ?_
      rintro e w2 ⟨v2, rfl, ho2, hg2⟩
      have hb2 : Below w1.heap.size w1 w2 := below_of_grown hg2 (fun r hr => nomatch hr) (Nat.le_refl _)
      have r2 := r1.below hb2 hz1
      clear c0 c1 c2 c3 f0 f1 f2 f3 d0 d1 g0 g1
      obtain ⟨d0, d1, g0, g1⟩ := r2.two
      obtain ⟨ra, rn, rc, rfl⟩ := ownBlock_of_OwnB ho2
      go_wp2_with fail
      rw [hr.out]
      refine bodyPost_ret (v := .tuple #[.agg #[.slice ra rn rc, .int .i64 p], .int .i64 0]) (by simp [results, Tryz.results32, go_sem, d0, d1]) rfl ⟨_, rfl, ?_, ?_⟩
      · exact OwnB.mono (ho2.above (((Above.refl (w.heap.size + 2) w2).set (by omega) _ _).set (by omega) _ _) (by omega)) (by omega)
      · exact ((hq1.trans (hb2.mono (by omega))).setCell (by simp) _).setCell (by simp) _
set_option maxRecDepth 100000 in
set_option maxHeartbeats 2000000 in
theorem add_any (K : Nat) (v vp : Value) (l : Lg) (pl : List UInt8) (w : World) (hv : Byts K w v l.st.data) (hvp : Byts K w vp pl) (hK : K ≤ w.heap.size) (hp : l.st.power ≤ 2 ^ 63 - 1) :
    Calls Tryz.prog 30 #[.agg #[v, .int .i64 l.st.power, .int .i64 l.count, .bool l.down], vp] w fun e w' => ∃ v',
      e = .returned (.tuple #[.agg #[v', .int .i64 (addS l pl).1.st.power, .int .i64 (addS l pl).1.count, .bool (addS l pl).1.down], .int .i64 (addS l pl).2]) ∧ OwnB w.heap.size w' v' (addS l pl).1.st.data ∧ Below w.heap.size w w' := by
  obtain ⟨va, cap, rfl, hl1, hl2, hz, _⟩ := id hv
  obtain ⟨da, dcap, rfl, hm1, hm2, hy, _⟩ := id hvp
  have HV := Lib.hid hv; have HL1 := Lib.hid hl1; have HL2 := Lib.hid hl2; have HZ := Lib.hid hz
  have HD := Lib.hid hvp; have HM1 := Lib.hid hm1; have HM2 := Lib.hid hm2; have HY := Lib.hid hy
  have hmd : pl.length ≤ 2 ^ 63 - 1 := by unfold maxLen at hm2; omega
  clear hv hl1 hl2 hz hvp hm1 hm2 hy
  obtain ⟨lp, hlp⟩ : ∃ x, l.st.power = x := ⟨_, rfl⟩
  obtain ⟨lc, hlc⟩ : ∃ x, l.count = x := ⟨_, rfl⟩
  obtain ⟨ld, hld⟩ : ∃ x, l.down = x := ⟨_, rfl⟩
  have hR : ∀ (K : Nat) (v : Value) (w : World), Byts K w v l.st.data → K ≤ w.heap.size → Calls Tryz.prog 34 #[.agg #[v, .int .i64 lp, .int .i64 lc, .bool ld]] w fun e w' => e = .returned (.bool (rightB l)) ∧ Below w.heap.size w w' :=
    fun K v w h1 h2 => hlp ▸ hlc ▸ hld ▸ right_any K v l w h1 h2
  have hW : ∀ (K : Nat) (v vd : Value) (d : List UInt8) (w : World), Byts K w v l.st.data → Byts K w vd d → K ≤ w.heap.size → Calls Tryz.prog 12 #[.agg #[v, .int .i64 lp], vd] w fun e w' => ∃ v', e = .returned (.tuple #[.agg #[v', .int .i64 (writeS l.st d).1.power], .int .i64 (writeS l.st d).2]) ∧ OwnB w.heap.size w' v' (writeS l.st d).1.data ∧ Below w.heap.size w w' :=
    fun K v vd d w h1 h2 h3 => hlp ▸ write_any K v vd l.st d w h1 h2 h3 hp
  have HR := Lib.hid hR; have HW := Lib.hid hW; clear hR hW
  rw [hlp, hlc, hld]
  have HLC := Lib.hid hlc; have HLD := Lib.hid hld
  clear hlp hlc hld hp
  go_enter Tryz.func30, Tryz.ntmps30
  go_wp2_with fail
  have hp0 : Below w.heap.size w ((w.alloc (Obj.cells #[.slice va l.st.data.length cap, .int .i64 lp, .int .i64 lc, .bool ld] 32)).alloc (Obj.cells #[.slice none 0 0, .int .i64 0, .int .i64 0, .bool false] 32)) := ((Below.refl _ w).alloc (Nat.le_refl _) _).alloc (by simp) _
  refine (HR.out K _ _ (HV.out.below (hp0.mono hK) (Nat.le_refl _)) (by simp; omega)).mono ?_
  rintro e w1 ⟨rfl, hb1⟩
  have q1 : Blk w1 w.heap.size #[.slice va l.st.data.length cap, .int .i64 lp, .int .i64 lc, .bool ld] 32 := ((Blk.new w _ _).alloc _).below hb1 (by simp; omega)
  have r1 : Blk w1 (w.heap.size + 1) #[.slice none 0 0, .int .i64 0, .int .i64 0, .bool false] 32 := by
    have := Blk.new (w.alloc (.cells #[.slice va l.st.data.length cap, .int .i64 lp, .int .i64 lc, .bool ld] 32)) #[.slice none 0 0, .int .i64 0, .int .i64 0, .bool false] 32
    rw [World.size_alloc] at this
    exact this.below hb1 (by simp)
  obtain ⟨c0, c1, c2, c3, f0, f1, f2, f3⟩ := q1.four
  obtain ⟨d0, d1, d2, d3, g0, g1, g2, g3⟩ := r1.four
  have hz1 : w.heap.size + 1 < w1.heap.size := r1.lt
  have hz0 : w.heap.size < w1.heap.size := q1.lt
  have hz : K ≤ w1.heap.size := by omega
  have hq1 : Below w.heap.size w w1 := hp0.trans (hb1.mono (by simp; omega))
  clear hp0
  by_cases hbad : rightB l = false ∨ 4096 < pl.length
  · have hr : Hid (addS l pl = (zLg, 2)) := by unfold Hid addS; rw [if_pos hbad]
    cases hrb : rightB l with
    | false =>
      clear hbad hrb
      go_wp2_with fail
      rw [hr.out]
      refine bodyPost_ret (v := .tuple #[.agg #[.slice none 0 0, .int .i64 0, .int .i64 0, .bool false], .int .i64 2]) (by simp [results, Tryz.results30, go_sem, d0, d1, d2, d3]) rfl ⟨_, rfl, OwnB.nil _ _, ?_⟩
      exact (((hq1.setCell (by simp) _).setCell (by simp) _).setCell (by simp) _).setCell (by simp) _
    | true =>
      have h2 := hbad.resolve_left (by rw [hrb]; simp)
      have t : decide ((4096 : Int) < (pl.length : Int)) = true := by simp; omega
      clear hbad hrb h2
      go_wp2_with fail
      rw [hr.out]
      refine bodyPost_ret (v := .tuple #[.agg #[.slice none 0 0, .int .i64 0, .int .i64 0, .bool false], .int .i64 2]) (by simp [results, Tryz.results30, go_sem, d0, d1, d2, d3]) rfl ⟨_, rfl, OwnB.nil _ _, ?_⟩
      exact (((hq1.setCell (by simp) _).setCell (by simp) _).setCell (by simp) _).setCell (by simp) _
  have hr1 := Lib.hid hbad
  have hrb : rightB l = true := by cases h : rightB l <;> simp_all
  have hpl : pl.length ≤ 2 ^ 12 := by omega
  have t1 : decide ((4096 : Int) < (pl.length : Int)) = false := by simp; omega
  clear hbad
  obtain ⟨k1, k2, k3, k4⟩ := rightB_facts hrb
  rw [HLC.out] at k1
  rw [hrb]
  clear hrb
  cases ld with
  | true =>
    have hr : Hid (addS l pl = (zLg, 371)) := by unfold Hid addS; rw [if_neg hr1.out, if_pos HLD.out]
    clear k1
    go_wp2_with fail
    rw [hr.out]
    refine bodyPost_ret (v := .tuple #[.agg #[.slice none 0 0, .int .i64 0, .int .i64 0, .bool false], .int .i64 371]) (by simp [results, Tryz.results30, go_sem, d0, d1, d2, d3]) rfl ⟨_, rfl, OwnB.nil _ _, ?_⟩
    exact (((hq1.setCell (by simp) _).setCell (by simp) _).setCell (by simp) _).setCell (by simp) _
  | false =>
    have hr2 : Hid (¬ l.down = true) := by unfold Hid; rw [HLD.out]; simp
    by_cases h3 : 65536 ≤ lc
    · have hr : Hid (addS l pl = (zLg, 4)) := by unfold Hid addS; rw [if_neg hr1.out, if_neg hr2.out, HLC.out, if_pos h3]
      have t : decide ((65536 : Int) ≤ lc) = true := by simp; omega
      clear k1 h3
      go_wp2_with fail
      rw [hr.out]
      refine bodyPost_ret (v := .tuple #[.agg #[.slice none 0 0, .int .i64 0, .int .i64 0, .bool false], .int .i64 4]) (by simp [results, Tryz.results30, go_sem, d0, d1, d2, d3]) rfl ⟨_, rfl, OwnB.nil _ _, ?_⟩
      exact (((hq1.setCell (by simp) _).setCell (by simp) _).setCell (by simp) _).setCell (by simp) _
    have t : decide ((65536 : Int) ≤ lc) = false := by simp; omega
    have hr3 := Lib.hid h3
    obtain ⟨m, rfl⟩ : ∃ m : Nat, lc = m := ⟨lc.toNat, by omega⟩
    have hm : m ≤ 2 ^ 16 - 1 := by omega
    clear k1 h3
    go_wp2_with fail
    have hm1' : (m + 1 : Nat) ≤ 65536 := by omega
    refine (form_yes K _ pl (m + 1) _ w1 (HD.out.below (hq1.mono hK) (Nat.le_refl _)) hz (by simp) (by omega) hm1' (by omega)).mono ?_
    rintro e w2 ⟨fv, rfl, ho2, hb2⟩
    have q2 := q1.below hb2 hz0
    have r2 := r1.below hb2 hz1
    clear c0 c1 c2 c3 f0 f1 f2 f3 d0 d1 d2 d3 g0 g1 g2 g3
    obtain ⟨c0, c1, c2, c3, f0, f1, f2, f3⟩ := q2.four
    have hq2 : Below w.heap.size w w2 := hq1.trans (hb2.mono (by omega))
    have hs2 : w1.heap.size ≤ w2.heap.size := hb2.size
    go_wp2_with fail
    refine (HW.out w2.heap.size _ fv _ w2 (HV.out.below (hq2.mono hK) (by omega)) ho2.byts (Nat.le_refl _)).mono ?_
    rintro e w3 ⟨v', rfl, ho3, hb3⟩
    have q3 := q2.below hb3 (by omega)
    have r3 := r2.below hb3 (by omega)
    clear c0 c1 c2 c3 f0 f1 f2 f3
    obtain ⟨c0, c1, c2, c3, f0, f1, f2, f3⟩ := q3.four
    obtain ⟨d0, d1, d2, d3, g0, g1, g2, g3⟩ := r3.four
    have hq3 : Below w.heap.size w w3 := hq2.trans (hb3.mono (by omega))
    have hs3 : w2.heap.size ≤ w3.heap.size := hb3.size
    have hz3 : w.heap.size + 1 < w3.heap.size := by omega
    have hz4 : w.heap.size < w3.heap.size := by omega
    obtain ⟨ws, hws⟩ : ∃ ws, writeS l.st (formOf (m + 1) pl) = ws := ⟨_, rfl⟩
    have HWS : Hid (writeS l.st (formOf (l.count + 1).toNat pl) = ws) := by unfold Hid; rw [HLC.out, ← hws]; congr 1
    rw [hws] at ho3 ⊢
    clear hws
    obtain ⟨⟨d', p'⟩, e'⟩ := ws
    simp only at ho3 ⊢
    obtain ⟨ra, rn, rc, rfl⟩ := ownBlock_of_OwnB ho3
    have hr3' : Hid (¬ (65536 : Int) ≤ (m : Int)) := by unfold Hid; have := hr3.out; omega
    by_cases he : e' = 0
    · have hr : Hid (addS l pl = (⟨⟨d', p'⟩, (m : Int) + 1, false⟩, 0)) := by unfold Hid addS; rw [if_neg hr1.out, if_neg hr2.out, HLC.out, if_neg hr3'.out, ← HLC.out, HWS.out, if_pos (by simp [he])]
      have he' : (e' == (0 : Int)) = true := by simp [he]
      have he'' : (e' != (0 : Int)) = false := by simp [he]
      clear he
      go_wp2_with fail
      rw [hr.out]
      refine bodyPost_ret (v := .tuple #[.agg #[.slice ra rn rc, .int .i64 p', .int .i64 ((m : Int) + 1), .bool false], .int .i64 0]) (by simp [results, Tryz.results30, go_sem, d0, d1, d2, d3, hz3]) rfl ⟨_, rfl, ?_, ?_⟩
      · refine OwnB.mono (ho3.above (B := w.heap.size + 2) ?_ (by omega)) (by omega)
        exact (((((Above.refl _ w3).set (by omega) _ _).set (by omega) _ _).set (by omega) _ _).set (by omega) _ _).alloc _
      · exact ((((hq3.setCell (by simp) _).setCell (by simp) _).setCell (by simp) _).setCell (by simp) _).alloc (by simp [World.setCell]; omega) _
    have he' : (e' == (0 : Int)) = false := by simp [he]
    by_cases h7 : e' = 370
    · have hr : Hid (addS l pl = (⟨⟨d', p'⟩, (m : Int), true⟩, 370)) := by unfold Hid addS; rw [if_neg hr1.out, if_neg hr2.out, HLC.out, if_neg hr3'.out, ← HLC.out, HWS.out, if_neg (by simp [he]), if_pos (by simp [h7])]
      have h7' : (e' == (370 : Int)) = true := by simp [h7]
      clear he h7
      go_wp2_with fail
      rw [hr.out]
      refine bodyPost_ret (v := .tuple #[.agg #[.slice ra rn rc, .int .i64 p', .int .i64 (m : Int), .bool true], .int .i64 370]) (by simp [results, Tryz.results30, go_sem, d0, d1, d2, d3, hz3]) rfl ⟨_, rfl, ?_, ?_⟩
      · refine OwnB.mono (ho3.above (B := w.heap.size + 2) ?_ (by omega)) (by omega)
        exact (((((Above.refl _ w3).set (by omega) _ _).set (by omega) _ _).set (by omega) _ _).set (by omega) _ _).alloc _
      · exact ((((hq3.setCell (by simp) _).setCell (by simp) _).setCell (by simp) _).setCell (by simp) _).alloc (by simp [World.setCell]; omega) _
    · have hr : Hid (addS l pl = (zLg, e')) := by unfold Hid addS; rw [if_neg hr1.out, if_neg hr2.out, HLC.out, if_neg hr3'.out, ← HLC.out, HWS.out, if_neg (by simp [he]), if_neg (by simp [h7])]
      have h7' : (e' == (370 : Int)) = false := by simp [h7]
      clear he h7
      go_wp2_with fail
      rw [hr.out]
      refine bodyPost_ret (v := .tuple #[.agg #[.slice none 0 0, .int .i64 0, .int .i64 0, .bool false], .int .i64 e']) (by simp [results, Tryz.results30, go_sem, d0, d1, d2, d3, hz3]) rfl ⟨_, rfl, OwnB.nil _ _, ?_⟩
      exact ((((hq3.setCell (by simp) _).setCell (by simp) _).setCell (by simp) _).setCell (by simp) _).alloc (by simp [World.setCell]; omega) _
end Go.Proofs.YtkdlimigepkepaaGreat
