/- The reference of layer 37: Open, Right, Restore. No conditions beyond sizes. -/
import Derived.Test.YtkdlimigepkepaaGreatQ5
import Derived.Test.YtkdlimigepkepaaGreatJ8
namespace Go.Proofs.YtkdlimigepkepaaGreat
open Go.RowKit
set_option linter.unusedVariables false

set_option maxRecDepth 100000 in
set_option maxHeartbeats 1000000 in
theorem right_ref (K : Nat) (v : Value) (l : Lg) (w : World) (hv : Byts K w v l.st.data) (hK : K ≤ w.heap.size) (hl21 : l.st.data.length ≤ 2 ^ 21) :
    Calls Tryz.prog 35 #[.agg #[v, .int .i64 l.st.power, .int .i64 l.count, .bool l.down]] w fun e w' => e = .returned (.bool (rightB l)) ∧ Below w.heap.size w w' := by
  obtain ⟨⟨data, p⟩, c, d⟩ := l
  simp only at hv hl21 ⊢
  obtain ⟨va, cap, rfl, hl1, hl2, hz, _⟩ := id hv
  have HV := Lib.hid hv; have HL1 := Lib.hid hl1; have HL2 := Lib.hid hl2; have HZ := Lib.hid hz
  clear hv hl1 hl2 hz
  go_enter Tryz.func35, Tryz.ntmps35
  go_wp2_with fail
  have hp0 : Below w.heap.size w (w.alloc (Obj.cells #[.slice va data.length cap, .int .i64 p, .int .i64 c, .bool d] 49)) := (Below.refl _ w).alloc (Nat.le_refl _) _
  refine (scan_ref K _ data _ (HV.out.below (hp0.mono hK) (Nat.le_refl _)) (by simp; omega) hl21).mono ?_
  rintro e w1 ⟨v', rfl, hts, hb1⟩
  have q1 : Blk w1 w.heap.size #[.slice va data.length cap, .int .i64 p, .int .i64 c, .bool d] 49 := (Blk.new w _ _).below hb1 (by simp)
  obtain ⟨c0, c1, c2, c3, f0, f1, f2, f3⟩ := q1.four
  have hz1 : w.heap.size < w1.heap.size := q1.lt
  have hq1 : Below w.heap.size w w1 := hp0.trans (hb1.mono (by simp))
  obtain ⟨a', cap', rfl, _⟩ := id hts.txts
  clear hp0 hts
  go_wp2_with fail
  refine (valid_ref va data.length cap p _ (by have := HL1.out; have := HL2.out; unfold maxLen at *; omega)).mono ?_
  rintro e w2 ⟨rfl, hb2⟩
  have q2 := q1.below hb2 hz1
  have hq2 : Below w.heap.size w w2 := hq1.trans (hb2.mono (by omega))
  clear c0 c1 c2 c3 f0 f1 f2 f3 q1 hb1
  obtain ⟨c0, c1, c2, c3, f0, f1, f2, f3⟩ := q2.four
  cases hvb : validB data.length p with
  | false =>
    have hr : Hid (rightB ⟨⟨data, p⟩, c, d⟩ = false) := by unfold Hid rightB; simp [hvb]
    clear hvb
    go_wp2_with fail
    go_ret
    exact ⟨by rw [hr.out]; rfl, hq2⟩
  | true =>
    have hr : Hid (rightB ⟨⟨data, p⟩, c, d⟩ = (decide (c = ((scanOf data).length : Int)) && (d || decide (endOf (scanOf data) = data.length)))) := by unfold Hid rightB; simp [hvb]
    clear hvb
    obtain ⟨ps, hps⟩ : ∃ ps, scanOf data = ps := ⟨_, rfl⟩
    have HP := Lib.hid hps
    rw [hps]
    clear hps
    by_cases h1 : c = (ps.length : Int)
    · have h1' : ((ps.length : Int) == c) = true := by simp [h1]
      have hr' : Hid (rightB ⟨⟨data, p⟩, c, d⟩ = (d || decide (endOf ps = data.length))) := by unfold Hid; rw [hr.out, HP.out]; simp [h1]
      clear h1 hr
      cases d with
      | true =>
        have hr2 : Hid (rightB ⟨⟨data, p⟩, c, true⟩ = true) := by unfold Hid; rw [hr'.out]; rfl
        clear hr'
        go_wp2_with fail
        go_ret
        exact ⟨by rw [hr2.out]; rfl, hq2⟩
      | false =>
        have hr2 : Hid (rightB ⟨⟨data, p⟩, c, false⟩ = ((endOf ps : Int) == (data.length : Int))) := by
          unfold Hid; rw [hr'.out, Bool.false_or, Bool.eq_iff_iff]; simp; omega
        clear hr'
        go_wp2_with fail
        go_ret
        exact ⟨by rw [hr2.out]; rfl, hq2⟩
    · have h1' : ((ps.length : Int) == c) = false := by rw [beq_eq_false_iff_ne]; exact fun h => h1 h.symm
      have hr2 : Hid (rightB ⟨⟨data, p⟩, c, d⟩ = false) := by unfold Hid; rw [hr.out, HP.out]; simp [h1]
      clear h1 hr
      go_wp2_with fail
      go_ret
      exact ⟨by rw [hr2.out]; rfl, hq2⟩

set_option maxRecDepth 100000 in
set_option maxHeartbeats 1000000 in
theorem open_ref (K : Nat) (v : Value) (s : St) (w : World) (hv : Byts K w v s.data) (hK : K ≤ w.heap.size) (hp : s.power ≤ 2 ^ 63 - 1) (hl21 : s.data.length ≤ 2 ^ 21) :
    Calls Tryz.prog 18 #[.agg #[v, .int .i64 s.power]] w fun e w' => ∃ v' pv vs,
      e = .returned (.tuple #[.agg #[v', .int .i64 (openS s).1.st.power, .int .i64 (openS s).1.count, .bool (openS s).1.down], pv, .int .i64 (openS s).2.2]) ∧
      OwnB w.heap.size w' v' (openS s).1.st.data ∧ TsV w.heap.size w' pv vs (openS s).2.1 ∧ ((v' :: pv :: vs).filterMap Value.ownBlock).Nodup ∧ Below w.heap.size w w' := by
  obtain ⟨data, p⟩ := s
  simp only at hv hp hl21 ⊢
  obtain ⟨va, cap, rfl, hl1, hl2, hz, _⟩ := id hv
  have HV := Lib.hid hv; have HL1 := Lib.hid hl1; have HL2 := Lib.hid hl2; have HZ := Lib.hid hz
  clear hv hl1 hl2 hz
  go_enter Tryz.func18, Tryz.ntmps18
  go_wp2_with fail
  refine (valid_ref va data.length cap p _ (by have := HL1.out; have := HL2.out; unfold maxLen at *; omega)).mono ?_
  rintro e w1 ⟨rfl, hb1⟩
  have q1 : Blk w1 w.heap.size #[.slice va data.length cap, .int .i64 p] 39 := ((Blk.new w _ _).alloc _).below hb1 (by simp; omega)
  have r1 : Blk w1 (w.heap.size + 1) #[.slice none 0 0, .int .i64 0, .int .i64 0, .bool false] 49 := by
    have := Blk.new (w.alloc (.cells #[.slice va data.length cap, .int .i64 p] 39)) #[.slice none 0 0, .int .i64 0, .int .i64 0, .bool false] 49
    rw [World.size_alloc] at this
    exact this.below hb1 (by simp)
  obtain ⟨c0, c1, f0, f1⟩ := q1.two
  obtain ⟨d0, d1, d2, d3, g0, g1, g2, g3⟩ := r1.four
  have hz1 : w.heap.size + 1 < w1.heap.size := r1.lt
  have hz0 : w.heap.size < w1.heap.size := q1.lt
  have hz : K ≤ w1.heap.size := by omega
  have hq1 : Below w.heap.size w w1 := (((Below.refl _ w).alloc (Nat.le_refl _) _).alloc (by simp) _).trans (hb1.mono (by simp; omega))
  cases hvb : validB data.length p with
  | false =>
    have hr : Hid (openS ⟨data, p⟩ = (zLg, [], 2)) := by unfold Hid openS; rw [if_pos hvb]
    clear hvb
    go_wp2_with fail
    rw [hr.out]
    refine bodyPost_ret (v := .tuple #[.agg #[.slice none 0 0, .int .i64 0, .int .i64 0, .bool false], .slice none 0 0, .int .i64 2]) (by simp [results, Tryz.results18, go_sem, d0, d1, d2, d3]) rfl ⟨_, _, [], rfl, OwnB.nil _ _, ⟨rfl, World.ownsRow_nil _ _ _ _, fun i hi => absurd hi (Nat.not_lt_zero i)⟩, (List.nodup_nil : ([] : List Nat).Nodup), ?_⟩
    exact (((hq1.setCell (by simp) _).setCell (by simp) _).setCell (by simp) _).setCell (by simp) _
  | true =>
    have hr1 : Hid (¬ validB data.length p = false) := by unfold Hid; rw [hvb]; simp
    have hlen : data.length ≤ 2 ^ 20 := by unfold validB at hvb; simp at hvb; omega
    clear hvb
    go_wp2_with fail
    refine (scan_ref w1.heap.size _ data w1 (HV.out.below (hq1.mono hK) hz) (Nat.le_refl _) hl21).mono ?_
    rintro e w2 ⟨pv, rfl, hts, hb2⟩
    have q2 := q1.below hb2 hz0
    have r2 := r1.below hb2 hz1
    clear c0 c1 f0 f1 d0 d1 d2 d3 g0 g1 g2 g3
    obtain ⟨c0, c1, f0, f1⟩ := q2.two
    have hq2 : Below w.heap.size w w2 := hq1.trans (hb2.mono (by omega))
    go_wp2_with fail
    have hs2 : w1.heap.size ≤ w2.heap.size := hb2.size
    refine (cut_ref K _ ⟨data, p⟩ _ w2 (HV.out.below (hq2.mono hK) (Nat.le_refl _)) (by omega) hp).mono ?_
    rintro e w3 ⟨v', rfl, ho3, hb3⟩
    have q3 := q2.below hb3 (by omega)
    have r3 := r2.below hb3 (by omega)
    clear c0 c1 f0 f1
    obtain ⟨c0, c1, f0, f1⟩ := q3.two
    obtain ⟨d0, d1, d2, d3, g0, g1, g2, g3⟩ := r3.four
    have hq3 : Below w.heap.size w w3 := hq2.trans (hb3.mono (by omega))
    obtain ⟨vs, hts2, hnd⟩ := hts.named
    have hlt := hts2.lt
    have hts3 := hts2.below hb3 (Nat.le_refl _)
    obtain ⟨cs, hcs⟩ : ∃ cs, cutS ⟨data, p⟩ (endOf (scanOf data)) = cs := ⟨_, rfl⟩
    have HCS := Lib.hid hcs
    rw [hcs] at ho3 ⊢
    clear hcs
    obtain ⟨⟨d', p'⟩, e'⟩ := cs
    simp only at ho3 ⊢
    obtain ⟨ra, rn, rc, rfl⟩ := ownBlock_of_OwnB ho3
    have hz3 : w.heap.size + 1 < w3.heap.size := r3.lt
    by_cases he : e' = 0
    · have hr : Hid (openS ⟨data, p⟩ = (⟨⟨d', p'⟩, (scanOf data).length, false⟩, scanOf data, 0)) := by unfold Hid openS; rw [if_neg hr1.out, HCS.out, if_neg (by simp [he])]
      have he' : (e' != (0 : Int)) = false := by simp [he]
      clear he
      have hpf : ∃ a cap, pv = .slice a (scanOf data).length cap := by
        rcases hts2.2.1.2 with ⟨rfl, h0⟩ | ⟨g, cap, cur, rfl, _⟩
        · exact ⟨none, 0, by rw [h0]⟩
        · exact ⟨_, _, rfl⟩
      obtain ⟨pa, pc, rfl⟩ := hpf
      go_wp2_with fail
      rw [hr.out]
      refine bodyPost_ret (v := .tuple #[.agg #[.slice ra rn rc, .int .i64 p', .int .i64 ((scanOf data).length : Nat), .bool false], .slice pa (scanOf data).length pc, .int .i64 0]) (by simp [results, Tryz.results18, go_sem, d0, d1, d2, d3, hz3]) rfl ⟨_, _, vs, rfl, ?_, ?_, ?_, ?_⟩
      · refine OwnB.mono (ho3.above (B := w.heap.size + 2) ?_ (by omega)) (by omega)
        exact (((((Above.refl _ w3).set (by omega) _ _).set (by omega) _ _).set (by omega) _ _).set (by omega) _ _).alloc _
      · refine TsV.mono (hts3.above (B := w.heap.size + 2) ?_ (by omega)) (by omega)
        exact (((((Above.refl _ w3).set (by omega) _ _).set (by omega) _ _).set (by omega) _ _).set (by omega) _ _).alloc _
      · rw [filterMap_cons_toList]
        exact nodup_cons_of hnd (fun b hb hm => by have := (ownsRow_cells ho3 hb).1; have := hlt b hm; omega)
      · exact ((((hq3.setCell (by simp) _).setCell (by simp) _).setCell (by simp) _).setCell (by simp) _).alloc (by simp [World.setCell]; omega) _
    · have hr : Hid (openS ⟨data, p⟩ = (zLg, [], e')) := by unfold Hid openS; rw [if_neg hr1.out, HCS.out, if_pos he]
      have he' : (e' != (0 : Int)) = true := by simp [he]
      clear he
      go_wp2_with fail
      rw [hr.out]
      refine bodyPost_ret (v := .tuple #[.agg #[.slice none 0 0, .int .i64 0, .int .i64 0, .bool false], .slice none 0 0, .int .i64 e']) (by simp [results, Tryz.results18, go_sem, d0, d1, d2, d3, hz3]) rfl ⟨_, _, [], rfl, OwnB.nil _ _, ⟨rfl, World.ownsRow_nil _ _ _ _, fun i hi => absurd hi (Nat.not_lt_zero i)⟩, (List.nodup_nil : ([] : List Nat).Nodup), ?_⟩
      exact ((((hq3.setCell (by simp) _).setCell (by simp) _).setCell (by simp) _).setCell (by simp) _).alloc (by simp [World.setCell]; omega) _

set_option maxRecDepth 100000 in
set_option maxHeartbeats 1000000 in
theorem restore_ref (K : Nat) (v : Value) (l : Lg) (p : Int) (w : World) (hv : Byts K w v l.st.data) (hK : K ≤ w.heap.size) (hl21 : l.st.data.length ≤ 2 ^ 21) :
    Calls Tryz.prog 33 #[.agg #[v, .int .i64 l.st.power, .int .i64 l.count, .bool l.down], .int .i64 p] w fun e w' => ∃ v',
      e = .returned (.tuple #[.agg #[v', .int .i64 (restoreS l p).1.power], .int .i64 (restoreS l p).2]) ∧ OwnB w.heap.size w' v' (restoreS l p).1.data ∧ Below w.heap.size w w' := by
  obtain ⟨va, cap, rfl, hl1, hl2, hz, _⟩ := id hv
  have HV := Lib.hid hv; have HL1 := Lib.hid hl1; have HL2 := Lib.hid hl2; have HZ := Lib.hid hz
  clear hv hl1 hl2 hz
  obtain ⟨lp, hlp⟩ : ∃ x, l.st.power = x := ⟨_, rfl⟩
  obtain ⟨lc, hlc⟩ : ∃ x, l.count = x := ⟨_, rfl⟩
  obtain ⟨ld, hld⟩ : ∃ x, l.down = x := ⟨_, rfl⟩
  have hR : ∀ (K : Nat) (v : Value) (w : World), Byts K w v l.st.data → K ≤ w.heap.size → Calls Tryz.prog 35 #[.agg #[v, .int .i64 lp, .int .i64 lc, .bool ld]] w fun e w' => e = .returned (.bool (rightB l)) ∧ Below w.heap.size w w' :=
    fun K v w h1 h2 => hlp ▸ hlc ▸ hld ▸ right_ref K v l w h1 h2 hl21
  have HR := Lib.hid hR; clear hR
  rw [hlp, hlc, hld]
  clear hlp hlc hld
  go_enter Tryz.func33, Tryz.ntmps33
  go_wp2_with fail
  have hp0 : Below w.heap.size w ((w.alloc (Obj.cells #[.slice va l.st.data.length cap, .int .i64 lp, .int .i64 lc, .bool ld] 49)).alloc (Obj.cells #[Value.slice none 0 0, Value.int IntKind.i64 0] 39)) := ((Below.refl _ w).alloc (Nat.le_refl _) _).alloc (by simp) _
  refine (HR.out K _ _ (HV.out.below (hp0.mono hK) (Nat.le_refl _)) (by simp; omega)).mono ?_
  rintro e w1 ⟨rfl, hb1⟩
  have q1 : Blk w1 w.heap.size #[.slice va l.st.data.length cap, .int .i64 lp, .int .i64 lc, .bool ld] 49 := ((Blk.new w _ _).alloc _).below hb1 (by simp; omega)
  have r1 : Blk w1 (w.heap.size + 1) #[.slice none 0 0, .int .i64 0] 39 := by
    have := Blk.new (w.alloc (.cells #[.slice va l.st.data.length cap, .int .i64 lp, .int .i64 lc, .bool ld] 49)) #[.slice none 0 0, .int .i64 0] 39
    rw [World.size_alloc] at this
    exact this.below hb1 (by simp)
  obtain ⟨c0, c1, c2, c3, f0, f1, f2, f3⟩ := q1.four
  obtain ⟨d0, d1, g0, g1⟩ := r1.two
  have hz1 : w.heap.size + 1 < w1.heap.size := r1.lt
  have hz0 : w.heap.size < w1.heap.size := q1.lt
  have hz : K ≤ w1.heap.size := by omega
  have hq1 : Below w.heap.size w w1 := hp0.trans (hb1.mono (by simp; omega))
  clear hp0
  cases hrb : rightB l with
  | false =>
    have hr : Hid (restoreS l p = (zSt, 2)) := by unfold Hid restoreS; rw [if_pos (.inl hrb)]
    clear hrb
    go_wp2_with fail
    rw [hr.out]
    refine bodyPost_ret (v := .tuple #[.agg #[.slice none 0 0, .int .i64 0], .int .i64 2]) (by simp [results, Tryz.results33, go_sem, d0, d1]) rfl ⟨_, rfl, OwnB.nil _ _, ?_⟩
    exact (hq1.setCell (by simp) _).setCell (by simp) _
  | true =>
    have hdl := (rightB_facts hrb).2.1
    by_cases h2 : p < -1
    · have hr : Hid (restoreS l p = (zSt, 2)) := by unfold Hid restoreS; rw [if_pos (.inr h2)]
      have t : decide (p < (-1 : Int)) = true := by simp; omega
      clear hrb h2
      go_wp2_with fail
      rw [hr.out]
      refine bodyPost_ret (v := .tuple #[.agg #[.slice none 0 0, .int .i64 0], .int .i64 2]) (by simp [results, Tryz.results33, go_sem, d0, d1]) rfl ⟨_, rfl, OwnB.nil _ _, ?_⟩
      exact (hq1.setCell (by simp) _).setCell (by simp) _
    · have hr : Hid (restoreS l p = (⟨l.st.data, p⟩, 0)) := by unfold Hid restoreS; rw [if_neg (by rw [hrb]; simp; omega)]
      have t : decide (p < (-1 : Int)) = false := by simp; omega
      clear hrb h2
      have hoe := ownB_empty' (base := w.heap.size + 2) w1 (by omega)
      have hk1 : Below w1.heap.size w1 (w1.alloc (.cells #[] 5)) := (Below.refl _ _).alloc (Nat.le_refl _) _
      have hby1 := (HV.out.below (hq1.mono hK) (Nat.le_refl _)).below (hk1.mono hz) (Nat.le_refl _)
      have hr9 := r1.alloc (.cells #[] 5)
      have hq9 := q1.alloc (.cells #[] 5)
      have hb9 := hq1.alloc (by omega) (.cells #[] 5)
      have hs9 : w.heap.size + 2 ≤ (w1.alloc (.cells #[] 5)).heap.size := by rw [World.size_alloc]; omega
      have hsm : ([] : List UInt8).length + l.st.data.length ≤ 2 ^ 46 := by simp; omega
      clear hk1
      go_wp2_with (at_builtin; refine wpList_append_B rfl (.tmp 14) (.tmp 17) rfl rfl rfl hoe hby1 hsm hs9 ?_; intro v8 w8 ho8 hg8 hat8; have hg8 : World.grownBy _ w8 (Value.slice (some ⟨w1.heap.size, 0, none⟩) 0 0).ownBlock := hg8; have hne8 : ∀ b, b < w.heap.size + 2 → some b ≠ (Value.slice (some ⟨w1.heap.size, 0, none⟩) 0 0).ownBlock := fun b hb e => (by simp [Value.ownBlock] at e; omega); have r8 := hr9.kept hg8 (hne8 _ (by omega)); clear c0 c1 c2 c3 f0 f1 f2 f3 d0 d1 g0 g1; obtain ⟨d0, d1, g0, g1⟩ := r8.two; obtain ⟨ra, rn, rc, rfl⟩ := ownBlock_of_OwnB ho8; have hwl8 : w.heap.size + 1 < w8.heap.size := r8.lt)
      rw [hr.out]
      simp only [List.nil_append] at ho8
      have hbl8 : Below w.heap.size w w8 := hb9.trans (below_of_grown hg8 (fun r hr => by simp [Value.ownBlock] at hr; omega) (by omega))
      refine bodyPost_ret (v := .tuple #[.agg #[.slice ra rn rc, .int .i64 p], .int .i64 0]) (by simp [results, Tryz.results33, go_sem, d0, d1]) rfl ⟨_, rfl, ?_, ?_⟩
      · exact OwnB.mono (ho8.above (((Above.refl (w.heap.size + 2) w8).set (by omega) _ _).set (by omega) _ _) (by omega)) (by omega)
      · exact (hbl8.setCell (by simp) _).setCell (by simp) _

end Go.Proofs.YtkdlimigepkepaaGreat
