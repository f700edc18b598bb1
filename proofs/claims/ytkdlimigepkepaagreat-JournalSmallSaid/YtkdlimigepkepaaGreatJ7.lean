/- Package journal: Cut, Open, Add, Restore. No conditions beyond the readings of the arguments. -/
import Derived.Test.YtkdlimigepkepaaGreatJ6
namespace Go.Proofs.YtkdlimigepkepaaGreat
open Go.RowKit
set_option linter.unusedVariables false

set_option maxRecDepth 100000 in
set_option maxHeartbeats 1000000 in
theorem cut_any (K : Nat) (v : Value) (s : St) (n : Int) (w : World) (hv : Byts K w v s.data) (hK : K ≤ w.heap.size) (hp : s.power ≤ 2 ^ 63 - 1) :
    Calls Tryz.prog 15 #[.agg #[v, .int .i64 s.power], .int .i64 n] w fun e w' => ∃ v', e = .returned (.tuple #[.agg #[v', .int .i64 (cutS s n).1.power], .int .i64 (cutS s n).2]) ∧ OwnB w.heap.size w' v' (cutS s n).1.data ∧ Below w.heap.size w w' := by
  obtain ⟨data, p⟩ := s
  simp only at hv hp ⊢
  obtain ⟨va, cap, rfl, hl1, hl2, hz, _⟩ := id hv
  have HV := Lib.hid hv; have HL1 := Lib.hid hl1; have HL2 := Lib.hid hl2; have HZ := Lib.hid hz
  clear hv hl1 hl2 hz
  go_enter Tryz.func15, Tryz.ntmps15
  go_wp2_with fail
  refine (valid_any va data.length cap p _ (by have := HL1.out; have := HL2.out; unfold maxLen at *; omega)).mono ?_
  rintro e w1 ⟨rfl, hb1⟩
  have q1 : Blk w1 w.heap.size #[.slice va data.length cap, .int .i64 p] 28 := ((Blk.new w _ _).alloc _).below hb1 (by simp; omega)
  have r1 : Blk w1 (w.heap.size + 1) #[.slice none 0 0, .int .i64 0] 28 := by
    have := Blk.new (w.alloc (.cells #[.slice va data.length cap, .int .i64 p] 28)) #[.slice none 0 0, .int .i64 0] 28
    rw [World.size_alloc] at this
    exact this.below hb1 (by simp)
  obtain ⟨c0, c1, f0, f1⟩ := q1.two
  obtain ⟨d0, d1, g0, g1⟩ := r1.two
  have hz1 : w.heap.size + 1 < w1.heap.size := r1.lt
  have hz0 : w.heap.size < w1.heap.size := q1.lt
  have hz : K ≤ w1.heap.size := by omega
  have hq1 : Below w.heap.size w w1 := (((Below.refl _ w).alloc (Nat.le_refl _) _).alloc (by simp) _).trans (hb1.mono (by simp; omega))
  by_cases hbad : validB data.length p = false ∨ n < 0 ∨ (data.length : Int) < n
  · have hr : Hid (cutS ⟨data, p⟩ n = (zSt, 2)) := by unfold Hid cutS; rw [if_pos hbad]
    cases hvb : validB data.length p with
    | false =>
      clear hbad hvb
      go_wp2_with fail
      rw [hr.out]
      refine bodyPost_ret (v := .tuple #[.agg #[.slice none 0 0, .int .i64 0], .int .i64 2]) (by simp [results, Tryz.results15, go_sem, d0, d1]) rfl ⟨_, rfl, OwnB.nil _ _, ?_⟩
      exact (hq1.setCell (by simp) _).setCell (by simp) _
    | true =>
      have hbad := hbad.resolve_left (by rw [hvb]; simp)
      clear hvb
      by_cases h0 : n < 0
      · have t0 : decide (n < (0 : Int)) = true := by simp; omega
        clear hbad h0
        go_wp2_with fail
        rw [hr.out]
        refine bodyPost_ret (v := .tuple #[.agg #[.slice none 0 0, .int .i64 0], .int .i64 2]) (by simp [results, Tryz.results15, go_sem, d0, d1]) rfl ⟨_, rfl, OwnB.nil _ _, ?_⟩
        exact (hq1.setCell (by simp) _).setCell (by simp) _
      · have h1 := hbad.resolve_left h0
        have t0 : decide (n < (0 : Int)) = false := by simp; omega
        have t1 : decide ((data.length : Int) < n) = true := by simp; omega
        clear hbad h0 h1
        go_wp2_with fail
        rw [hr.out]
        refine bodyPost_ret (v := .tuple #[.agg #[.slice none 0 0, .int .i64 0], .int .i64 2]) (by simp [results, Tryz.results15, go_sem, d0, d1]) rfl ⟨_, rfl, OwnB.nil _ _, ?_⟩
        exact (hq1.setCell (by simp) _).setCell (by simp) _
  have hr1 := Lib.hid hbad
  have hvb : validB data.length p = true := by cases h : validB data.length p <;> simp_all
  have hn0 : 0 ≤ n := by omega
  have hn1 : n ≤ (data.length : Int) := by omega
  clear hbad
  have hlen : data.length ≤ 2 ^ 20 := by unfold validB at hvb; simp at hvb; omega
  have hp1 : -1 ≤ p := by unfold validB at hvb; simp at hvb; omega
  have t0 : decide (n < (0 : Int)) = false := by simp; omega
  rw [hvb]
  clear hvb
  obtain ⟨m, rfl⟩ : ∃ m : Nat, n = m := ⟨n.toNat, by omega⟩
  have t1 : decide (data.length < m) = false := by simp; omega
  have hv1' := HV.out.below (hq1.mono hK) (Nat.le_refl _)
  have hv1 := hv1'.take m (by omega)
  clear hv1'
  have hmc : (m : Int) ≤ (cap : Int) := by have := HL1.out; omega
  by_cases h2 : (m : Int) = (data.length : Int)
  · have hr : Hid (cutS ⟨data, p⟩ m = (⟨data.take m, p⟩, 0)) := by unfold Hid cutS; rw [if_neg hr1.out, if_pos h2]; rw [List.take_of_length_le (by omega)]
    have t2 : decide (m < data.length) = false := by simp; omega
    clear h2
    go_wp2_with fail
    refine (own_any K _ _ w1 hv1 (by rw [List.length_take]; omega)).mono ?_
    rintro e w2 ⟨v2, rfl, ho2, hg2⟩
    have hb2 : Below w1.heap.size w1 w2 := below_of_grown hg2 (fun r hr => nomatch hr) (by omega)
    have hs2 : w1.heap.size ≤ w2.heap.size := Nat.le_trans (by omega) hb2.size
    have ho2 : OwnB w1.heap.size w2 v2 _ := ho2.mono (by omega)
    have q2 := q1.below hb2 hz0
    have r2 := r1.below hb2 hz1
    clear c0 c1 f0 f1 d0 d1 g0 g1
    obtain ⟨c0, c1, f0, f1⟩ := q2.two
    obtain ⟨d0, d1, g0, g1⟩ := r2.two
    obtain ⟨ra, rn, rc, rfl⟩ := ownBlock_of_OwnB ho2
    go_wp2_with fail
    rw [hr.out]
    refine bodyPost_ret (v := .tuple #[.agg #[.slice ra rn rc, .int .i64 (p)], .int .i64 0]) (by simp [results, Tryz.results15, go_sem, d0, d1]) rfl ⟨_, rfl, ?_, ?_⟩
    · exact (((ho2.setBelow (by omega) _).setBelow (by omega) _).setBelow (by omega) _).mono (by omega)
    · exact (((hq1.trans (hb2.mono (by omega))).setCell (by simp) _).setCell (by simp) _).setCell (by simp) _
  have t2 : decide (m < data.length) = true := by simp; omega
  have hr2 := Lib.hid h2
  clear h2
  by_cases h3 : p = 0
  · have hr : Hid (cutS ⟨data, p⟩ m = (zSt, 370)) := by unfold Hid cutS; rw [if_neg hr1.out, if_neg hr2.out, if_pos h3]
    subst h3
    go_wp2_with fail
    rw [hr.out]
    refine bodyPost_ret (v := .tuple #[.agg #[.slice none 0 0, .int .i64 0], .int .i64 370]) (by simp [results, Tryz.results15, go_sem, d0, d1]) rfl ⟨_, rfl, OwnB.nil _ _, ?_⟩
    exact (hq1.setCell (by simp) _).setCell (by simp) _
  have t3 : (p == (0 : Int)) = false := by simp; omega
  have hr3 := Lib.hid h3
  clear h3
  by_cases h4 : 0 < p
  · have hr : Hid (cutS ⟨data, p⟩ m = (⟨data.take m, p - 1⟩, 0)) := by unfold Hid cutS; rw [if_neg hr1.out, if_neg hr2.out, if_neg hr3.out, if_pos h4]; rfl
    go_wp2_with fail
    obtain ⟨w1', hw1'⟩ : ∃ w1', w1.setCell ⟨w.heap.size, 1, none⟩ (Value.int IntKind.i64 (p - 1)) = w1' := ⟨_, rfl⟩
    have q1' : Blk w1' w.heap.size #[.slice va data.length cap, .int .i64 (p - 1)] 28 := by rw [← hw1']; exact q1.set _
    have r1' : Blk w1' (w.heap.size + 1) #[.slice none 0 0, .int .i64 0] 28 := by rw [← hw1']; exact r1.other (by omega) _
    have hbs : Below w.heap.size w1 w1' := by rw [← hw1']; exact (Below.refl w.heap.size w1).setCell (p := ⟨w.heap.size, 1, none⟩) (Nat.le_refl _) _
    have hsz' : w1'.heap.size = w1.heap.size := by rw [← hw1']; simp [World.setCell]
    have hv1' := hv1.below (hbs.mono hK) (Nat.le_refl _)
    have hq1' := hq1.trans hbs
    rw [hw1']
    clear c0 c1 f0 f1 d0 d1 g0 g1 q1 r1 hw1'
    obtain ⟨c0, c1, f0, f1⟩ := q1'.two
    obtain ⟨d0, d1, g0, g1⟩ := r1'.two
    refine (own_any K _ _ w1' hv1' (by rw [List.length_take]; omega)).mono ?_
    rintro e w2 ⟨v2, rfl, ho2, hg2⟩
    have hb2 : Below w1.heap.size w1' w2 := below_of_grown hg2 (fun r hr => nomatch hr) (by omega)
    have hs2 : w1.heap.size ≤ w2.heap.size := Nat.le_trans (by omega) hb2.size
    have ho2 : OwnB w1.heap.size w2 v2 _ := ho2.mono (by omega)
    have q2 := q1'.below hb2 hz0
    have r2 := r1'.below hb2 hz1
    clear c0 c1 f0 f1 d0 d1 g0 g1
    obtain ⟨c0, c1, f0, f1⟩ := q2.two
    obtain ⟨d0, d1, g0, g1⟩ := r2.two
    obtain ⟨ra, rn, rc, rfl⟩ := ownBlock_of_OwnB ho2
    go_wp2_with fail
    rw [hr.out]
    refine bodyPost_ret (v := .tuple #[.agg #[.slice ra rn rc, .int .i64 (p - 1)], .int .i64 0]) (by simp [results, Tryz.results15, go_sem, d0, d1]) rfl ⟨_, rfl, ?_, ?_⟩
    · exact (((ho2.setBelow (by omega) _).setBelow (by omega) _).setBelow (by omega) _).mono (by omega)
    · exact (((hq1'.trans (hb2.mono (by omega))).setCell (by simp) _).setCell (by simp) _).setCell (by simp) _
  · have hr : Hid (cutS ⟨data, p⟩ m = (⟨data.take m, p⟩, 0)) := by unfold Hid cutS; rw [if_neg hr1.out, if_neg hr2.out, if_neg hr3.out, if_neg h4]; rfl
    go_wp2_with fail
    refine (own_any K _ _ w1 hv1 (by rw [List.length_take]; omega)).mono ?_
    rintro e w2 ⟨v2, rfl, ho2, hg2⟩
    have hb2 : Below w1.heap.size w1 w2 := below_of_grown hg2 (fun r hr => nomatch hr) (by omega)
    have hs2 : w1.heap.size ≤ w2.heap.size := Nat.le_trans (by omega) hb2.size
    have ho2 : OwnB w1.heap.size w2 v2 _ := ho2.mono (by omega)
    have q2 := q1.below hb2 hz0
    have r2 := r1.below hb2 hz1
    clear c0 c1 f0 f1 d0 d1 g0 g1
    obtain ⟨c0, c1, f0, f1⟩ := q2.two
    obtain ⟨d0, d1, g0, g1⟩ := r2.two
    obtain ⟨ra, rn, rc, rfl⟩ := ownBlock_of_OwnB ho2
    go_wp2_with fail
    rw [hr.out]
    refine bodyPost_ret (v := .tuple #[.agg #[.slice ra rn rc, .int .i64 (p)], .int .i64 0]) (by simp [results, Tryz.results15, go_sem, d0, d1]) rfl ⟨_, rfl, ?_, ?_⟩
    · exact (((ho2.setBelow (by omega) _).setBelow (by omega) _).setBelow (by omega) _).mono (by omega)
    · exact (((hq1.trans (hb2.mono (by omega))).setCell (by simp) _).setCell (by simp) _).setCell (by simp) _
/-- Texts, their slices named. -/
def TsV (base : Nat) (w : World) (v : Value) (vs : List Value) (ps : List (List UInt8)) : Prop :=
  vs.length = ps.length ∧ w.ownsRow base 22 1 v ps.length vs ∧ (∀ i, i < ps.length → OwnB base w (vs[i]?.getD undef) (ps[i]?.getD []))
theorem OwnTs.named {base : Nat} {w : World} {v : Value} {ps : List (List UInt8)} (h : OwnTs base w v ps) : ∃ vs, TsV base w v vs ps ∧ ((v :: vs).filterMap Value.ownBlock).Nodup := by
  obtain ⟨vs, h1, h2, h3, h4⟩ := h
  exact ⟨vs, ⟨h1, h2, h3⟩, h4⟩
theorem TsV.texts {base : Nat} {w : World} {v : Value} {vs : List Value} {ps : List (List UInt8)} (h : TsV base w v vs ps) (hn : ((v :: vs).filterMap Value.ownBlock).Nodup) : OwnTs base w v ps := ⟨vs, h.1, h.2.1, h.2.2, hn⟩
theorem TsV.lt {base : Nat} {w : World} {v : Value} {vs : List Value} {ps : List (List UInt8)} (h : TsV base w v vs ps) : ∀ b, b ∈ (v :: vs).filterMap Value.ownBlock → b < w.heap.size := by
  intro b hb
  obtain ⟨u, hu, hub⟩ := List.mem_filterMap.1 hb
  rcases List.mem_cons.1 hu with rfl | hu
  · exact (h.2.1.lt b hub).2
  · obtain ⟨i, hi, rfl⟩ := List.mem_iff_getElem.1 hu
    have := h.2.2 i (by have := h.1; omega)
    rw [List.getElem?_eq_getElem hi] at this
    exact (World.ownsRow.lt this b hub).2
theorem TsV.keptA {base : Nat} {w w' : World} {v : Value} {vs : List Value} {ps : List (List UInt8)} {row : Option Nat} (h : TsV base w v vs ps) (hg : w.grownBy w' row) (ha : Apart base w row) : TsV base w' v vs ps :=
  ⟨h.1, h.2.1.kept hg (ha.ne h.2.1), fun i hi => (h.2.2 i hi).keptA hg ha⟩
theorem TsV.mono {base base' : Nat} {w : World} {v : Value} {vs : List Value} {ps : List (List UInt8)} (h : TsV base w v vs ps) (hb : base' ≤ base) : TsV base' w v vs ps :=
  ⟨h.1, ownsRow_mono h.2.1 hb, fun i hi => (h.2.2 i hi).mono hb⟩
theorem ownsRow_below {B base e size n : Nat} {w w' : World} {v : Value} {xs : List Value} (h : w.ownsRow base e size v n xs) (hb : Below B w w') (hlt : ∀ r, v.ownBlock = some r → r < B) : w'.ownsRow base e size v n xs := by
  refine ⟨h.1, ?_⟩
  rcases h.2 with hn | ⟨g, cap, cur, rfl, hbg, hg, rest⟩
  · exact .inl hn
  · exact .inr ⟨g, cap, cur, rfl, hbg, (hb.block g (hlt g rfl)).trans hg, rest⟩
theorem OwnB.below {B base : Nat} {w w' : World} {v : Value} {l : List UInt8} (h : OwnB base w v l) (hb : Below B w w') (hB : w.heap.size ≤ B) : OwnB base w' v l :=
  ownsRow_below h hb (fun r hr => by have := (World.ownsRow.lt h r hr).2; omega)
theorem TsV.below {B base : Nat} {w w' : World} {v : Value} {vs : List Value} {ps : List (List UInt8)} (h : TsV base w v vs ps) (hb : Below B w w') (hB : w.heap.size ≤ B) : TsV base w' v vs ps :=
  ⟨h.1, ownsRow_below h.2.1 hb (fun r hr => by have := (h.2.1.lt r hr).2; omega), fun i hi => (h.2.2 i hi).below hb hB⟩
theorem OwnTs.below {B base : Nat} {w w' : World} {v : Value} {ps : List (List UInt8)} (h : OwnTs base w v ps) (hb : Below B w w') (hB : w.heap.size ≤ B) : OwnTs base w' v ps := by
  obtain ⟨vs, h1, h2⟩ := h.named
  exact (h1.below hb hB).texts h2

theorem TsV.above {B base : Nat} {w w' : World} {v : Value} {vs : List Value} {ps : List (List UInt8)} (h : TsV base w v vs ps) (ha : Above B w w') (hB : B ≤ base) : TsV base w' v vs ps :=
  ⟨h.1, ownsRow_above h.2.1 ha hB, fun i hi => (h.2.2 i hi).above ha hB⟩

theorem nodup_cons_of {x : Option Nat} {l : List Nat} (hl : l.Nodup) (h : ∀ b, x = some b → b ∉ l) : (x.toList ++ l).Nodup := by
  cases x with
  | none => simpa using hl
  | some b => simp only [Option.toList_some, List.cons_append, List.nil_append, List.nodup_cons]; exact ⟨h b rfl, hl⟩
theorem filterMap_cons_toList (v : Value) (vs : List Value) : (v :: vs).filterMap Value.ownBlock = v.ownBlock.toList ++ vs.filterMap Value.ownBlock := by
  rw [List.filterMap_cons]; cases v.ownBlock <;> rfl

set_option maxRecDepth 100000 in
set_option maxHeartbeats 1000000 in
theorem open_any (K : Nat) (v : Value) (s : St) (w : World) (hv : Byts K w v s.data) (hK : K ≤ w.heap.size) (hp : s.power ≤ 2 ^ 63 - 1) :
    Calls Tryz.prog 17 #[.agg #[v, .int .i64 s.power]] w fun e w' => ∃ v' pv vs,
      e = .returned (.tuple #[.agg #[v', .int .i64 (openS s).1.st.power, .int .i64 (openS s).1.count, .bool (openS s).1.down], pv, .int .i64 (openS s).2.2]) ∧
      OwnB w.heap.size w' v' (openS s).1.st.data ∧ TsV w.heap.size w' pv vs (openS s).2.1 ∧ ((v' :: pv :: vs).filterMap Value.ownBlock).Nodup ∧ Below w.heap.size w w' := by
  obtain ⟨data, p⟩ := s
  simp only at hv hp ⊢
  obtain ⟨va, cap, rfl, hl1, hl2, hz, _⟩ := id hv
  have HV := Lib.hid hv; have HL1 := Lib.hid hl1; have HL2 := Lib.hid hl2; have HZ := Lib.hid hz
  clear hv hl1 hl2 hz
  go_enter Tryz.func17, Tryz.ntmps17
  go_wp2_with fail
  refine (valid_any va data.length cap p _ (by have := HL1.out; have := HL2.out; unfold maxLen at *; omega)).mono ?_
  rintro e w1 ⟨rfl, hb1⟩
  have q1 : Blk w1 w.heap.size #[.slice va data.length cap, .int .i64 p] 28 := ((Blk.new w _ _).alloc _).below hb1 (by simp; omega)
  have r1 : Blk w1 (w.heap.size + 1) #[.slice none 0 0, .int .i64 0, .int .i64 0, .bool false] 32 := by
    have := Blk.new (w.alloc (.cells #[.slice va data.length cap, .int .i64 p] 28)) #[.slice none 0 0, .int .i64 0, .int .i64 0, .bool false] 32
    rw [World.size_alloc] at this
    exact this.below hb1 (by simp)
  obtain ⟨c0, c1, f0, f1⟩ := q1.two
  obtain ⟨d0, d1, d2, d3, g0, g1, g2, g3⟩ := r1.four
  have hz1 : w.heap.size + 1 < w1.heap.size := r1.lt
  have hz0 : w.heap.size < w1.heap.size := q1.lt
  have hz : K ≤ w1.heap.size := by omega
  have hq1 : Below w.heap.size w w1 := (((Below.refl _ w).alloc (Nat.le_refl _) _).alloc (by simp) _).trans (hb1.mono (by simp; omega))
  cases hvb : validB data.length p with
  | false =>
    have hr : Hid (openS ⟨data, p⟩ = (zLg, [], 2)) := by unfold Hid openS; rw [if_pos hvb]
    clear hvb
    go_wp2_with fail
    rw [hr.out]
    refine bodyPost_ret (v := .tuple #[.agg #[.slice none 0 0, .int .i64 0, .int .i64 0, .bool false], .slice none 0 0, .int .i64 2]) (by simp [results, Tryz.results17, go_sem, d0, d1, d2, d3]) rfl ⟨_, _, [], rfl, OwnB.nil _ _, ⟨rfl, World.ownsRow_nil _ _ _ _, fun i hi => absurd hi (Nat.not_lt_zero i)⟩, (List.nodup_nil : ([] : List Nat).Nodup), ?_⟩
    exact (((hq1.setCell (by simp) _).setCell (by simp) _).setCell (by simp) _).setCell (by simp) _
  | true =>
    have hr1 : Hid (¬ validB data.length p = false) := by unfold Hid; rw [hvb]; simp
    have hlen : data.length ≤ 2 ^ 20 := by unfold validB at hvb; simp at hvb; omega
    clear hvb
    go_wp2_with fail
    refine (scan_of _ data w1 (HV.out.below (hq1.mono hK) hz)).mono ?_
    rintro e w2 ⟨pv, rfl, hts, hb2⟩
    have q2 := q1.below hb2 hz0
    have r2 := r1.below hb2 hz1
    clear c0 c1 f0 f1 d0 d1 d2 d3 g0 g1 g2 g3
    obtain ⟨c0, c1, f0, f1⟩ := q2.two
    have hq2 : Below w.heap.size w w2 := hq1.trans (hb2.mono (by omega))
    go_wp2_with fail
    have hs2 : w1.heap.size ≤ w2.heap.size := hb2.size
    refine (cut_any K _ ⟨data, p⟩ _ w2 (HV.out.below (hq2.mono hK) (Nat.le_refl _)) (by omega) hp).mono ?_
    rintro e w3 ⟨v', rfl, ho3, hb3⟩
    have q3 := q2.below hb3 (by omega)
    have r3 := r2.below hb3 (by omega)
    clear c0 c1 f0 f1
    obtain ⟨c0, c1, f0, f1⟩ := q3.two
    obtain ⟨d0, d1, d2, d3, g0, g1, g2, g3⟩ := r3.four
    have hq3 : Below w.heap.size w w3 := hq2.trans (hb3.mono (by omega))
    obtain ⟨vs, hts2, hnd⟩ := hts.named
    have hlt := hts2.lt
    have hts3 := hts2.below hb3 (Nat.le_refl _)
    obtain ⟨cs, hcs⟩ : ∃ cs, cutS ⟨data, p⟩ (endOf (scanOf data)) = cs := ⟨_, rfl⟩
    have HCS := Lib.hid hcs
    rw [hcs] at ho3 ⊢
    clear hcs
    obtain ⟨⟨d', p'⟩, e'⟩ := cs
    simp only at ho3 ⊢
    obtain ⟨ra, rn, rc, rfl⟩ := ownBlock_of_OwnB ho3
    by_cases he : e' = 0
    · have hr : Hid (openS ⟨data, p⟩ = (⟨⟨d', p'⟩, (scanOf data).length, false⟩, scanOf data, 0)) := by unfold Hid openS; rw [if_neg hr1.out, HCS.out, if_neg (by simp [he])]
      have he' : (e' != (0 : Int)) = false := by simp [he]
      clear he
      have hpf : ∃ a cap, pv = .slice a (scanOf data).length cap := by
        rcases hts2.2.1.2 with ⟨rfl, h0⟩ | ⟨g, cap, cur, rfl, _⟩
        · exact ⟨none, 0, by rw [h0]⟩
        · exact ⟨_, _, rfl⟩
      obtain ⟨pa, pc, rfl⟩ := hpf
      go_wp2_with fail
      rw [hr.out]
      refine bodyPost_ret (v := .tuple #[.agg #[.slice ra rn rc, .int .i64 p', .int .i64 ((scanOf data).length : Nat), .bool false], .slice pa (scanOf data).length pc, .int .i64 0]) (by simp [results, Tryz.results17, go_sem, d0, d1, d2, d3]) rfl ⟨_, _, vs, rfl, ?_, ?_, ?_, ?_⟩
      · refine OwnB.mono (ho3.above (B := w.heap.size + 2) ?_ (by omega)) (by omega)
        exact ((((((Above.refl _ w3).set (by omega) _ _).set (by omega) _ _).set (by omega) _ _).set (by omega) _ _).set (by omega) _ _).set (by omega) _ _
      · refine TsV.mono (hts3.above (B := w.heap.size + 2) ?_ (by omega)) (by omega)
        exact ((((((Above.refl _ w3).set (by omega) _ _).set (by omega) _ _).set (by omega) _ _).set (by omega) _ _).set (by omega) _ _).set (by omega) _ _
      · rw [filterMap_cons_toList]
        exact nodup_cons_of hnd (fun b hb hm => by have := (ownsRow_cells ho3 hb).1; have := hlt b hm; omega)
      · exact (((((hq3.setCell (by simp) _).setCell (by simp) _).setCell (by simp) _).setCell (by simp) _).setCell (by simp) _).setCell (by simp) _
    · have hr : Hid (openS ⟨data, p⟩ = (zLg, [], e')) := by unfold Hid openS; rw [if_neg hr1.out, HCS.out, if_pos he]
      have he' : (e' != (0 : Int)) = true := by simp [he]
      clear he
      go_wp2_with fail
      rw [hr.out]
      refine bodyPost_ret (v := .tuple #[.agg #[.slice none 0 0, .int .i64 0, .int .i64 0, .bool false], .slice none 0 0, .int .i64 e']) (by simp [results, Tryz.results17, go_sem, d0, d1, d2, d3]) rfl ⟨_, _, [], rfl, OwnB.nil _ _, ⟨rfl, World.ownsRow_nil _ _ _ _, fun i hi => absurd hi (Nat.not_lt_zero i)⟩, (List.nodup_nil : ([] : List Nat).Nodup), ?_⟩
      exact (((((hq3.setCell (by simp) _).setCell (by simp) _).setCell (by simp) _).setCell (by simp) _).setCell (by simp) _).setCell (by simp) _
end Go.Proofs.YtkdlimigepkepaaGreat
