/- Package journal: Right, Write, Cut, Open, Add, Restore. No conditions beyond the readings of the arguments. -/
import Derived.Test.YtkdlimigepkepaaGreatJSpec
namespace Go.Proofs.YtkdlimigepkepaaGreat
open Go.RowKit
set_option linter.unusedVariables false

theorem bcell {W w1 : World} (hb : Below W.heap.size W w1) : (∀ b o, b < W.heap.size → w1.cell? ⟨b, o, none⟩ = W.cell? ⟨b, o, none⟩) ∧ (∀ b o, b < W.heap.size → w1.frozen? ⟨b, o, none⟩ = W.frozen? ⟨b, o, none⟩) :=
  ⟨fun b o h => hb.cell (p := ⟨b, o, none⟩) h, fun b o h => hb.frozen (p := ⟨b, o, none⟩) h⟩

theorem bcellB {B : Nat} {W w1 : World} (hb : Below B W w1) : (∀ b o, b < B → w1.cell? ⟨b, o, none⟩ = W.cell? ⟨b, o, none⟩) ∧ (∀ b o, b < B → w1.frozen? ⟨b, o, none⟩ = W.frozen? ⟨b, o, none⟩) :=
  ⟨fun b o h => hb.cell (p := ⟨b, o, none⟩) h, fun b o h => hb.frozen (p := ⟨b, o, none⟩) h⟩

theorem OwnB.setBelow {base : Nat} {w : World} {v : Value} {l : List UInt8} (h : OwnB base w v l) {b i : Nat} (hb : b < base) (x : Value) : OwnB base (w.setCell ⟨b, i, none⟩ x) v l := h.keptA (grownBy_setCell w b i x) (Apart.lt hb)

/-- Of the blocks that lay there from B on nothing has turned. -/
def Above (B : Nat) (w w' : World) : Prop := w.heap.size ≤ w'.heap.size ∧ ∀ k, B ≤ k → k < w.heap.size → w'.heap[k]? = w.heap[k]?
theorem Above.refl (B : Nat) (w : World) : Above B w w := ⟨Nat.le_refl _, fun _ _ _ => rfl⟩
theorem Above.set {B : Nat} {w w' : World} (h : Above B w w') {b : Nat} (hb : b < B) (i : Nat) (x : Value) : Above B w (w'.setCell ⟨b, i, none⟩ x) :=
  ⟨by simpa [World.setCell] using h.1, fun k hk hlt => (Below.heap_setCell _ _ _ _ (by simp; omega)).trans (h.2 k hk hlt)⟩
theorem Above.alloc {B : Nat} {w w' : World} (h : Above B w w') (o : Obj) : Above B w (w'.alloc o) :=
  ⟨by have := h.1; simp; omega, fun k hk hlt => (Below.heap_alloc _ _ _ (by have := h.1; omega)).trans (h.2 k hk hlt)⟩
theorem ownsRow_above {B base e size n : Nat} {w w' : World} {v : Value} {xs : List Value} (h : w.ownsRow base e size v n xs) (ha : Above B w w') (hB : B ≤ base) : w'.ownsRow base e size v n xs := by
  refine ⟨h.1, ?_⟩
  rcases h.2 with hn | ⟨g, cap, cur, rfl, hbg, hg, rest⟩
  · exact .inl hn
  · exact .inr ⟨g, cap, cur, rfl, hbg, (ha.2 g (by omega) (Array.getElem?_eq_some_iff.1 hg).1).trans hg, rest⟩
theorem OwnB.above {B base : Nat} {w w' : World} {v : Value} {l : List UInt8} (h : OwnB base w v l) (ha : Above B w w') (hB : B ≤ base) : OwnB base w' v l := ownsRow_above h ha hB

theorem scan_of (v : Value) (l : List UInt8) (w : World) (h : Byts w.heap.size w v l) :
    Calls Tryz.prog 20 #[v] w fun e w' => ∃ v', e = .returned (.tuple #[v', .int .i64 (endOf (scanOf l))]) ∧ OwnTs w.heap.size w' v' (scanOf l) ∧ Below w.heap.size w w' :=
  (scan_any v l w h).mono fun e w' ⟨v', ps, h1, h2, h3, h4⟩ => by
    have := h1.unique (scanOf_spec l)
    subst this
    exact ⟨v', h2, h3, h4⟩

set_option maxRecDepth 100000 in
set_option maxHeartbeats 1000000 in
theorem right_any (K : Nat) (v : Value) (l : Lg) (w : World) (hv : Byts K w v l.st.data) (hK : K ≤ w.heap.size) :
    Calls Tryz.prog 34 #[.agg #[v, .int .i64 l.st.power, .int .i64 l.count, .bool l.down]] w fun e w' => e = .returned (.bool (rightB l)) ∧ Below w.heap.size w w' := by
  obtain ⟨⟨data, p⟩, c, d⟩ := l
  simp only at hv ⊢
  obtain ⟨va, cap, rfl, hl1, hl2, hz, _⟩ := id hv
  have HV := Lib.hid hv; have HL1 := Lib.hid hl1; have HL2 := Lib.hid hl2; have HZ := Lib.hid hz
  clear hv hl1 hl2 hz
  go_enter Tryz.func34, Tryz.ntmps34
  go_wp2_with fail
  refine (valid_any va data.length cap p _ (by have := HL1.out; have := HL2.out; unfold maxLen at *; omega)).mono ?_
  rintro e w1 ⟨rfl, hb1⟩
  obtain ⟨hc, hf⟩ := bcell hb1
  have hz1 : w.heap.size < w1.heap.size := by have := hb1.size; simp at this; omega
  have hq1 : Below w.heap.size w w1 := ((Below.refl _ w).alloc (Nat.le_refl _) _).trans (hb1.mono (by simp))
  cases hvb : validB data.length p with
  | false =>
    have hr : Hid (rightB ⟨⟨data, p⟩, c, d⟩ = false) := by unfold Hid rightB; simp [hvb]
    clear hvb
    go_wp2_with fail
    go_ret
    exact ⟨by rw [hr.out]; rfl, hq1⟩
  | true =>
    have hr : Hid (rightB ⟨⟨data, p⟩, c, d⟩ = (decide (c = ((scanOf data).length : Int)) && (d || decide (endOf (scanOf data) = data.length)))) := by unfold Hid rightB; simp [hvb]
    clear hvb
    go_wp2_with fail
    refine (scan_of _ data w1 (HV.out.below (hq1.mono hK) (by omega))).mono ?_
    rintro e w2 ⟨v', rfl, hts, hb2⟩
    obtain ⟨hc2, hf2⟩ := bcell hb2
    have hq2 : Below w.heap.size w w2 := hq1.trans (hb2.mono (by omega))
    obtain ⟨vs, _, ⟨hlen, hform⟩, _, _⟩ := hts
    have hv' : ∃ a cap, v' = .slice a (scanOf data).length cap := by
      rcases hform with ⟨rfl, h0⟩ | ⟨g, cap, cur, rfl, _⟩
      · exact ⟨none, 0, by rw [h0]⟩
      · exact ⟨_, _, rfl⟩
    obtain ⟨a', cap', rfl⟩ := hv'
    clear hform hlen
    obtain ⟨ps, hps⟩ : ∃ ps, scanOf data = ps := ⟨_, rfl⟩
    have HP := Lib.hid hps
    rw [hps]
    clear hps
    by_cases h1 : c = (ps.length : Int)
    · have h1' : (c == (ps.length : Int)) = true := by simp [h1]
      have hr' : Hid (rightB ⟨⟨data, p⟩, c, d⟩ = (d || decide (endOf ps = data.length))) := by unfold Hid; rw [hr.out, HP.out]; simp [h1]
      clear h1 hr
      cases d with
      | true =>
        have hr2 : Hid (rightB ⟨⟨data, p⟩, c, true⟩ = true) := by unfold Hid; rw [hr'.out]; rfl
        clear hr'
        go_wp2_with fail
        go_ret
        exact ⟨by rw [hr2.out]; rfl, hq2⟩
      | false =>
        have hr2 : Hid (rightB ⟨⟨data, p⟩, c, false⟩ = ((endOf ps : Int) == (data.length : Int))) := by
          unfold Hid; rw [hr'.out, Bool.false_or, Bool.eq_iff_iff]; simp; omega
        clear hr'
        go_wp2_with fail
        go_ret
        exact ⟨by rw [hr2.out]; rfl, hq2⟩
    · have h1' : (c == (ps.length : Int)) = false := by simp [h1]
      have hr2 : Hid (rightB ⟨⟨data, p⟩, c, d⟩ = false) := by unfold Hid; rw [hr.out, HP.out]; simp [h1]
      clear h1 hr
      go_wp2_with fail
      go_ret
      exact ⟨by rw [hr2.out]; rfl, hq2⟩
/-- A store as a value. -/
def StV (v : Value) (p : Int) : Value := .agg #[v, .int .i64 p]

set_option maxRecDepth 100000 in
set_option maxHeartbeats 1000000 in
theorem write_any (K : Nat) (v vd : Value) (s : St) (d : List UInt8) (w : World) (hv : Byts K w v s.data) (hd : Byts K w vd d) (hK : K ≤ w.heap.size) (hp : s.power ≤ 2 ^ 63 - 1) :
    Calls Tryz.prog 12 #[.agg #[v, .int .i64 s.power], vd] w fun e w' => ∃ v', e = .returned (.tuple #[.agg #[v', .int .i64 (writeS s d).1.power], .int .i64 (writeS s d).2]) ∧ OwnB w.heap.size w' v' (writeS s d).1.data ∧ Below w.heap.size w w' := by
  obtain ⟨data, p⟩ := s
  simp only at hv hp ⊢
  obtain ⟨va, cap, rfl, hl1, hl2, hz, _⟩ := id hv
  obtain ⟨da, dcap, rfl, hm1, hm2, hy, _⟩ := id hd
  have HV := Lib.hid hv; have HL1 := Lib.hid hl1; have HL2 := Lib.hid hl2; have HZ := Lib.hid hz
  have HD := Lib.hid hd; have HM1 := Lib.hid hm1; have HM2 := Lib.hid hm2; have HY := Lib.hid hy
  have hmd : d.length ≤ 2 ^ 63 - 1 := by unfold maxLen at hm2; omega
  clear hv hl1 hl2 hz hd hm1 hm2 hy
  go_enter Tryz.func12, Tryz.ntmps12
  go_wp2_with fail
  refine (valid_any va data.length cap p _ (by have := HL1.out; have := HL2.out; unfold maxLen at *; omega)).mono ?_
  rintro e w1 ⟨rfl, hb1⟩
  have q1 : Blk w1 w.heap.size #[.slice va data.length cap, .int .i64 p] 28 := ((Blk.new w _ _).alloc _).below hb1 (by simp; omega)
  have r1 : Blk w1 (w.heap.size + 1) #[.slice none 0 0, .int .i64 0] 28 := by
    have := Blk.new (w.alloc (.cells #[.slice va data.length cap, .int .i64 p] 28)) #[.slice none 0 0, .int .i64 0] 28
    rw [World.size_alloc] at this
    exact this.below hb1 (by simp)
  obtain ⟨c0, c1, f0, f1⟩ := q1.two
  obtain ⟨d0, d1, g0, g1⟩ := r1.two
  have hz1 : w.heap.size + 1 < w1.heap.size := r1.lt
  have hz0 : w.heap.size < w1.heap.size := q1.lt
  have hz : K ≤ w1.heap.size := by omega
  have hq1 : Below w.heap.size w w1 := (((Below.refl _ w).alloc (Nat.le_refl _) _).alloc (by simp) _).trans (hb1.mono (by simp; omega))
  cases hvb : validB data.length p with
  | false =>
    have hr : Hid (writeS ⟨data, p⟩ d = (zSt, 2)) := by unfold Hid writeS; rw [if_pos hvb]
    clear hvb
    go_wp2_with fail
    rw [hr.out]
    refine bodyPost_ret (v := .tuple #[.agg #[.slice none 0 0, .int .i64 0], .int .i64 2]) (by simp [results, Tryz.results12, go_sem, d0, d1]) rfl ⟨_, rfl, OwnB.nil _ _, ?_⟩
    exact (hq1.setCell (by simp) _).setCell (by simp) _
  | true =>
    have hlen : data.length ≤ 2 ^ 20 := by unfold validB at hvb; simp at hvb; omega
    have hp1 : -1 ≤ p := by unfold validB at hvb; simp at hvb; omega
    have hr1 : Hid (¬ validB data.length p = false) := by unfold Hid; rw [hvb]; simp
    clear hvb
    by_cases h2 : 1048576 - data.length < d.length
    · have hr : Hid (writeS ⟨data, p⟩ d = (zSt, 4)) := by unfold Hid writeS; rw [if_neg hr1.out, if_pos h2]
      have t : decide ((1048576 : Int) - (data.length : Int) < (d.length : Int)) = true := by simp; omega
      clear h2
      go_wp2_with fail
      rw [hr.out]
      refine bodyPost_ret (v := .tuple #[.agg #[.slice none 0 0, .int .i64 0], .int .i64 4]) (by simp [results, Tryz.results12, go_sem, d0, d1]) rfl ⟨_, rfl, OwnB.nil _ _, ?_⟩
      exact (hq1.setCell (by simp) _).setCell (by simp) _
    have t2 : decide ((1048576 : Int) - (data.length : Int) < (d.length : Int)) = false := by simp; omega
    have hr2 := Lib.hid h2
    have hd2 : d.length ≤ 2 ^ 20 := by omega
    clear h2
    have hv1 := HV.out.below (hq1.mono hK) (Nat.le_refl _)
    have hd1 := HD.out.below (hq1.mono hK) (Nat.le_refl _)
    by_cases h3 : p < 0
    · have hr : Hid (writeS ⟨data, p⟩ d = (⟨data ++ d, p⟩, 0)) := by unfold Hid writeS; rw [if_neg hr1.out, if_neg hr2.out, if_pos h3]
      go_wp2_with fail
      refine (own_any K _ data w1 hv1 (by omega)).mono ?_
      rintro e w2 ⟨v2, rfl, ho2, hg2⟩
      have hb2 : Below w1.heap.size w1 w2 := below_of_grown hg2 (fun r hr => nomatch hr) (by simp)
      have hs2 : w1.heap.size ≤ w2.heap.size := hb2.size
      have hd2' := hd1.below (hb2.mono hz) (Nat.le_refl _)
      have hbnd : data.length + (d).length ≤ 2 ^ 46 := by omega
      have ho2 : OwnB w1.heap.size w2 v2 data := ho2.mono (by simp)
      have q2 := q1.below hb2 hz0
      have r2 := r1.below hb2 hz1
      clear c0 c1 f0 f1 d0 d1 g0 g1
      obtain ⟨c0, c1, f0, f1⟩ := q2.two
      have HO := Lib.hid ho2
      go_wp2_with (at_builtin; refine wpList_append_B rfl (.tmp 44) (.tmp 45) rfl rfl rfl HO.out hd2' hbnd hs2 ?_; intro v3 w3 ho3 hg3 hat3; have hob3 : ∀ r, v2.ownBlock = some r → w1.heap.size ≤ r := fun r hr => (ownsRow_cells HO.out hr).1; have hb3 : Below w1.heap.size w2 w3 := below_of_grown hg3 hob3 hs2; have q3 := q2.below hb3 hz0; have r3 := r2.below hb3 hz1; obtain ⟨c0, c1, f0, f1⟩ := q3.two; obtain ⟨d0, d1, g0, g1⟩ := r3.two; obtain ⟨ra, rn, rc, rfl⟩ := ownBlock_of_OwnB ho3; clear hob3)
      rw [hr.out]
      refine bodyPost_ret (v := .tuple #[.agg #[.slice ra rn rc, .int .i64 p], .int .i64 0]) (by simp [results, Tryz.results12, go_sem, d0, d1]) rfl ⟨_, rfl, ?_, ?_⟩
      · exact (((ho3.setBelow (by omega) _).setBelow (by omega) _).setBelow (by omega) _).mono (by omega)
      · exact (((hq1.trans ((hb2.trans hb3).mono (by omega))).setCell (by simp) _).setCell (by simp) _).setCell (by simp) _
    by_cases h4 : p < (d.length : Int)
    · have hr : Hid (writeS ⟨data, p⟩ d = (⟨data ++ d.take p.toNat, 0⟩, 370)) := by unfold Hid writeS; rw [if_neg hr1.out, if_neg hr2.out, if_neg h3, if_pos h4]
      obtain ⟨q, rfl⟩ : ∃ q : Nat, p = q := ⟨p.toNat, by omega⟩
      have hcd : ¬ dcap = 0 := by have := HM1.out; omega
      have hsub := hd1.take q (by omega)
      have hmc : (d.length : Int) ≤ (dcap : Int) := by have := HM1.out; omega
      go_wp2_with fail
      obtain ⟨w1', hw1'⟩ : ∃ w1', w1.setCell ⟨w.heap.size, 1, none⟩ (Value.int IntKind.i64 (0)) = w1' := ⟨_, rfl⟩
      have q1' : Blk w1' w.heap.size #[.slice va data.length cap, .int .i64 (0)] 28 := by rw [← hw1']; exact q1.set _
      have r1' : Blk w1' (w.heap.size + 1) #[.slice none 0 0, .int .i64 0] 28 := by rw [← hw1']; exact r1.other (by omega) _
      have hbs : Below w.heap.size w1 w1' := by rw [← hw1']; exact (Below.refl w.heap.size w1).setCell (p := ⟨w.heap.size, 1, none⟩) (Nat.le_refl _) _
      have hsz' : w1'.heap.size = w1.heap.size := by rw [← hw1']; simp [World.setCell]
      have hv1' := hv1.below (hbs.mono hK) (Nat.le_refl _)
      have hd1' := hsub.below (hbs.mono hK) (Nat.le_refl _)
      have hq1' := hq1.trans hbs
      rw [hw1']
      clear c0 c1 f0 f1 d0 d1 g0 g1 q1 r1 hw1'
      obtain ⟨c0, c1, f0, f1⟩ := q1'.two
      obtain ⟨d0, d1, g0, g1⟩ := r1'.two
      refine (own_any K _ data w1' hv1' (by omega)).mono ?_
      rintro e w2 ⟨v2, rfl, ho2, hg2⟩
      have hb2 : Below w1.heap.size w1' w2 := below_of_grown hg2 (fun r hr => nomatch hr) (by omega)
      have hs2 : w1.heap.size ≤ w2.heap.size := Nat.le_trans (by omega) hb2.size
      have hd2' := hd1'.below (hb2.mono hz) (Nat.le_refl _)
      have hbnd : data.length + (d.take q).length ≤ 2 ^ 46 := by rw [List.length_take]; omega
      have ho2 : OwnB w1.heap.size w2 v2 data := ho2.mono (by omega)
      have q2 := q1'.below hb2 hz0
      have r2 := r1'.below hb2 hz1
      clear c0 c1 f0 f1 d0 d1 g0 g1
      obtain ⟨c0, c1, f0, f1⟩ := q2.two
      have HO := Lib.hid ho2
      go_wp2_with (at_builtin; refine wpList_append_B rfl (.tmp 44) (.tmp 45) rfl rfl rfl HO.out hd2' hbnd hs2 ?_; intro v3 w3 ho3 hg3 hat3; have hob3 : ∀ r, v2.ownBlock = some r → w1.heap.size ≤ r := fun r hr => (ownsRow_cells HO.out hr).1; have hb3 : Below w1.heap.size w2 w3 := below_of_grown hg3 hob3 hs2; have q3 := q2.below hb3 hz0; have r3 := r2.below hb3 hz1; obtain ⟨c0, c1, f0, f1⟩ := q3.two; obtain ⟨d0, d1, g0, g1⟩ := r3.two; obtain ⟨ra, rn, rc, rfl⟩ := ownBlock_of_OwnB ho3; clear hob3)
      rw [hr.out]
      refine bodyPost_ret (v := .tuple #[.agg #[.slice ra rn rc, .int .i64 (0)], .int .i64 370]) (by simp [results, Tryz.results12, go_sem, d0, d1]) rfl ⟨_, rfl, ?_, ?_⟩
      · exact (((ho3.setBelow (by omega) _).setBelow (by omega) _).setBelow (by omega) _).mono (by omega)
      · exact (((hq1'.trans ((hb2.trans hb3).mono (by omega))).setCell (by simp) _).setCell (by simp) _).setCell (by simp) _
    · have hr : Hid (writeS ⟨data, p⟩ d = (⟨data ++ d, p - d.length⟩, 0)) := by unfold Hid writeS; rw [if_neg hr1.out, if_neg hr2.out, if_neg h3, if_neg h4]
      go_wp2_with fail
      obtain ⟨w1', hw1'⟩ : ∃ w1', w1.setCell ⟨w.heap.size, 1, none⟩ (Value.int IntKind.i64 (p - d.length)) = w1' := ⟨_, rfl⟩
      have q1' : Blk w1' w.heap.size #[.slice va data.length cap, .int .i64 (p - d.length)] 28 := by rw [← hw1']; exact q1.set _
      have r1' : Blk w1' (w.heap.size + 1) #[.slice none 0 0, .int .i64 0] 28 := by rw [← hw1']; exact r1.other (by omega) _
      have hbs : Below w.heap.size w1 w1' := by rw [← hw1']; exact (Below.refl w.heap.size w1).setCell (p := ⟨w.heap.size, 1, none⟩) (Nat.le_refl _) _
      have hsz' : w1'.heap.size = w1.heap.size := by rw [← hw1']; simp [World.setCell]
      have hv1' := hv1.below (hbs.mono hK) (Nat.le_refl _)
      have hd1' := hd1.below (hbs.mono hK) (Nat.le_refl _)
      have hq1' := hq1.trans hbs
      rw [hw1']
      clear c0 c1 f0 f1 d0 d1 g0 g1 q1 r1 hw1'
      obtain ⟨c0, c1, f0, f1⟩ := q1'.two
      obtain ⟨d0, d1, g0, g1⟩ := r1'.two
      refine (own_any K _ data w1' hv1' (by omega)).mono ?_
      rintro e w2 ⟨v2, rfl, ho2, hg2⟩
      have hb2 : Below w1.heap.size w1' w2 := below_of_grown hg2 (fun r hr => nomatch hr) (by omega)
      have hs2 : w1.heap.size ≤ w2.heap.size := Nat.le_trans (by omega) hb2.size
      have hd2' := hd1'.below (hb2.mono hz) (Nat.le_refl _)
      have hbnd : data.length + (d).length ≤ 2 ^ 46 := by omega
      have ho2 : OwnB w1.heap.size w2 v2 data := ho2.mono (by omega)
      have q2 := q1'.below hb2 hz0
      have r2 := r1'.below hb2 hz1
      clear c0 c1 f0 f1 d0 d1 g0 g1
      obtain ⟨c0, c1, f0, f1⟩ := q2.two
      have HO := Lib.hid ho2
      go_wp2_with (at_builtin; refine wpList_append_B rfl (.tmp 44) (.tmp 45) rfl rfl rfl HO.out hd2' hbnd hs2 ?_; intro v3 w3 ho3 hg3 hat3; have hob3 : ∀ r, v2.ownBlock = some r → w1.heap.size ≤ r := fun r hr => (ownsRow_cells HO.out hr).1; have hb3 : Below w1.heap.size w2 w3 := below_of_grown hg3 hob3 hs2; have q3 := q2.below hb3 hz0; have r3 := r2.below hb3 hz1; obtain ⟨c0, c1, f0, f1⟩ := q3.two; obtain ⟨d0, d1, g0, g1⟩ := r3.two; obtain ⟨ra, rn, rc, rfl⟩ := ownBlock_of_OwnB ho3; clear hob3)
      rw [hr.out]
      refine bodyPost_ret (v := .tuple #[.agg #[.slice ra rn rc, .int .i64 (p - d.length)], .int .i64 0]) (by simp [results, Tryz.results12, go_sem, d0, d1]) rfl ⟨_, rfl, ?_, ?_⟩
      · exact (((ho3.setBelow (by omega) _).setBelow (by omega) _).setBelow (by omega) _).mono (by omega)
      · exact (((hq1'.trans ((hb2.trans hb3).mono (by omega))).setCell (by simp) _).setCell (by simp) _).setCell (by simp) _
end Go.Proofs.YtkdlimigepkepaaGreat
