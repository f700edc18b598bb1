/- The reference of layer 15: Names. No conditions beyond the readings of the arguments. -/
import Derived.Test.YthbnbjigmgoldaaOrAdd
import Derived.Test.YthbnbjigmgoldaaONames
namespace Go.Proofs.Ythbnbjigmgoldaa
open Go.RowKit
set_option linter.unusedVariables false

set_option maxRecDepth 100000 in
set_option maxHeartbeats 1000000 in
theorem rnames_any (K : Nat) (p : Pl) (nm : ByteArray) (vd vt vc : Value) (w : World) (h : Defs K w vd p.defs) (hK : K ≤ w.heap.size) (hbig : p.defs.length ≤ 2 ^ 38) :
    Calls Try.prog 21 #[.agg #[.string nm, vd, vt, vc]] w fun e w' => ∃ x, e = .returned x ∧ Strs w'.heap.size w' x (names p) ∧ Below w.heap.size w w' := by
  obtain ⟨g, hg, hgi⟩ := h
  obtain ⟨va, vcap, rfl, hvl, hvm⟩ := id hg.form
  unfold maxLen at hvm
  obtain ⟨B0, hB0⟩ : ∃ B0, w.heap.size = B0 := ⟨_, rfl⟩
  have HB := Lib.hid hB0
  rw [hB0] at hK ⊢
  have HN : Hid (names p = dedup (defL p.defs)) := rfl
  obtain ⟨l, hl⟩ : ∃ l, p.defs = l := ⟨_, rfl⟩
  rw [hl] at hg hgi hbig HN hvl ⊢
  obtain ⟨W, hW⟩ : ∃ W, w.alloc (.cells #[.string nm, .slice va l.length vcap, vt, vc] 26) = W := ⟨_, rfl⟩
  have hb : Below B0 w W := by rw [← hW, ← hB0]; exact (Below.refl _ w).alloc (Nat.le_refl _) _
  have q : Blk W B0 #[.string nm, .slice va l.length vcap, vt, vc] 26 := by rw [← hW, ← hB0]; exact Blk.new w _ _
  have HW := Lib.hid hW
  clear hB0 hW hl
  go_enter Try.func21, Try.ntmps21
  go_wp2_with fail
  simp only [HB.out]
  rw [HW.out]
  go_loopw [3, 4] (fun lv i wr => ∃ (k : Nat), k ≤ l.length ∧ i = .int .i64 k ∧ Strs wr.heap.size wr lv (dedup (defL (l.take k))) ∧ Below B0 w wr ∧ Blk wr B0 #[.string nm, .slice va l.length vcap, vt, vc] 26) (fun _ i _ => l.length - (intOf i).toNat)
  case atStart => exact ⟨0, Nat.zero_le _, rfl, (OwnS.nil 0 W).strs, hb, q⟩
  case round =>
    obtain ⟨k, hk, rfl, hst, hbw, q⟩ := hrel
    obtain ⟨d0, d1, d2, d3⟩ := q.four
    have hB := q.lt
    by_cases hlt : k < l.length
    · obtain ⟨b, o, cap, he, hlc, hmx, hbK, hc⟩ := hg.pos (by omega)
      simp only [Value.slice.injEq, true_and] at he
      obtain ⟨rfl, rfl⟩ := he
      have hck := hc k hlt
      obtain ⟨e0, e1, ⟨kd, e2⟩, e3⟩ := hgi k hlt
      have c0 := hck 0 (by omega)
      have c2 := hck 2 (by omega)
      rw [e0] at c0; rw [e3] at c2
      rw [← hbw.cell (p := ⟨b, o + (k * 3 + 0), none⟩) (by simp; omega)] at c0
      rw [← hbw.cell (p := ⟨b, o + (k * 3 + 2), none⟩) (by simp; omega)] at c2
      simp only [Nat.add_zero, ← Nat.add_assoc] at c0 c2
      have hsn := dedup_take_snoc l k hlt
      obtain ⟨x, hx⟩ : ∃ x, l[k]?.getD ([], false) = x := ⟨_, rfl⟩
      rw [hx] at c0 c2 hsn e1
      obtain ⟨s, fct⟩ := x
      dsimp only at c0 c2 e1
      have HSN := Lib.hid hsn
      have hlen : (dedup (defL (l.take k))).length ≤ 2 ^ 39 := by
        refine Nat.le_trans (dedup_length_le _) ?_
        unfold defL
        rw [List.length_map]
        refine Nat.le_trans (List.length_filter_le _ _) ?_
        rw [List.length_take]; omega
      clear hck e0 e2 e3 hsn hx hc
      cases fct with
      | true =>
        go_wp2_with fail
        refine ⟨⟨k + 1, by omega, by go_num, ?_, hbw, q⟩, by simp [intOf]; omega⟩
        rw [HSN.out, defL_snoc_no]; exact hst
      | false =>
        have hs1 : Hid (dedup (defL (l.take (k + 1))) = addS (dedup (defL (l.take k))) s) := by unfold Hid; rw [HSN.out, defL_snoc_yes, dedup_snoc]
        have ha := radd_any wr.heap.size u3 _ s wr hst e1 (Nat.le_refl _) hlen
        obtain ⟨la, lc, rfl, _, _⟩ := hst.form
        go_wp2_with fail
        refine ha.mono ?_
        rintro e w5 ⟨x5, rfl, hx5, b5⟩
        obtain ⟨xa, xc, rfl, _, _⟩ := hx5.form
        have hs5 := b5.size
        clear ha
        go_wp2_with fail
        refine ⟨⟨k + 1, by omega, by go_num, ?_, hbw.trans (b5.mono (by omega)), q.below b5 hB⟩, by simp [intOf]; omega⟩
        rw [hs1.out]; exact hx5
    · obtain rfl : k = l.length := by omega
      rw [List.take_length] at hst
      obtain ⟨la, lc, rfl, _, _⟩ := hst.form
      go_wp2_with fail
      go_ret
      exact ⟨_, rfl, by rw [HN.out]; exact hst, hbw⟩
end Go.Proofs.Ythbnbjigmgoldaa
