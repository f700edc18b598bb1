/- Package order: Depends. No conditions beyond the readings of the arguments. -/
import Derived.Test.YthbnbjigmgoldaaOList
namespace Go.Proofs.Ythbnbjigmgoldaa
open Go.RowKit
set_option linter.unusedVariables false

theorem deps_lt {p : Pl} {s : Str} : ∀ i ∈ deps p s, i < (names p).length := fun i hi => (mem_deps.1 hi).1

set_option maxRecDepth 100000 in
set_option maxHeartbeats 1000000 in
theorem depends_any (K : Nat) (p : Pl) (nm : ByteArray) (vd vt vc : Value) (s : Str) (w : World) (h : PlanIs K w vd vc p) (hK : K ≤ w.heap.size) (hbig : p.size ≤ 2 ^ 38) (hs : s.length ≤ maxLen) :
    Calls Try.prog 15 #[.agg #[.string nm, vd, vt, vc], S s] w fun e w' => ∃ x, e = .returned x ∧ OwnS w.heap.size w' x (depends p s) ∧ Below w.heap.size w w' := by
  obtain ⟨B0, hB0⟩ : ∃ B0, w.heap.size = B0 := ⟨_, rfl⟩
  rw [hB0] at hK ⊢
  obtain ⟨W, hW⟩ : ∃ W, w.alloc (.cells #[.string nm, vd, vt, vc] 26) = W := ⟨_, rfl⟩
  have hb : Below B0 w W := by rw [← hW, ← hB0]; exact (Below.refl _ w).alloc (Nat.le_refl _) _
  have hsz : W.heap.size = B0 + 1 := by rw [← hW, ← hB0]; simp
  obtain ⟨dg, hdg, _⟩ := id h.1
  obtain ⟨da, dcap, rfl, _⟩ := id hdg
  obtain ⟨cg, hcg, _⟩ := id h.2
  obtain ⟨ca, ccap, rfl, _⟩ := id hcg
  have hg := graph_any K p nm _ vt _ W (h.below hb hK (Nat.le_refl _)) (by omega) hbig
  have HB := Lib.hid hB0
  have HW := Lib.hid hW
  clear hB0 hW hdg hcg
  go_enter Try.func15, Try.ntmps15
  go_wp2_with fail
  simp only [HB.out]
  rw [HW.out]
  refine hg.mono ?_
  rintro e w2 ⟨nv, b, rfl, hgr, hb2⟩
  have hb02 : Below B0 w w2 := hb.trans (hb2.mono (by omega))
  have hs2 := hb2.size
  obtain ⟨W3, hW3⟩ : ∃ W3, w2.alloc (.cells #[nv, .map (some b)] 66) = W3 := ⟨_, rfl⟩
  have hb3 : Below w2.heap.size w2 W3 := hW3 ▸ (Below.refl _ w2).alloc (Nat.le_refl _) _
  have hgr3 := hgr.below hb3 (Nat.le_refl _) (Nat.le_refl _)
  have q3 : Blk W3 w2.heap.size #[nv, .map (some b)] 66 := hW3 ▸ Blk.new w2 _ _
  obtain ⟨v, hl, hnv⟩ := hgr3.look s hs
  have hst := hgr3.1
  have hs3 : W3.heap.size = w2.heap.size + 1 := by rw [← hW3]; simp
  rw [← hW3] at hl
  obtain ⟨va, vcap, rfl, _, _⟩ := hnv.form
  obtain ⟨na, ncap, rfl, _, _⟩ := hst.form
  have hlist := list_any w2.heap.size (.slice na (names p).length ncap) (.map (some b)) (names p) (.slice va (deps p s).length vcap) (deps p s) W3 hst hnv (by omega) deps_lt (by
    have := deps_length p s; have := names_length p; unfold Pl.size at hbig; omega)
  have HW3 := Lib.hid hW3
  clear hW3 hg hgr
  go_wp2_with fail
  rw [HW3.out]
  refine hlist.mono ?_
  rintro e w4 ⟨x, rfl, hown, hb4⟩
  go_wp2_with fail
  go_ret
  refine ⟨x, rfl, hown.mono (by omega), ?_⟩
  exact (hb02.trans (hb3.mono (by omega))).trans (hb4.mono (by omega))
end Go.Proofs.Ythbnbjigmgoldaa
