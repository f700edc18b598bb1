/- Package order: Order. No conditions beyond the readings of the arguments. -/
import Derived.Test.YthbnbjigmgoldaaODepends
import Derived.Test.YthbnbjigmgoldaaOTake
namespace Go.Proofs.Ythbnbjigmgoldaa
open Go.RowKit
set_option linter.unusedVariables false

theorem deps_nodup (p : Pl) (s : Str) : (deps p s).Nodup := List.Pairwise.filter _ List.nodup_range
theorem takenP_lt (p : Pl) : ∀ i ∈ takenP p, i < (names p).length := (greedy_taken _ _).lt
theorem takenP_length (p : Pl) : (takenP p).length ≤ (names p).length := (greedy_taken _ _).length

set_option maxRecDepth 100000 in
set_option maxHeartbeats 1000000 in
theorem order_any (K : Nat) (p : Pl) (nm : ByteArray) (vd vt vc : Value) (w : World) (h : PlanIs K w vd vc p) (hK : K ≤ w.heap.size) (hbig : p.size ≤ 2 ^ 38) :
    Calls Try.prog 13 #[.agg #[.string nm, vd, vt, vc]] w fun e w' => ∃ x, e = .returned (.tuple #[x, .int .i64 (orderE p)]) ∧ OwnS w.heap.size w' x (orderL p) ∧ Below w.heap.size w w' := by
  obtain ⟨B0, hB0⟩ : ∃ B0, w.heap.size = B0 := ⟨_, rfl⟩
  rw [hB0] at hK ⊢
  obtain ⟨W, hW⟩ : ∃ W, w.alloc (.cells #[.string nm, vd, vt, vc] 26) = W := ⟨_, rfl⟩
  have hb : Below B0 w W := by rw [← hW, ← hB0]; exact (Below.refl _ w).alloc (Nat.le_refl _) _
  have hsz : W.heap.size = B0 + 1 := by rw [← hW, ← hB0]; simp
  obtain ⟨dg, hdg, _⟩ := id h.1
  obtain ⟨da, dcap, rfl, _⟩ := id hdg
  obtain ⟨cg, hcg, _⟩ := id h.2
  obtain ⟨ca, ccap, rfl, _⟩ := id hcg
  have hg := graph_any K p nm _ vt _ W (h.below hb hK (Nat.le_refl _)) (by omega) hbig
  have HB := Lib.hid hB0
  have HW := Lib.hid hW
  have hnb : (names p).length ≤ 2 ^ 38 := by have := names_length p; unfold Pl.size at hbig; omega
  clear hB0 hW hdg hcg
  go_enter Try.func13, Try.ntmps13
  go_wp2_with fail
  simp only [HB.out]
  rw [HW.out]
  refine hg.mono ?_
  rintro e w2 ⟨nv, b, rfl, hgr, hb2⟩
  have hb02 : Below B0 w w2 := hb.trans (hb2.mono (by omega))
  have hs2 := hb2.size
  obtain ⟨W3, hW3⟩ : ∃ W3, w2.alloc (.cells #[nv, .map (some b)] 66) = W3 := ⟨_, rfl⟩
  have hb3 : Below w2.heap.size w2 W3 := hW3 ▸ (Below.refl _ w2).alloc (Nat.le_refl _) _
  have hgr3 := hgr.below hb3 (Nat.le_refl _) (Nat.le_refl _)
  have hst := hgr3.1
  have q3 : Blk W3 w2.heap.size #[nv, .map (some b)] 66 := hW3 ▸ Blk.new w2 _ _
  have hs3 : W3.heap.size = w2.heap.size + 1 := by rw [← hW3]; simp
  obtain ⟨na, ncap, rfl, hn1, hn2⟩ := hst.form
  have htk := take_any w2.heap.size _ b (names p) (deps p) (gD p) W3 hgr3 (by omega) rfl (fun s => deps_lt) (deps_nodup p) hnb
  have HW3 := Lib.hid hW3
  clear hW3 hg hgr
  go_wp2_with fail
  rw [HW3.out]
  refine htk.mono ?_
  clear htk
  rintro e w4 ⟨tv, rfl, hown, hb4⟩
  have hown : OwnN W3.heap.size w4 tv (takenP p) := hown
  obtain ⟨ta, tc, rfl, ht1, ht2⟩ := hown.form
  obtain ⟨e0, e1⟩ := (q3.below hb4 q3.lt).two
  have hs4 := hb4.size
  have hgr4 := hgr3.below hb4 (by omega) (Nat.le_refl _)
  have hlist := list_any w4.heap.size (.slice na (names p).length ncap) (.map (some b)) (names p) (.slice ta (takenP p).length tc) (takenP p) w4 ((hgr4.below (Below.refl w4.heap.size w4) (by omega) (by omega)).1) hown.nats (Nat.le_refl _) (takenP_lt p) (by have := takenP_length p; omega)
  have hb04 : Below B0 w w4 := (hb02.trans (hb3.mono (by omega))).trans (hb4.mono (by omega))
  unfold maxLen at ht2 hn2
  by_cases hc : (takenP p).length < (names p).length
  · have hE : orderE p = 150 := by unfold orderE ordB; rw [if_neg (by simpa using hc)]
    have hL : orderL p = [] := by unfold orderL ordB; rw [if_neg (by simpa using hc)]
    go_wp2_with fail
    go_ret2
    exact ⟨_, by rw [hE]; rfl, by rw [hL]; exact OwnS.nil _ _, hb04⟩
  · have hE : orderE p = 0 := by unfold orderE ordB; rw [if_pos (by simpa using hc)]
    have hL : orderL p = named (names p) (takenP p) := by unfold orderL ordB; rw [if_pos (by simpa using hc)]
    go_wp2_with fail
    refine hlist.mono ?_
    clear hlist
    rintro e w5 ⟨x, rfl, hown5, hb5⟩
    go_wp2_with fail
    go_ret2
    exact ⟨x, by rw [hE]; rfl, by rw [hL]; exact hown5.mono (by omega), hb04.trans (hb5.mono (by omega))⟩
end Go.Proofs.Ythbnbjigmgoldaa
