/- The reference of layer 15: Depends. No conditions beyond the readings of the arguments. -/
import Derived.Test.YthbnbjigmgoldaaOrDirect
import Derived.Test.YthbnbjigmgoldaaOrNames
import Derived.Test.YthbnbjigmgoldaaOReach
import Derived.Deep.Cut
namespace Go.Proofs.Ythbnbjigmgoldaa
open Go.RowKit
set_option linter.unusedVariables false

theorem depends_filter (p : Pl) (a : Str) : depends p a = (names p).filter fun s => direct p a s := by
  unfold depends named deps
  obtain ⟨ns, hns⟩ : ∃ ns, names p = ns := ⟨_, rfl⟩
  rw [hns]
  have h : (List.range ns.length).map (fun i => ns[i]?.getD []) = ns := by
    refine List.ext_getElem (by simp) fun i h1 h2 => ?_
    simp [List.getElem?_eq_getElem h2]
  conv => rhs; rw [← h]
  rw [List.filter_map]
  rfl
theorem filter_snoc (ns : List Str) (f : Str → Bool) (k : Nat) (h : k < ns.length) : (ns.take (k + 1)).filter f = if f (ns[k]?.getD []) then (ns.take k).filter f ++ [ns[k]?.getD []] else (ns.take k).filter f := by
  rw [List.take_succ_eq_append_getElem h, List.filter_append, List.getElem?_eq_getElem h]
  by_cases hf : f ns[k] = true <;> simp [hf]

set_option maxRecDepth 100000 in
set_option maxHeartbeats 2000000 in
theorem rdepends_any (K : Nat) (p : Pl) (nm : ByteArray) (vd vt vc : Value) (a : Str) (w : World) (h : PlanIs K w vd vc p) (hK : K ≤ w.heap.size) (hbig : p.size ≤ 2 ^ 38) (ha : a.length ≤ maxLen) :
    Calls Try.prog 22 #[.agg #[.string nm, vd, vt, vc], S a] w fun e w' => ∃ x, e = .returned x ∧ OwnS w.heap.size w' x (depends p a) ∧ Below w.heap.size w w' := by
  obtain ⟨da, dn, dm, rfl⟩ : ∃ a n m, vd = .slice a n m := by obtain ⟨g, hg, _⟩ := h.1; obtain ⟨a, m, hv, _⟩ := hg.form; exact ⟨a, _, m, hv⟩
  obtain ⟨ca, cn, cm, rfl⟩ : ∃ a n m, vc = .slice a n m := by obtain ⟨g, hg, _⟩ := h.2; obtain ⟨a, m, hv, _⟩ := hg.form; exact ⟨a, _, m, hv⟩
  obtain ⟨B0, hB0⟩ : ∃ B0, w.heap.size = B0 := ⟨_, rfl⟩
  rw [hB0] at hK ⊢
  obtain ⟨W1, hW1⟩ : ∃ W1, w.alloc (.cells #[.string nm, .slice da dn dm, vt, .slice ca cn cm] 26) = W1 := ⟨_, rfl⟩
  have hb1 : Below B0 w W1 := by rw [← hW1]; exact (Below.refl B0 w).alloc (by omega) _
  have q1 : Blk W1 B0 #[.string nm, .slice da dn dm, vt, .slice ca cn cm] 26 := by rw [← hW1, ← hB0]; exact Blk.new w _ _
  have hB1 := q1.lt
  have HD := Lib.hid (depends_filter p a)
  obtain ⟨dl, hdl⟩ : ∃ dl, depends p a = dl := ⟨_, rfl⟩
  rw [hdl] at HD ⊢
  have hnl : (names p).length ≤ 2 ^ 38 := Nat.le_trans (names_length p) (by unfold Pl.size at hbig; omega)
  have hn := rnames_any K p nm (.slice da dn dm) vt (.slice ca cn cm) W1 (h.1.below hb1 hK (Nat.le_refl _)) (by omega) (by unfold Pl.size at hbig; omega)
  have HB := Lib.hid hB0
  have HW1 := Lib.hid hW1
  obtain ⟨d0, d1, d2, d3⟩ := q1.four
  clear hB0 hW1 hdl
  go_enter Try.func22, Try.ntmps22
  go_wp2_with fail
  simp only [HB.out]
  rw [HW1.out]
  go_wp2_with fail
  refine hn.mono ?_
  rintro e w2 ⟨x2, rfl, hns, b2⟩
  obtain ⟨na, nc, rfl, hn1, hn2⟩ := hns.form
  have hb2 := hb1.trans (b2.mono (by omega))
  have q2 := q1.below b2 hB1
  unfold maxLen at hn2
  obtain ⟨ns, hnsE⟩ : ∃ ns, names p = ns := ⟨_, rfl⟩
  rw [hnsE] at hns hn1 hnl HD ⊢
  obtain ⟨N0, hN0⟩ : ∃ N0, w2.heap.size = N0 := ⟨_, rfl⟩
  rw [hN0] at hns
  have hN2 : N0 ≤ w2.heap.size := by omega
  have hBN : B0 < N0 := by rw [← hN0]; exact q2.lt
  clear hn d0 d1 d2 d3 hnsE hN0
  go_wp2_with fail
  go_loopw [6, 7] (fun lv i wr => ∃ (k : Nat), k ≤ ns.length ∧ i = .int .i64 k ∧ OwnS N0 wr lv ((ns.take k).filter fun s => direct p a s) ∧ Below B0 w wr ∧ Blk wr B0 #[.string nm, .slice da dn dm, vt, .slice ca cn cm] 26 ∧ Strs N0 wr (.slice na ns.length nc) ns ∧ N0 ≤ wr.heap.size) (fun _ i _ => ns.length - (intOf i).toNat)
  case atStart => exact ⟨0, Nat.zero_le _, rfl, OwnS.nil _ _, hb2, q2, hns, hN2⟩
  case round =>
    obtain ⟨k, hk, rfl, hown, hbw, q, hns, hN⟩ := hrel
    obtain ⟨la, lc, rfl, hl1, hl2⟩ := hown.form
    by_cases hlt : k < ns.length
    · obtain ⟨b, o, cap, he, _, _, hbN, hc⟩ := hns.pos (by omega)
      simp only [Value.slice.injEq, true_and] at he
      obtain ⟨rfl, rfl⟩ := he
      have c0 := hc k hlt
      have hsl : (ns[k]?.getD []).length ≤ maxLen := hns.len
      have HS := Lib.hid (filter_snoc ns (fun s => direct p a s) k hlt)
      obtain ⟨s, hs⟩ : ∃ s, ns[k]?.getD [] = s := ⟨_, rfl⟩
      rw [hs] at c0 hsl HS
      have hfl : ((ns.take k).filter fun s => direct p a s).length ≤ 2 ^ 38 := Nat.le_trans (List.length_filter_le _ _) (by rw [List.length_take]; omega)
      obtain ⟨out, hout⟩ : ∃ out, ((ns.take k).filter fun s => direct p a s) = out := ⟨_, rfl⟩
      rw [hout] at hown HS hfl hl1 ⊢
      have hbd : Below B0 w wr.drew := hbw.trans (Below.refl _ wr).drew
      have hd := rdirect_any K p nm (.slice da dn dm) vt (.slice ca cn cm) a s wr.drew (h.below hbd hK (Nat.le_refl _)) (by show K ≤ wr.heap.size; omega) hbig ha hsl
      obtain ⟨db, hdb⟩ : ∃ db, direct p a s = db := ⟨_, rfl⟩
      rw [hdb] at hd HS
      clear hc hs hout hdb
      go_upto_region 6 with fail
      refine wp_onlyN ?_
      refine region_plain (fun W => Blk W B0 #[.string nm, .slice da dn dm, vt, .slice ca cn cm] 26 ∧ W.cell? ⟨b, o + k, none⟩ = some (S s)) [] (by kernel_rfl) ?_
      have qS : (fun W => Blk W B0 #[.string nm, .slice da dn dm, vt, .slice ca cn cm] 26 ∧ W.cell? ⟨b, o + k, none⟩ = some (S s)) wr.drew := ⟨q, c0⟩
      refine wpAnyD_take (i := 0) (v := .agg #[.string nm, .slice da dn dm, vt, .slice ca cn cm]) rfl (by kernel_rfl) (by kernel_rfl) (by kernel_rfl) (by kernel_rfl) (by kernel_rfl) (fun _ _ _ h => h) (.inl ⟨by kernel_rfl, fun W' hS => by obtain ⟨c0, c1, c2, c3⟩ := Blk.four hS.1; go_simp⟩) qS ?_
      refine wpAnyD_take (i := 1) (v := S a) rfl (by kernel_rfl) (by kernel_rfl) (by kernel_rfl) (by kernel_rfl) (by kernel_rfl) (fun _ _ _ h => h) (.inl ⟨by kernel_rfl, fun W' hS => by go_simp⟩) qS ?_
      refine wpAnyD_take (i := 2) (v := .slice (some ⟨b, o, none⟩) ns.length nc) rfl (by kernel_rfl) (by kernel_rfl) (by kernel_rfl) (by kernel_rfl) (by kernel_rfl) (fun _ _ _ h => h) (.inl ⟨by kernel_rfl, fun W' hS => by go_simp⟩) qS ?_
      refine wpAnyD_take (i := 3) (v := .int .i64 k) rfl (by kernel_rfl) (by kernel_rfl) (by kernel_rfl) (by kernel_rfl) (by kernel_rfl) (fun _ _ _ h => h) (.inl ⟨by kernel_rfl, fun W' hS => by go_simp⟩) qS ?_
      refine wpAnyD_take (i := 4) (v := .pointer (some ⟨b, o + k, none⟩)) rfl (by kernel_rfl) (by kernel_rfl) (by kernel_rfl) (by kernel_rfl) (by kernel_rfl) (fun _ _ _ h => h) (.inl ⟨by kernel_rfl, fun W' hS => by go_simp⟩) qS ?_
      refine wpAnyD_take (i := 5) (v := S s) rfl (by kernel_rfl) (by kernel_rfl) (by kernel_rfl) (by kernel_rfl) (by kernel_rfl) (fun _ _ _ h => h) (.inl ⟨by kernel_rfl, fun W' hS => by have c2 := hS.2; go_simp⟩) qS ?_
      refine wpAnyD_one (i := 6) (by kernel_rfl) rfl (by kernel_rfl) ?_
      go_simp
      refine hd.mono ?_
      rintro e w5 ⟨rfl, b5⟩
      have b5 : Below wr.heap.size wr w5 := (Below.refl _ wr).drew.trans b5
      have s5 := b5.size
      have own5 := hown.old b5 (Nat.le_refl _)
      have bw5 := hbw.trans (b5.mono (by omega))
      have q5 := q.below b5 q.lt
      have hns5 := hns.below b5 hN (Nat.le_refl _)
      have c5 := (b5.cell (p := ⟨b, o + k, none⟩) (by show b < wr.heap.size; omega)).trans c0
      have qS5 : (fun W => Blk W B0 #[.string nm, .slice da dn dm, vt, .slice ca cn cm] 26 ∧ W.cell? ⟨b, o + k, none⟩ = some (S s)) w5 := ⟨q5, c5⟩
      go_simp
      try refine ⟨qS5, ?_⟩
      refine wpAnyD_done (by kernel_rfl) ?_ _
      refine onlyN_mk ?_
      clear qS qS5 hd hns hown q c0 hbd
      go_simp
      cases db with
      | false =>
        go_wp2_with fail
        exact ⟨⟨k + 1, by omega, by go_num, by rw [HS.out]; exact own5, bw5, q5, hns5, by omega⟩, by simp [intOf]; omega⟩
      | true =>
        have own5' := own5.old (w' := w5.alloc (.cells #[S s] 9)) ((Below.refl _ _).alloc (Nat.le_refl _) _) (Nat.le_refl _)
        have q3 := (Blk.new w5 #[S s] 9).at (i := 0) rfl
        go_wp2_with (at_builtin; refine wpList_append_S rfl (.tmp 23) (.tmp 28) rfl rfl rfl own5' q3 hsl (by omega) (by simp; omega) ?_; intro g4 cap4 w4 own4 hg4 hat4)
        have hlo : ∀ r, (Value.slice la out.length lc).ownBlock = some r → N0 ≤ r := fun r hr => (ownsRow_cells own5.1 hr).1
        have s4 := hg4.size
        simp only [World.size_alloc] at s4
        have b4 : Below N0 w5 w4 := ((Below.refl N0 w5).alloc (by omega) (.cells #[S s] 9)).trans (below_grown hg4 (fun r hr => hlo r hr) (by simp; omega))
        exact ⟨⟨k + 1, by omega, by go_num, by rw [HS.out]; exact own4, bw5.trans (b4.mono (by omega)), q5.below b4 hBN, hns5.below b4 (Nat.le_refl _) (Nat.le_refl _), by omega⟩, by simp [intOf]; omega⟩
    · obtain rfl : k = ns.length := by omega
      rw [List.take_length, ← HD.out] at hown ⊢
      go_wp2_with fail
      go_ret
      exact ⟨_, rfl, hown.mono (Nat.le_of_lt hBN), hbw⟩
end Go.Proofs.Ythbnbjigmgoldaa
